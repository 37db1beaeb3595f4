/- The code computes the plain functions: proofs written by shal.py. -/
import Derived.Test.YthfphcbipahkmaaGreatDoorOfmP
import Derived.Test.YthfphcbipahkmaaGreatDoorLib
open Bool renaming eq_iff_iff→ad
open List renaming length_set→ac,mem_cons→af,not_mem_nil→ag
open Nat renaming le_of_ble_eq_true→al
open Option renaming some.inj→ap
set_option maxHeartbeats 4000000
set_option maxRecDepth 100000
set_option linter.unusedVariables false
set_option linter.unusedSimpArgs false
namespace Go.Proofs.YthfphcbipahkmaaGreatDoor
open Go Go.Eng Go.Proofs Go.Beacon
attribute [local irreducible] ae ab AQ QV aP aj Sf AM
instance ahA:NL Tryz.prog 27:=⟨by kernel_rfl⟩
instance ahB:yS Tryz.prog 27 2 Version.av:=⟨fun x y w S v u hv hu=>by
 obtain ⟨vs,rfl,hl,ha⟩:=At.pO hv
 obtain ⟨us,rfl,FI,ME⟩:=At.pO hu
 obtain ⟨v0,p0,q0⟩:=o8.get hl ha (off:=0) rfl
 obtain ⟨u0,p0',q0'⟩:=o8.get FI ME (off:=0) rfl
 obtain ⟨v1,p1,q1⟩:=o8.get hl ha (off:=1) rfl
 obtain ⟨u1,p1',q1'⟩:=o8.get FI ME (off:=1) rfl
 obtain ⟨v2,p2,q2⟩:=o8.get hl ha (off:=2) rfl
 obtain ⟨u2,p2',q2'⟩:=o8.get FI ME (off:=2) rfl
 refine Gm.cast (Gm.struct Tryz.underlying27 (by kernel_rfl) (.cons (by decide) (qo J p0) (qo J p0') (Gm.up (yS.h (g:=I) x.aA y.aA w S _ _ q0 q0') 0) (.cons (by decide) (qo J p1) (qo J p1') (Gm.up (yS.h (g:=I) x.aC y.aC w S _ _ q1 q1') 0) (.cons (by decide) (qo J p2) (qo J p2') (Gm.up (yS.h (g:=I) x.aD y.aD w S _ _ q2 q2') 0) .nil)))) ?_
 obtain ⟨_,_,_⟩:=x
 obtain ⟨_,_,_⟩:=y
 rw [ad];simp [and_assoc]⟩
instance ahC:dC Tryz.prog 27 Version.av:=dC.struct (n:=3) J Tryz.underlying27 (fun f hf=>by
 simp only [af,ag,or_false] at hf
 rcases hf with rfl | rfl | rfl
 ·exact ⟨_,aB.h (P:=Tryz.prog) (t:=3),J,by decide⟩
 ·exact ⟨_,aB.h (P:=Tryz.prog) (t:=3),J,by decide⟩
 ·exact ⟨_,aB.h (P:=Tryz.prog) (t:=3),J,by decide⟩) (fun x=>⟨_,J,J,fun c hc=>by
 simp only [af,ag,or_false] at hc
 rcases hc with rfl | rfl | rfl<;>rfl⟩) (fun a b h=>by
 obtain ⟨_,_,_⟩:=a
 obtain ⟨_,_,_⟩:=b
 simpa [Version.av] using h)
instance ahD:NL Tryz.prog 59:=⟨by kernel_rfl⟩
instance ahE:yS Tryz.prog 59 3 cd.av:=⟨fun x y w S v u hv hu=>by
 obtain ⟨vs,rfl,hl,ha⟩:=At.pO hv
 obtain ⟨us,rfl,FI,ME⟩:=At.pO hu
 obtain ⟨v0,p0,q0⟩:=o8.get hl ha (off:=0) rfl
 obtain ⟨u0,p0',q0'⟩:=o8.get FI ME (off:=0) rfl
 obtain ⟨v2,p2,q2⟩:=o8.get hl ha (off:=4) rfl
 obtain ⟨u2,p2',q2'⟩:=o8.get FI ME (off:=4) rfl
 refine Gm.cast (Gm.struct Tryz.underlying59 (by kernel_rfl) (.cons (by decide) (qo J p0) (qo J p0') (Gm.up (yS.h (g:=AV.str) x.Device y.Device w S _ _ q0 q0') 1) (.cons (by decide) (Eg J J) (Eg J J) (Gm.up (yS.h (g:=Version.av) x.Version y.Version w S _ _ (o8.sub hl ha 1 3 (al J)) (o8.sub FI ME 1 3 (al J))) 0) (.cons (by decide) (qo J p2) (qo J p2') (Gm.up (yS.h (g:=I) x.cM y.cM w S _ _ q2 q2') 1) .nil)))) ?_
 obtain ⟨_,_,_⟩:=x
 obtain ⟨_,_,_⟩:=y
 rw [ad];simp [and_assoc]⟩
abbrev eJ (xs:List Int):AV:=.list 1 (xs.map I)
abbrev Du (xs:List bn):AV:=.list 1 (xs.map AV.str)
abbrev QA (xs:List mH):Ob:=.arr 4 (xs.map mH.av)
abbrev cE0 (x:Campaign) (b5:Bk):List AV:=[.str x.Key,I x.Target.aA,I x.Target.aC,I x.Target.aD,I x.At,.sl 4 b5 0 x.aR.length,I x.aZ.bS,I x.aZ.To,I x.Room]
abbrev yg (xs:List an):Ob:=.arr 6 (xs.map an.av)
abbrev aE4 (xs:List Range):Ob:=.arr 6 (xs.map Range.av)
abbrev QB (xs:List Range):AV:=.list 6 (xs.map Range.av)
abbrev wL (xs:List DeviceS):Ob:=.arr 7 (xs.map DeviceS.av)
abbrev ue (xs:List DeviceS):AV:=.list 7 (xs.map DeviceS.av)
abbrev sD (xs:List MarkS):Ob:=.arr 6 (xs.map MarkS.av)
abbrev p9 (xs:List mH):AV:=.list 4 (xs.map mH.av)
abbrev Cq (x:Campaign):List AV:=[.str x.Key,I x.Target.aA,I x.Target.aC,I x.Target.aD,I x.At,p9 x.aR,I x.aZ.bS,I x.aZ.To,I x.Room]
abbrev cE2 (x:mH):List AV:=[I x.Part,I x.vg,I x.Aj,I x.et]
abbrev rP (xs:List an):AV:=.list 6 (xs.map an.av)
abbrev ET (x:an):List AV:=[I x.Version.aA,I x.Version.aC,I x.Version.aD,Du x.dc,QB x.bS,I x.cM]
abbrev cE4 (x:Range):List AV:=[I x.wC.aA,I x.wC.aC,I x.wC.aD,I x.mI.aA,I x.mI.aC,I x.mI.aD]
abbrev lE7 (xs:List N9):AV:=.list 2 (xs.map N9.av)
abbrev Tx (x:DeviceS):List AV:=[.str x.Key,.str x.Model,.str x.fb,I x.bQ.aA,I x.bQ.aC,I x.bQ.aD,lE7 x.o5]
abbrev uf (xs:List MarkS):AV:=.list 6 (xs.map MarkS.av)
abbrev fE0 (x:ao):List AV:=[I x.ak.Kind,I x.ak.Since,I x.ak.Version.aA,I x.ak.Version.aC,I x.ak.Version.aD,I x.ak.et,I x.bb.aA,I x.bb.aC,I x.bb.aD]
abbrev u3 (b:Bk) (s:Nat→Bk) (x:ao):List (Bk×PO):=[(b,.cells [I x.ak.Kind,I x.ak.Since,I x.ak.Version.aA,I x.ak.Version.aC,I x.ak.Version.aD,I x.ak.et,I x.bb.aA,I x.bb.aC,I x.bb.aD])]
theorem UU:KB u3 fE0:=⟨⟨fun x=>[.v (I x.ak.Kind),.v (I x.ak.Since),.v (I x.ak.Version.aA),.v (I x.ak.Version.aC),.v (I x.ak.Version.aD),.v (I x.ak.et),.v (I x.bb.aA),.v (I x.bb.aC),.v (I x.bb.aD)],fun _ _ _=>J,fun _=>J⟩⟩
abbrev yG (xs:List (bn×Int)):Ob:=.mp (xs.map (fun e=>(AV.str e.1,I e.2)))
abbrev dH (xs:List Int):Ob:=.arr 1 (xs.map I)
abbrev LM (x:bF) (b4:Bk):List AV:=[rP x.pd,I x.GN.aA,I x.GN.aC,I x.GN.aD,.bV b4]
abbrev Wa (xs:List an):Ob:=.Bb 6 (xs.map an.av)
abbrev Wb (xs:List (List an)):Ob:=.arr 1 (xs.map (K7 6 an.av))
abbrev LN (xs:List (Version×aq)):Ob:=.mp (xs.map (fun e=>(Version.av e.1,aq.av e.2)))
abbrev uM (xs:List Version):Ob:=.arr 3 (xs.map Version.av)
abbrev sK (xs:List Version):AV:=.list 3 (xs.map Version.av)
abbrev vL (xs:List (bn×(List (Version×aq)))):Ob:=.mp (xs.map (fun e=>(AV.str e.1,(GL Version.av aq.av) e.2)))
abbrev BA (xs:List cd):Ob:=.arr 5 (xs.map cd.av)
abbrev abP (xs:List Int):AV:=.list 1 (xs.map (AV.int .u8))
abbrev YN:=(fun (e:Version×aF)=>(Version.av e.1,aF.av e.2))
abbrev Of (xs:List (Version×aF)):Ob:=.mp (xs.map (fun e=>(Version.av e.1,aF.av e.2)))
abbrev Ty (xs:List cd):AV:=.list 5 (xs.map cd.av)
abbrev fE5 (xs:List DeviceS):Ob:=.Bb 7 (xs.map DeviceS.av)
theorem HU [GI:bN] {aa ai r:Int} (h:Below aa ai=some r):Pu Tryz.prog 80 [I aa,I ai] (I r):=by
 unfold Below at h
 refine aP.bI Tryz.func80 J Tryz.ntmps80 Tryz.results80 J J ?_
 refine aJ<|rA J J<|rN<|tS<|aJ<|rM J J<|ae.qv (bO J J) J<|rN<|cD h J (fun h=>?_) (fun h=>?_)
 ·refine aJ<|rA J J<|rN<|ab.ret<|?_
  cases h
  exact hP J J
 ·refine tK<|aJ<|rM J J<|rM J J<|aH h fun n1 e1 h=>ae.qv (Pz J J e1) J<|rA J J<|rN<|tS<|aJ<|rM J J<|ae.qv (bO J J) J<|rN<|ab.cut (fun aK=>∃ (n2:Int),y9 n2=some r∧aK=⟨16,[(0,I n2)],[]⟩) ?_ ?_
  ·refine cD h J (fun h=>?_) (fun h=>?_)
   ·exact tR<|rM J J<|rM J J<|ae.qv (bq J J) J<|rA J J<|rN<|ab.stop<|aj.lq [] ⟨bB (n1+ai),h,J⟩ J J
   ·exact tK<|ab.stop<|aj.lq [] ⟨n1,h,J⟩ J J
  ·rintro aK ⟨n2,h,rfl⟩
   unfold y9 at h
   refine aJ<|rM J J<|rA J J<|rN<|ab.ret<|?_
   cases h
   exact hP J J
theorem fU [GI:bN] {bt:Bk} {aa:ah} {ai:Int} {r:Int×ah} (h:ez aa ai=some r):aP Tryz.prog 31 [.ptr bt 0,I ai] [(bt,.cells [eJ aa.L,I aa.at_])] (T0 ([(bt,.cells [eJ r.2.L,I r.2.at_])]) (I r.1)):=by
 unfold ez at h
 refine aP.hC ?_
 refine aP.bI Tryz.func31 J Tryz.ntmps31 Tryz.results31 J J ?_
 refine aJ<|rA J J<|rN<|aJ<|rM J J<|ae.qv (aE J) J<|rF J J J<|rL J J .p0 J J<|ae.qv (bq J J) J<|ae.qv (aE J) J<|rF J J J<|ay J J J J .p0 J J<|rN<|tS<|aJ<|rM J J<|ae.qv (aE J) J<|rF J J J<|rL J J .p0 J J<|ae.qv (ca J) J<|ae.qv (dt J J) J<|rN<|cD h J (fun h=>?_) (fun h=>?_)
 ·refine aJ<|rM J J<|ae.qv (aE J) J<|rF J J J<|rL J J .p0 J J<|ae.qv (sR J J) J<|rM J J<|aH h fun v1 e1 h=>aT J (HU e1) cR J<|rA J J<|rN<|ab.ret<|?_
  cases h
  exact hH J [0] J ⟨J,J⟩
 ·refine tK<|tS<|ab.cU (id:=4) (A:=[0,1,3,7,15,0,32,96,224,480,1023,2047]) 12 mixed J (by kernel_rfl) (by kernel_rfl)<|AM.qv (aM J) J<|AM.qv (aE J) J<|AM.qv (az J J) J<|AM.qv (aN J J .p0 J) J<|AM.qv (eK J J) J<|AM.qv (aM J) J<|AM.qv (aE J) J<|AM.qv (az J J) J<|AM.qv (aN J J .p0 J) J<|AM.qv (ca J) J<|aH h fun n2 e2 h=>AM.qv (Pz J J e2) J<|AM.qv (bR J) J<|AM.nil<|rN<|tS<|ab.cU (id:=5) (A:=[0,1,3,7,15,0,32,96,224,480,1023,2047]) 12 mixed J (by kernel_rfl) (by kernel_rfl)<|AM.qv (aM J) J<|AM.qv (aE J) J<|AM.qv (az J J) J<|AM.qv (aN J J .p0 J) J<|AM.qv (eK J J) J<|AM.qv (aM J) J<|AM.qv (aE J) J<|AM.qv (az J J) J<|AM.qv (aN J J .p0 J) J<|AM.qv (ca J) J<|aH h fun n3 e3 h=>AM.qv (Vs J J e3) J<|AM.qv (bR J) J<|AM.nil<|rN<|aJ<|rM J J<|ae.qv (aE J) J<|rF J J J<|rL J J .p0 J J<|rM J J<|aH h fun v4 e4 h=>ae.qv (bG J J J e4 J J) J<|ae.qv (aQ J J J) J<|aH h fun v5 e5 h=>aT J (HU e5) cR J<|rM J J<|rM J J<|ae.qv (bq J J) J<|ae.qv (sR J J) J<|ae.qv (bq J J) J<|rM J J<|aH h fun v6 e6 h=>aT J (HU e6) cR J<|rA J J<|rN<|ab.ret<|?_
  cases h
  exact hH J [0] J ⟨J,J⟩
theorem mT [GI:bN] {bt:Bk} {aa:ah} {ai:List bn} {r:bn×ah} (h:iI aa ai=some r):aP Tryz.prog 32 [.ptr bt 0,Du ai] [(bt,.cells [eJ aa.L,I aa.at_])] (T0 ([(bt,.cells [eJ r.2.L,I r.2.at_])]) (.str r.1)):=by
 unfold iI at h
 refine aP.hC ?_
 refine aP.bI Tryz.func32 J Tryz.ntmps32 Tryz.results32 J J ?_
 refine aJ<|rA J J<|rN<|aJ<|rM J J<|rM J J<|rM J J<|ae.qv (ca J) J<|aH h fun v1 e1 h=>br J (fU e1) cR (.cons .p0 .nil) J J<|aH h fun v2 e2 h=>ae.qv (bG J J J e2 J J) J<|ae.qv (aQ J J J) J<|rA J J<|rN<|ab.ret<|?_
 cases h
 exact hH J [0] J ⟨J,J⟩
theorem cF [GI:bN] {bt:Bk} {aa:ah} {ai:List Int} {r:Int×ah} (h:cA aa ai=some r):aP Tryz.prog 8 [.ptr bt 0,eJ ai] [(bt,.cells [eJ aa.L,I aa.at_])] (T0 ([(bt,.cells [eJ r.2.L,I r.2.at_])]) (I r.1)):=by
 unfold cA at h
 refine aP.hC ?_
 refine aP.bI Tryz.func8 J Tryz.ntmps8 Tryz.results8 J J ?_
 refine aJ<|rA J J<|rN<|aJ<|rM J J<|rM J J<|rM J J<|ae.qv (ca J) J<|aH h fun v1 e1 h=>br J (fU e1) cR (.cons .p0 .nil) J J<|aH h fun v2 e2 h=>ae.qv (bG J J J e2 J J) J<|ae.qv (aQ J J J) J<|rA J J<|rN<|ab.ret<|?_
 cases h
 exact hH J [0] J ⟨J,J⟩
theorem zN [GI:bN] {aa:Int} {r:Version} (h:whole aa=r):Pu Tryz.prog 37 [I aa] (Version.av r):=by
 unfold whole at h
 refine aP.bI Tryz.func37 J Tryz.ntmps37 Tryz.results37 J J ?_
 refine aJ<|bH J J J J fun b1=>rN<|aJ<|rM J J<|ae.qv (dv J J J J J) J<|ay J J J J .p0 J J<|rN<|ab.ret<|?_
 obtain rfl:=h
 exact aj.here ⟨_,.cons (.all _ _ _ _ _ _ J .p0 aB.h aX.h J J) .nil,J⟩
theorem eW [GI:bN] {bt:Bk} {aa:ah} {ai:Int} {r:Bool×ah} (h:dZ aa ai=some r):aP Tryz.prog 24 [.ptr bt 0,I ai] [(bt,.cells [eJ aa.L,I aa.at_])] (T0 ([(bt,.cells [eJ r.2.L,I r.2.at_])]) (.bool r.1)):=by
 unfold dZ at h
 refine aP.hC ?_
 refine aP.bI Tryz.func24 J Tryz.ntmps24 Tryz.results24 J J ?_
 refine aJ<|rA J J<|rN<|aJ<|rM J J<|rM J J<|aH h fun v1 e1 h=>br J (fU e1) cR (.cons .p0 .nil) J J<|ae.qv (dt J J) J<|rA J J<|rN<|ab.ret<|?_
 cases h
 exact hH J [0] J ⟨J,J⟩
theorem xN [GI:bN] {bt:Bk} {aa:ah} {r:Campaign×ah} (h:jE aa=some r):aP Tryz.prog 30 [.ptr bt 0] [(bt,.cells [eJ aa.L,I aa.at_])] (T1 (fun EU=>[(bt,.cells [eJ r.2.L,I r.2.at_]),(EU,QA r.1.aR)]) (fun EU=>.agg [.str r.1.Key,I r.1.Target.aA,I r.1.Target.aC,I r.1.Target.aD,I r.1.At,.sl 4 EU 0 r.1.aR.length,I r.1.aZ.bS,I r.1.aZ.To,I r.1.Room])):=by
 unfold jE at h
 refine aP.hC ?_
 refine aP.bI Tryz.func30 J Tryz.ntmps30 Tryz.results30 J J ?_
 refine aJ<|bH J J J J fun b1=>rN<|aJ<|rM J J<|aW (xs:=([([99]:bn),([107]:bn),([122,57]:bn)]).map AV.str) J J J J J J<|aH h fun v2 e1 h=>br J (mT e1) cR (.cons .p1 .nil) J J<|rM J J<|aW (xs:=([2,3,4]).map I) J J J J J J<|aH h fun v3 e2 h=>br J (cF e2) cR (.cons .p0 .nil) J J<|aT J (zN J) cR J<|rM J J<|aW (xs:=([0,10,100]).map I) J J J J J J<|aH h fun v4 e3 h=>br J (cF e3) cR (.cons .p0 .nil) J J<|rM J J<|aW (xs:=([1,2,5]).map I) J J J J J J<|aH h fun v5 e4 h=>br J (cF e4) cR (.cons .p0 .nil) J J<|ae.qv (dv J J J J J) J<|bH J J J J fun b6=>ay J J J J .p0 J J<|rN<|aJ<|aW (xs:=([1000]).map I) J J J J J J<|aW (xs:=([500,500]).map I) J J J J J J<|aW (xs:=([200,300,500]).map I) J J J J J J<|aW (xs:=([100,900]).map I) J J J J J J<|aW (xs:=([[1000],[500,500],[200,300,500],[100,900]]).map (K7 1 I)) J J J J J J<|rM J J<|aH h fun v7 e5 h=>br J (fU e5) cR (.cons .p1 .nil) J J<|aH h fun v8 e6 h=>ae.qv (bG J J J e6 J J) J<|ae.qv (aQ J J J) J<|rA J J<|rN<|tS<|aJ<|rM J J<|ae.qv (ca J) J<|rM J J<|rN<|ab.block<|ab.cx (fun x:(List Int)×Int×(List mH)×Int=>ic v2 v3 v4 v5 v8 x.1 x.2.1 x.2.2.1 x.2.2.2) (fun x aK=>∃ (MT:Bk),aK=⟨64,[(0,.ptr bt 0),(2,.ptr b1 0),(3,.ptr b6 0),(30,eJ v8),(31,I (v8.length:Int)),(32,I x.2.2.2)],[(bt,.cells [eJ x.1,I x.2.1]),(b1,.cells [.str [],I 0,I 0,I 0,I 0,.nil,I 0,I 0,I 0]),(b6,.cells [.str v2.1,I ((whole v3.1).aA),I ((whole v3.1).aC),I ((whole v3.1).aD),I v4.1,.sl 4 MT 0 x.2.2.1.length,I 0,I 0,I v5.1]),(MT,QA x.2.2.1)]⟩) h ?_ ?_
 ·exact aj.Lc (j:=5) 4 (fun _=>.p1) J (fun _=>J) (fun _=>J) fun qk=>aj.lq [1,2,1,0] ⟨qk,J⟩ J J
 ·intro x z1 aK J1 dY h jl dQ
  obtain ⟨yF,n15,vB,n18⟩:=x
  obtain ⟨MT,rfl⟩:=dY
  replace h:ic v2 v3 v4 v5 v8 yF n15 vB n18=some z1:=h
  unfold ic at h
  refine aJ<|ae.qv (bO J J) J<|rN<|tS<|cD h J (fun h=>?_) (fun h=>?_)
  ·refine tK<|tS<|ab.block<|aJ<|aH h fun v20 e7 h=>ae.qv (bG J J J e7 J J) J<|ae.qv (aQ J J J) J<|rA J J<|rN<|aH h fun v21 e8 h=>aH h fun v22 e9 h=>aH h fun v23 BB h=>ab.jN (id:=6) (A:=[0,1,0,0,0,24,0,0,248,0,0,2040,4092,8188,16383,32767,65535]) (H0:=[(bt,.cells [eJ yF,I n15])]) (HH:=fun β=>[(bt,.cells [eJ v23.2.L,I v23.2.at_]),(b1,.cells [.str [],I 0,I 0,I 0,I 0,.nil,I 0,I 0,I 0]),(b6,.cells [.str v2.1,I ((whole v3.1).aA),I ((whole v3.1).aC),I ((whole v3.1).aD),I v4.1,.sl 4 MT 0 vB.length,I 0,I 0,I v5.1]),(MT,QA vB)]) 14 mixed J (by kernel_rfl) (by kernel_rfl) [⟨none,some 5,[],fun _=>(bt,.cells [eJ yF,I n15]),none,[]⟩,⟨some 5,some 8,[],fun _=>(bt,.cells [eJ v21.2.L,I v21.2.at_]),none,[]⟩,⟨some 8,some 11,[],fun _=>(bt,.cells [eJ v22.2.L,I v22.2.at_]),none,[]⟩,⟨some 11,none,[],fun _=>(bt,.cells [eJ v23.2.L,I v23.2.at_]),none,[]⟩] [] J (by kernel_rfl) J (.cons .p0 .nil) (fun _=>J)<|AT.am 5 J J<|AM.qv (az J J) J<|AM.qv (aN J J .p1 J) J<|AM.qv (aM J) J<|AM.qv (aM J) J<|AM.cO (xs:=([0,0,10,30]).map I) J J J J J J<|AM.nil<|AT.Bl (av:=I v21.1) (Ti:=[(bt,.cells [eJ yF,I n15])]) (Pi:=[(bt,.cells [eJ v21.2.L,I v21.2.at_])]) (fun _=>J) (fun _=>J) (fun _=>J) J J J ?_ ?_
   ·exact br J (cF e8) cR (.cons .p0 .nil) J J<|ae.nil ⟨_,J,J⟩
   refine AT.am 2 J J<|AM.qv (aM J) J<|AM.cO (xs:=([1,1,2,3]).map I) J J J J J J<|AM.nil<|AT.Bl (av:=I v22.1) (Ti:=[(bt,.cells [eJ v21.2.L,I v21.2.at_])]) (Pi:=[(bt,.cells [eJ v22.2.L,I v22.2.at_])]) (fun _=>J) (fun _=>J) (fun _=>J) J J J ?_ ?_
   ·exact br J (cF e9) cR (.cons .p0 .nil) J J<|ae.nil ⟨_,J,J⟩
   refine AT.am 2 J J<|AM.qv (aM J) J<|AM.cO (xs:=([0,300,500,1000]).map I) J J J J J J<|AM.nil<|AT.Bl (av:=I v23.1) (Ti:=[(bt,.cells [eJ v22.2.L,I v22.2.at_])]) (Pi:=[(bt,.cells [eJ v23.2.L,I v23.2.at_])]) (fun _=>J) (fun _=>J) (fun _=>J) J J J ?_ ?_
   ·exact br J (cF BB) cR (.cons .p0 .nil) J J<|ae.nil ⟨_,J,J⟩
   refine AT.am 2 J J<|AM.qv (dv J J J J J) J<|AM.cO (xs:=([(⟨v20,v21.1,v22.1,v23.1⟩:mH)]).map mH.av) J J J J J J<|AM.nil<|AT.wW (fun _=>J) fun β=>aH h fun xy C6 h=>fo (g:=mH.av) J J J J J J J J (.list _) C6 (fun _=>.p3) J fun Dv=>rF J J J<|ay J J J J .p2 J J<|rN<|ab.cw<|tR<|ae.qv (bq J J) J<|rM J J<|rN<|ab.stop<|?_
   cases h
   exact jl _ _ J<|aj.lq [0,0,0,0] ⟨Dv,J⟩ J J
  ·refine ab.exit J<|have h:=bT h dQ;?_
   unfold nh at h
   refine tS<|aJ<|rM J J<|aH h fun v26 FW h=>br J (eW FW) cR (.cons .p0 .nil) J J<|rN<|ab.cut (fun aK=>∃ (wK:List Int) (n28:Int) (n29:Int) (n30:Int),ib v2 v3 v4 v5 vB wK n28 n29 n30=some r∧aK=⟨64,[(2,.ptr b1 0),(3,.ptr b6 0)],[(bt,.cells [eJ wK,I n28]),(b1,.cells [.str [],I 0,I 0,I 0,I 0,.nil,I 0,I 0,I 0]),(b6,.cells [.str v2.1,I ((whole v3.1).aA),I ((whole v3.1).aC),I ((whole v3.1).aD),I v4.1,.sl 4 MT 0 vB.length,I n29,I n30,I v5.1]),(MT,QA vB)]⟩) ?_ ?_
   ·refine cB h J (fun h=>?_) (fun h=>?_)
    ·exact tR<|rM J J<|aW (xs:=([0,50,3600000]).map I) J J J J J J<|aH h fun v31 IE h=>br J (cF IE) cR (.cons .p0 .nil) J J<|rM J J<|aW (xs:=([0,40,200,86400000]).map I) J J J J J J<|aH h fun v32 QC h=>br J (cF QC) cR (.cons .p0 .nil) J J<|ae.qv (dv J J J J J) J<|rF J J J<|ay J J J J .p2 J J<|rN<|ab.stop<|aj.lq [0,0,0,0] ⟨v32.2.L,v32.2.at_,v31.1,v32.1,h,J⟩ J J
    ·exact tK<|ab.stop<|aj.lq [0,0,0,0] ⟨v26.2.L,v26.2.at_,0,0,h,J⟩ J J
   ·rintro aK ⟨wK,n28,n29,n30,h,rfl⟩
    unfold ib at h
    refine aJ<|ae.qv (aG J J .p2 J) J<|ay J J J J .p1 J J<|rN<|ab.ret<|?_
    cases h
    exact aj.here ⟨_,.cons (.all _ _ _ _ _ _ J .p1 aB.h aX.h J J) .nil,_,.cons .p0 (.cons .p2 .nil),⟨MT,J,J⟩⟩
theorem pG [GI:bN] {bt:Bk} {aa:ah} {ai aI:Int} {r:Int×ah} (h:jr aa ai aI=some r):aP Tryz.prog 10 [.ptr bt 0,I ai,I aI] [(bt,.cells [eJ aa.L,I aa.at_])] (T0 ([(bt,.cells [eJ r.2.L,I r.2.at_])]) (I r.1)):=by
 unfold jr at h
 refine aP.hC ?_
 refine aP.bI Tryz.func10 J Tryz.ntmps10 Tryz.results10 J J ?_
 refine aJ<|rA J J<|rN<|tS<|aJ<|rM J J<|rM J J<|ae.qv (bO J J) J<|rN<|cD h J (fun h=>?_) (fun h=>?_)
 ·refine aJ<|rM J J<|rA J J<|rN<|ab.ret<|?_
  cases h
  exact hH J [0] J ⟨J,J⟩
 ·refine tK<|aJ<|rM J J<|rM J J<|rM J J<|rM J J<|ae.qv (eK J J) J<|ae.qv (bq J J) J<|aH h fun v1 e1 h=>br J (fU e1) cR (.cons .p0 .nil) J J<|ae.qv (bq J J) J<|rA J J<|rN<|ab.ret<|?_
  cases h
  exact hH J [0] J ⟨J,J⟩
theorem yq [GI:bN] {bt:Bk} {aa:ah} {r:Version×ah} (h:gA aa=some r):aP Tryz.prog 81 [.ptr bt 0] [(bt,.cells [eJ aa.L,I aa.at_])] (T0 ([(bt,.cells [eJ r.2.L,I r.2.at_])]) (Version.av r.1)):=by
 unfold gA at h
 refine aP.hC ?_
 refine aP.bI Tryz.func81 J Tryz.ntmps81 Tryz.results81 J J ?_
 refine aJ<|bH J J J J fun b1=>rN<|aJ<|rM J J<|aH h fun v2 e1 h=>br J (pG e1) cR (.cons .p1 .nil) J J<|rM J J<|aW (xs:=([0,0,1,5,9999]).map I) J J J J J J<|aH h fun v3 e2 h=>br J (cF e2) cR (.cons .p0 .nil) J J<|rM J J<|aW (xs:=([0,0,0,3,9999]).map I) J J J J J J<|aH h fun v4 e3 h=>br J (cF e3) cR (.cons .p0 .nil) J J<|ae.qv (dv J J J J J) J<|ay J J J J .p1 J J<|rN<|ab.ret<|?_
 cases h
 exact aj.here ⟨_,.cons (.all _ _ _ _ _ _ J .p1 aB.h aX.h J J) .nil,_,.cons .p0 .nil,⟨J,J⟩⟩
theorem gg [GI:bN] {bt:Bk} {aa:ah} {ai aI:Int} {r:Int×ah} (h:fc aa ai aI=some r):aP Tryz.prog 25 [.ptr bt 0,I ai,I aI] [(bt,.cells [eJ aa.L,I aa.at_])] (T0 ([(bt,.cells [eJ r.2.L,I r.2.at_])]) (I r.1)):=by
 unfold fc at h
 refine aP.hC ?_
 refine aP.bI Tryz.func25 J Tryz.ntmps25 Tryz.results25 J J ?_
 refine aJ<|rA J J<|rN<|tS<|aJ<|rM J J<|aH h fun v1 e1 h=>br J (eW e1) cR (.cons .p0 .nil) J J<|rN<|cB h J (fun h=>?_) (fun h=>?_)
 ·refine aJ<|rM J J<|rM J J<|ae.qv (eK J J) J<|rM J J<|ae.qv (bq J J) J<|rM J J<|rM J J<|aW (xs:=([bB (ai - 1),bB (aI+1),ai,aI,(-1099511627776:Int),1099511627776]).map I) J J J J J J<|aH h fun v2 e2 h=>br J (cF e2) cR (.cons .p0 .nil) J J<|rA J J<|rN<|ab.ret<|?_
  cases h
  exact hH J [0] J ⟨J,J⟩
 ·refine tK<|aJ<|rM J J<|rM J J<|rM J J<|aH h fun v3 e3 h=>br J (pG e3) cR (.cons .p0 .nil) J J<|rA J J<|rN<|ab.ret<|?_
  cases h
  exact hH J [0] J ⟨J,J⟩
theorem nN [GI:bN] {bt:Bk} {aa:ah} {r:Version×ah} (h:fQ aa=some r):aP Tryz.prog 33 [.ptr bt 0] [(bt,.cells [eJ aa.L,I aa.at_])] (T0 ([(bt,.cells [eJ r.2.L,I r.2.at_])]) (Version.av r.1)):=by
 unfold fQ at h
 refine aP.hC ?_
 refine aP.bI Tryz.func33 J Tryz.ntmps33 Tryz.results33 J J ?_
 refine aJ<|bH J J J J fun b1=>rN<|aJ<|rM J J<|aH h fun v2 e1 h=>br J (yq e1) cR (.cons .p1 .nil) J J<|bH J J J J fun b3=>ay J J J J .p0 J J<|rN<|tS<|aJ<|rM J J<|aH h fun v4 e2 h=>br J (eW e2) cR (.cons .p1 .nil) J J<|rN<|ab.cut (fun aK=>∃ (l5:List Int) (n6:Int) (n7:Int) (n8:Int),jO v2 l5 n6 n7 n8=some r∧aK=⟨15,[(2,.ptr b1 0),(3,.ptr b3 0)],[(bt,.cells [eJ l5,I n6]),(b1,.cells [I 0,I 0,I 0]),(b3,.cells [I v2.1.aA,I n7,I n8])]⟩) ?_ ?_
 ·refine cB h J (fun h=>?_) (fun h=>?_)
  ·exact aJ<|rM J J<|aH h fun v9 e3 h=>br J (gg e3) cR (.cons .p0 .nil) J J<|rF J J J<|ay J J J J .p1 J J<|rN<|tR<|rM J J<|aH h fun v10 e4 h=>br J (gg e4) cR (.cons .p0 .nil) J J<|rF J J J<|ay J J J J .p1 J J<|rN<|ab.stop<|aj.lq [0,1,0] ⟨v10.2.L,v10.2.at_,v10.1,v9.1,h,J⟩ J J
  ·exact tK<|ab.stop<|aj.lq [0,1,0] ⟨v4.2.L,v4.2.at_,v2.1.aC,v2.1.aD,h,J⟩ J J
 ·rintro aK ⟨l5,n6,n7,n8,h,rfl⟩
  unfold jO at h
  refine aJ<|ae.qv (aG J J .p2 J) J<|ay J J J J .p1 J J<|rN<|ab.ret<|?_
  cases h
  exact aj.here ⟨_,.cons (.all _ _ _ _ _ _ J .p1 aB.h aX.h J J) .nil,_,.cons .p0 .nil,⟨J,J⟩⟩
theorem BC [GI:bN] {bt:Bk} {aa:ah} {r:Campaign×ah} (h:ox aa=some r):aP Tryz.prog 5 [.ptr bt 0] [(bt,.cells [eJ aa.L,I aa.at_])] (T0 ([(bt,.cells [eJ r.2.L,I r.2.at_])]) (Campaign.av r.1)):=by
 unfold ox at h
 refine aP.hC ?_
 refine aP.bI Tryz.func5 J Tryz.ntmps5 Tryz.results5 J J ?_
 refine aJ<|bH J J J J fun b1=>rN<|aJ<|rM J J<|aH h fun v2 e1 h=>jn J (xN e1) cR (.cons .p1 .nil) (fun _=>J) J fun b3=>bH J J J J fun b4=>ay J J J J .p0 J J<|rN<|tS<|aJ<|rM J J<|aH h fun v5 e2 h=>br J (eW e2) cR (.cons .p1 .nil) J J<|rN<|ab.cut (fun aK=>∃ (MU:Bk) (l6:List Int) (n7:Int) (q8:bn) (n9:Int) (n10:Int) (n11:Int) (n12:Int) (yF:List mH) (n15:Int) (n16:Int) (n17:Int),kZ l6 n7 q8 n9 n10 n11 n12 yF n15 n16 n17=some r∧aK=⟨54,[(2,.ptr b1 0),(3,.ptr b4 0)],[(bt,.cells [eJ l6,I n7]),(b1,.cells [.str [],I 0,I 0,I 0,I 0,.nil,I 0,I 0,I 0]),(b4,.cells [.str q8,I n9,I n10,I n11,I n12,.sl 4 MU 0 yF.length,I n15,I n16,I n17]),(MU,QA yF)]⟩) ?_ ?_
 ·refine cB h J (fun h=>?_) (fun h=>?_)
  ·refine aJ<|rM J J<|aH h fun fg e3 h=>br J (fU e3) cR (.cons .p0 .nil) J J<|rN<|ab.block<|aJ<|ae.qv (dt J J) J<|rA J J<|rN<|ab.cut (fun aK=>∃ (zO:Bk) (yo:List Int) (n20:Int) (W8:bn) (n22:Int) (n23:Int) (n24:Int) (n25:Int) (wK:List mH) (n28:Int) (n29:Int) (n30:Int),lf yo n20 W8 n22 n23 n24 n25 wK n28 n29 n30=some r∧aK=⟨54,[(2,.ptr b1 0),(3,.ptr b4 0)],[(bt,.cells [eJ yo,I n20]),(b1,.cells [.str [],I 0,I 0,I 0,I 0,.nil,I 0,I 0,I 0]),(b4,.cells [.str W8,I n22,I n23,I n24,I n25,.sl 4 zO 0 wK.length,I n28,I n29,I n30]),(zO,QA wK)]⟩) ?_ ?_
   ·refine cD h J (fun h=>?_) (fun h=>?_)
    ·exact tR<|rM J J<|aW (xs:=([([]:bn),([65]:bn)]).map AV.str) J J J J J J<|aH h fun v31 e4 h=>br J (mT e4) cR (.cons .p0 .nil) J J<|rF J J J<|ay J J J J .p1 J J<|rN<|ab.stop<|aj.lq [0,2,0,0] ⟨b3,v31.2.L,v31.2.at_,v31.1,v2.1.Target.aA,v2.1.Target.aC,v2.1.Target.aD,v2.1.At,v2.1.aR,v2.1.aZ.bS,v2.1.aZ.To,v2.1.Room,h,J⟩ J J
    ·refine aJ<|ae.qv (dt J J) J<|rA J J<|rN<|ab.cut (fun aK=>∃ (Sb:Bk) (W9:List Int) (n33:Int) (n34:Int) (n35:Int) (n36:Int) (n37:Int) (V4:List mH) (n40:Int) (n41:Int) (n42:Int),lg v2 W9 n33 n34 n35 n36 n37 V4 n40 n41 n42=some r∧aK=⟨54,[(2,.ptr b1 0),(3,.ptr b4 0)],[(bt,.cells [eJ W9,I n33]),(b1,.cells [.str [],I 0,I 0,I 0,I 0,.nil,I 0,I 0,I 0]),(b4,.cells [.str v2.1.Key,I n34,I n35,I n36,I n37,.sl 4 Sb 0 V4.length,I n40,I n41,I n42]),(Sb,QA V4)]⟩) ?_ ?_
     ·refine cD h J (fun h=>?_) (fun h=>?_)
      ·exact tR<|rM J J<|aH h fun FF e5 h=>br J (nN e5) cR (.cons .p0 .nil) J J<|rF J J J<|ay J J J J .p1 J J<|rN<|ab.stop<|aj.lq [0,2,0,0] ⟨b3,FF.2.L,FF.2.at_,FF.1.aA,FF.1.aC,FF.1.aD,v2.1.At,v2.1.aR,v2.1.aZ.bS,v2.1.aZ.To,v2.1.Room,h,J⟩ J J
      ·refine aJ<|ae.qv (dt J J) J<|rA J J<|rN<|ab.cut (fun aK=>∃ (GQ:Bk) (Xa:List Int) (n45:Int) (n46:Int) (FT:List mH) (n49:Int) (n50:Int) (n51:Int),lh v2 Xa n45 n46 FT n49 n50 n51=some r∧aK=⟨54,[(2,.ptr b1 0),(3,.ptr b4 0)],[(bt,.cells [eJ Xa,I n45]),(b1,.cells [.str [],I 0,I 0,I 0,I 0,.nil,I 0,I 0,I 0]),(b4,.cells [.str v2.1.Key,I v2.1.Target.aA,I v2.1.Target.aC,I v2.1.Target.aD,I n46,.sl 4 GQ 0 FT.length,I n49,I n50,I n51]),(GQ,QA FT)]⟩) ?_ ?_
       ·refine cD h J (fun h=>?_) (fun h=>?_)
        ·exact tR<|rM J J<|aH h fun V5 e6 h=>br J (gg e6) cR (.cons .p0 .nil) J J<|rF J J J<|ay J J J J .p1 J J<|rN<|ab.stop<|aj.lq [0,2,0,0] ⟨b3,V5.2.L,V5.2.at_,V5.1,v2.1.aR,v2.1.aZ.bS,v2.1.aZ.To,v2.1.Room,h,J⟩ J J
        ·refine aJ<|ae.qv (dt J J) J<|rA J J<|rN<|ab.cut (fun aK=>∃ (Xl:Bk) (LJ:List Int) (Xb:Int) (Qu:List mH) (n57:Int) (O1:Int) (n59:Int),lj v2 LJ Xb Qu n57 O1 n59=some r∧aK=⟨54,[(2,.ptr b1 0),(3,.ptr b4 0)],[(bt,.cells [eJ LJ,I Xb]),(b1,.cells [.str [],I 0,I 0,I 0,I 0,.nil,I 0,I 0,I 0]),(b4,.cells [.str v2.1.Key,I v2.1.Target.aA,I v2.1.Target.aC,I v2.1.Target.aD,I v2.1.At,.sl 4 Xl 0 Qu.length,I n57,I O1,I n59]),(Xl,QA Qu)]⟩) ?_ ?_
         ·refine cD h J (fun h=>?_) (fun h=>?_)
          ·refine aH h fun v60 e7 h=>aH h fun Qv e8 h=>aH h fun Qw e9 h=>aH h fun MM BB h=>ab.jN (id:=12) (A:=[0,1,0,4,0,28,0,124,0,508,1020,2044,4095,8191,16383]) (H0:=[(bt,.cells [eJ fg.2.L,I fg.2.at_])]) (HH:=fun β=>[(bt,.cells [eJ MM.2.L,I MM.2.at_]),(b4,.cells (cE0 v2.1 b3)),(b3,QA v2.1.aR),(b1,.cells [.str [],I 0,I 0,I 0,I 0,.nil,I 0,I 0,I 0])]) 12 mixed J (by kernel_rfl) (by kernel_rfl) [⟨none,some 3,[],fun _=>(bt,.cells [eJ fg.2.L,I fg.2.at_]),none,[]⟩,⟨some 3,some 5,[],fun _=>(bt,.cells [eJ v60.2.L,I v60.2.at_]),none,[]⟩,⟨some 5,some 7,[],fun _=>(bt,.cells [eJ Qv.2.L,I Qv.2.at_]),none,[]⟩,⟨some 7,some 9,[],fun _=>(bt,.cells [eJ Qw.2.L,I Qw.2.at_]),none,[]⟩,⟨some 9,none,[],fun _=>(bt,.cells [eJ MM.2.L,I MM.2.at_]),none,[]⟩] [] J (by kernel_rfl) J (.cons .p0 .nil) (fun _=>J)<|AT.am 3 J J<|AM.qv (az J J) J<|AM.qv (aN J J .p0 J) J<|AM.qv (aM J) J<|AM.nil<|AT.Bl (av:=I v60.1) (Ti:=[(bt,.cells [eJ fg.2.L,I fg.2.at_])]) (Pi:=[(bt,.cells [eJ v60.2.L,I v60.2.at_])]) (fun _=>J) (fun _=>J) (fun _=>J) J J J ?_ ?_
           ·exact br J (gg e7) cR (.cons .p0 .nil) J J<|ae.nil ⟨_,J,J⟩
           refine AT.am 1 J J<|AM.qv (aM J) J<|AM.nil<|AT.Bl (av:=I Qv.1) (Ti:=[(bt,.cells [eJ v60.2.L,I v60.2.at_])]) (Pi:=[(bt,.cells [eJ Qv.2.L,I Qv.2.at_])]) (fun _=>J) (fun _=>J) (fun _=>J) J J J ?_ ?_
           ·exact br J (gg e8) cR (.cons .p0 .nil) J J<|ae.nil ⟨_,J,J⟩
           refine AT.am 1 J J<|AM.qv (aM J) J<|AM.nil<|AT.Bl (av:=I Qw.1) (Ti:=[(bt,.cells [eJ Qv.2.L,I Qv.2.at_])]) (Pi:=[(bt,.cells [eJ Qw.2.L,I Qw.2.at_])]) (fun _=>J) (fun _=>J) (fun _=>J) J J J ?_ ?_
           ·exact br J (gg e9) cR (.cons .p0 .nil) J J<|ae.nil ⟨_,J,J⟩
           refine AT.am 1 J J<|AM.qv (aM J) J<|AM.nil<|AT.Bl (av:=I MM.1) (Ti:=[(bt,.cells [eJ Qw.2.L,I Qw.2.at_])]) (Pi:=[(bt,.cells [eJ MM.2.L,I MM.2.at_])]) (fun _=>J) (fun _=>J) (fun _=>J) J J J ?_ ?_
           ·exact br J (gg BB) cR (.cons .p0 .nil) J J<|ae.nil ⟨_,J,J⟩
           exact AT.am 2 J J<|AM.qv (dv J J J J J) J<|AM.cO (xs:=([(⟨v60.1,Qv.1,Qw.1,MM.1⟩:mH)]).map mH.av) J J J J J J<|AM.nil<|AT.wW (fun _=>J) fun β=>aH h fun l64 C6 h=>fo (g:=mH.av) J J J J J J J J (.list _) C6 (fun _=>.p2) J fun b65=>rF J J J<|ay J J J J .p1 J J<|rN<|ab.stop<|aj.lq [0,2,0,0] ⟨b65,MM.2.L,MM.2.at_,l64,v2.1.aZ.bS,v2.1.aZ.To,v2.1.Room,h,J⟩ J J
          ·refine aJ<|ae.qv (dt J J) J<|rA J J<|rN<|ab.cut (fun aK=>∃ (Oa:List Int) (Cj:Int) (n68:Int) (n69:Int) (Oc:Int),ll v2 Oa Cj n68 n69 Oc=some r∧aK=⟨54,[(2,.ptr b1 0),(3,.ptr b4 0)],[(bt,.cells [eJ Oa,I Cj]),(b1,.cells [.str [],I 0,I 0,I 0,I 0,.nil,I 0,I 0,I 0]),(b4,.cells [.str v2.1.Key,I v2.1.Target.aA,I v2.1.Target.aC,I v2.1.Target.aD,I v2.1.At,.sl 4 b3 0 v2.1.aR.length,I n68,I n69,I Oc]),(b3,QA v2.1.aR)]⟩) ?_ ?_
           ·refine cD h J (fun h=>?_) (fun h=>?_)
            ·exact tR<|rM J J<|aH h fun V6 FW h=>br J (gg FW) cR (.cons .p0 .nil) J J<|rM J J<|aH h fun v72 IE h=>br J (gg IE) cR (.cons .p0 .nil) J J<|ae.qv (dv J J J J J) J<|rF J J J<|ay J J J J .p1 J J<|rN<|ab.stop<|aj.lq [0,2,0,0] ⟨v72.2.L,v72.2.at_,V6.1,v72.1,v2.1.Room,h,J⟩ J J
            ·exact tR<|rM J J<|aH h fun LK QC h=>br J (gg QC) cR (.cons .p0 .nil) J J<|rF J J J<|ay J J J J .p1 J J<|rN<|ab.stop<|aj.lq [0,2,0,0] ⟨LK.2.L,LK.2.at_,v2.1.aZ.bS,v2.1.aZ.To,LK.1,h,J⟩ J J
           ·rintro aK ⟨Oa,Cj,n68,n69,Oc,h,rfl⟩
            unfold ll at h
            exact ab.stop<|aj.lq [0,0,0,0] ⟨b3,Oa,Cj,v2.1.aR,n68,n69,Oc,h,J⟩ J J
         ·rintro aK ⟨Xl,LJ,Xb,Qu,n57,O1,n59,h,rfl⟩
          unfold lj at h
          exact ab.stop<|aj.lq [0,0,0,0] ⟨Xl,LJ,Xb,v2.1.At,Qu,n57,O1,n59,h,J⟩ J J
       ·rintro aK ⟨GQ,Xa,n45,n46,FT,n49,n50,n51,h,rfl⟩
        unfold lh at h
        exact ab.stop<|aj.lq [0,0,0,0] ⟨GQ,Xa,n45,v2.1.Target.aA,v2.1.Target.aC,v2.1.Target.aD,n46,FT,n49,n50,n51,h,J⟩ J J
     ·rintro aK ⟨Sb,W9,n33,n34,n35,n36,n37,V4,n40,n41,n42,h,rfl⟩
      unfold lg at h
      exact ab.stop<|aj.lq [0,0,0,0] ⟨Sb,W9,n33,v2.1.Key,n34,n35,n36,n37,V4,n40,n41,n42,h,J⟩ J J
   ·rintro aK ⟨zO,yo,n20,W8,n22,n23,n24,n25,wK,n28,n29,n30,h,rfl⟩
    unfold lf at h
    exact ab.cw<|ab.stop<|aj.lq [0,0,0,0] ⟨zO,yo,n20,W8,n22,n23,n24,n25,wK,n28,n29,n30,h,J⟩ J J
  ·exact tK<|ab.stop<|aj.lq [0,2,0,0] ⟨b3,v5.2.L,v5.2.at_,v2.1.Key,v2.1.Target.aA,v2.1.Target.aC,v2.1.Target.aD,v2.1.At,v2.1.aR,v2.1.aZ.bS,v2.1.aZ.To,v2.1.Room,h,J⟩ J J
 ·rintro aK ⟨MU,l6,n7,q8,n9,n10,n11,n12,yF,n15,n16,n17,h,rfl⟩
  unfold kZ at h
  refine aJ<|ae.qv (aG J J .p2 J) J<|ay J J J J .p1 J J<|rN<|ab.ret<|?_
  cases h
  exact aj.freeze .p3<|aj.UH (j:=5) .p1 J (Co.Ef .p3) J J<|aj.here ⟨_,.cons (.all _ _ _ _ _ _ J .p1 aB.h aX.h J J) .nil,_,.cons .p0 .nil,⟨J,J⟩⟩
theorem yh [GI:bN] {aa:Int} {r:Bool} (h:cmp_isNaN_int aa=r):Pu Tryz.prog 125 [I aa] (.bool r):=by
 unfold cmp_isNaN_int at h
 refine aP.bI Tryz.func125 J Tryz.ntmps125 Tryz.results125 J J ?_
 refine aJ<|rA J J<|rN<|aJ<|rM J J<|rM J J<|ae.qv (o9 J J) J<|rA J J<|rN<|ab.ret<|?_
 obtain rfl:=h
 exact hP J J
theorem fC [GI:bN] {aa ai r:Int} (h:cmp_Compare_int aa ai=r):Pu Tryz.prog 98 [I aa,I ai] (I r):=by
 unfold cmp_Compare_int at h
 refine aP.bI Tryz.func98 J Tryz.ntmps98 Tryz.results98 J J ?_
 refine aJ<|rA J J<|rN<|aJ<|rM J J<|aT J (yh J) cR J<|rA J J<|rN<|aJ<|rM J J<|aT J (yh J) cR J<|rA J J<|rN<|tS<|aJ<|rM J J<|rN<|cB h J (fun h=>?_) (fun h=>?_)
 ·refine tS<|aJ<|rM J J<|rN<|cB h J (fun h=>?_) (fun h=>?_)
  ·refine aJ<|rA J J<|rN<|ab.ret<|?_
   obtain rfl:=h
   exact hP J J
  ·refine tK<|aJ<|rA J J<|rN<|ab.ret<|?_
   obtain rfl:=h
   exact hP J J
 ·refine tK<|tS<|aJ<|rM J J<|rN<|cB h J (fun h=>?_) (fun h=>?_)
  ·refine aJ<|rA J J<|rN<|ab.ret<|?_
   obtain rfl:=h
   exact hP J J
  ·refine tK<|tS<|aJ<|rM J J<|rM J J<|ae.qv (bO J J) J<|rN<|cD h J (fun h=>?_) (fun h=>?_)
   ·refine aJ<|rA J J<|rN<|ab.ret<|?_
    obtain rfl:=h
    exact hP J J
   ·refine tK<|tS<|aJ<|rM J J<|rM J J<|ae.qv (eM J J) J<|rN<|cD h J (fun h=>?_) (fun h=>?_)
    ·refine aJ<|rA J J<|rN<|ab.ret<|?_
     obtain rfl:=h
     exact hP J J
    ·refine tK<|aJ<|rA J J<|rN<|ab.ret<|?_
     obtain rfl:=h
     exact hP J J
theorem qI [GI:bN] {aa ai:List Int} {r:Int} (h:eF aa ai=some r):Pu Tryz.prog 66 [eJ aa,eJ ai] (I r):=by
 unfold eF at h
 refine aP.bI Tryz.func66 J Tryz.ntmps66 Tryz.results66 J J ?_
 refine aJ<|rA J J<|rN<|tS<|aJ<|rM J J<|ae.qv (ca J) J<|rM J J<|rN<|ab.block<|ab.cx (fun x:Int=>bA aa ai x) (fun x aK=>aK=⟨36,[(0,eJ aa),(1,eJ ai),(9,eJ aa),(10,I (aa.length:Int)),(11,I x)],[]⟩) h ?_ ?_
 ·exact aj.lq [] J J J
 ·intro n2 z1 aK J1 dY h jl dQ
  obtain rfl:=dY
  replace h:bA aa ai n2=some z1:=h
  unfold bA at h
  refine aJ<|ae.qv (bO J J) J<|rN<|tS<|cD h J (fun h=>?_) (fun h=>?_)
  ·refine tK<|tS<|ab.block<|aJ<|rM J J<|aH h fun v3 e1 h=>ae.qv (bG J J J e1 J J) J<|ae.qv (aQ J J J) J<|rA J J<|rA J J<|rN<|tS<|aJ<|rM J J<|rM J J<|ae.qv (ca J) J<|ae.qv (nU J J) J<|rN<|cD h J (fun h=>?_) (fun h=>?_)
   ·refine aJ<|rA J J<|rN<|ab.ret<|have h:=bT h dQ;?_
    cases h
    exact hP J J
   ·refine tK<|aJ<|rM J J<|rM J J<|aH h fun v4 e2 h=>ae.qv (bG J J J e2 J J) J<|ae.qv (aQ J J J) J<|rA J J<|rN<|aJ<|rM J J<|rM J J<|aT J (fC J) cR J<|rA J J<|rN<|aJ<|rM J J<|ae.qv (o9 J J) J<|rN<|cD h J (fun h=>?_) (fun h=>?_)
    ·refine aJ<|rM J J<|rA J J<|rN<|ab.ret<|have h:=bT h dQ;?_
     cases h
     exact hP J J
    ·refine tK<|ab.cw<|tR<|ae.qv (bq J J) J<|rM J J<|rN<|ab.stop<|?_
     cases h
     exact jl _ _ J<|aj.lq [] J J J
  ·refine ab.exit J<|have h:=bT h dQ;?_
   unfold iP at h
   refine tS<|aJ<|rM J J<|ae.qv (ca J) J<|rM J J<|ae.qv (ca J) J<|ae.qv (bO J J) J<|rN<|cD h J (fun h=>?_) (fun h=>?_)
   ·refine aJ<|rA J J<|rN<|ab.ret<|?_
    cases h
    exact hP J J
   ·refine tK<|aJ<|rA J J<|rN<|ab.ret<|?_
    cases h
    exact hP J J
theorem jm [GI:bN] {aa ai:Version} {r:Int} (h:ef aa ai=some r):Pu Tryz.prog 56 [Version.av aa,Version.av ai] (I r):=by
 unfold ef at h
 refine aP.bI Tryz.func56 J Tryz.ntmps56 Tryz.results56 J J ?_
 refine aJ<|dp J J J J fun b1=>dp J J J J fun b2=>rA J J<|rN<|aJ<|rF J J J<|rL J J .p1 J J<|rF J J J<|rL J J .p1 J J<|rF J J J<|rL J J .p1 J J<|aW (xs:=([aa.aA,aa.aC,aa.aD]:List Int).map I) J J J J J J<|rF J J J<|rL J J .p0 J J<|rF J J J<|rL J J .p0 J J<|rF J J J<|rL J J .p0 J J<|aW (xs:=([ai.aA,ai.aC,ai.aD]:List Int).map I) J J J J J J<|aH h fun v3 e1 h=>aT J (qI e1) cR J<|rA J J<|rN<|ab.ret<|?_
 cases h
 exact hP J J
theorem zd [GI:bN] {bt:Bk} {aa:ah} {r:(List an)×ah} (h:ln aa=some r):aP Tryz.prog 34 [.ptr bt 0] [(bt,.cells [eJ aa.L,I aa.at_])] (T1 (fun nO=>[(bt,.cells [eJ r.2.L,I r.2.at_]),(nO,yg r.1)]) (fun nO=>.sl 6 nO 0 r.1.length)):=by
 unfold ln at h
 refine aP.hC ?_
 refine aP.bI Tryz.func34 J Tryz.ntmps34 Tryz.results34 J J ?_
 refine aJ<|rA J J<|rN<|aJ<|rA J J<|rN<|tS<|aJ<|rA J J<|rN<|ab.block<|ab.cx (fun x:(List Int)×Int×(List an)×Int=>jb x.1 x.2.1 x.2.2.1 x.2.2.2) (fun x aK=>∃ (b8:Bk),aK=⟨99,[(0,.ptr bt 0),(3,.sl 6 b8 0 x.2.2.1.length),(4,I x.2.2.2)],[(bt,.cells [eJ x.1,I x.2.1]),(b8,yg x.2.2.1)]⟩) h ?_ ?_
 ·exact aj.arr (s:=3) 6 J fun Og=>aj.lq [1,0] ⟨Og,J⟩ J J
 ·intro x z1 aK J1 dY h jl dQ
  obtain ⟨l6,n7,l9,n10⟩:=x
  obtain ⟨b8,rfl⟩:=dY
  replace h:jb l6 n7 l9 n10=some z1:=h
  unfold jb at h
  refine tS<|aJ<|rM J J<|ae.qv (pn J J) J<|rN<|cD h J (fun h=>?_) (fun h=>?_)
  ·refine tK<|tS<|ab.block<|aJ<|aW (xs:=([0,5]).map I) J J J J J J<|ae.qv (ca J) J<|rM J J<|rN<|ab.block<|ab.cx (fun x:(List Int)×Int×(List an)×Int=>ja n10 x.1 x.2.1 x.2.2.1 x.2.2.2) (fun x aK=>∃ (qk:Bk),aK=⟨99,[(0,.ptr bt 0),(3,.sl 6 qk 0 x.2.2.1.length),(4,I n10),(14,eJ [0,5]),(15,I ([0,5].length:Int)),(16,I x.2.2.2)],[(bt,.cells [eJ x.1,I x.2.1]),(qk,yg x.2.2.1)]⟩) h ?_ ?_
   ·exact aj.lq [0,0] ⟨b8,J⟩ J J
   ·intro x z2 aK J2 dY h yr wE
    obtain ⟨vB,n18,jy,n21⟩:=x
    obtain ⟨qk,rfl⟩:=dY
    replace h:ja n10 vB n18 jy n21=some z2:=h
    unfold ja at h
    refine aJ<|ae.qv (bO J J) J<|rN<|tS<|cD h J (fun h=>?_) (fun h=>?_)
    ·refine tK<|tS<|ab.cut (fun aK=>∃ (xe:Bk) (vT:List Int) (n23:Int) (r7:List an),fe n21 vT n23 r7=some z2∧aK=⟨99,[(0,.ptr bt 0),(3,.sl 6 xe 0 r7.length),(4,I n10),(14,eJ [0,5]),(15,I ([0,5].length:Int)),(16,I n21)],[(bt,.cells [eJ vT,I n23]),(xe,yg r7)]⟩) ?_ ?_
     ·refine ab.block<|aJ<|aH h fun v26 e1 h=>ae.qv (bG J J J e1 J J) J<|ae.qv (aQ J J J) J<|rA J J<|rN<|tS<|aJ<|rM J J<|aH h fun mz e2 h=>br J (eW e2) cR (.cons .p0 .nil) J J<|rN<|cB h J (fun h=>?_) (fun h=>?_)
      ·exact ab.exit J<|ab.stop<|aj.lq [0,0] ⟨qk,mz.2.L,mz.2.at_,jy,h,J⟩ J J
      ·refine tK<|tS<|aH h fun v28 e3 h=>aH h fun qj e4 h=>aH h fun v30 e5 h=>ab.jN (id:=9) (A:=[0,0,3,0,0,0,0,120,0,256,1016,2040,0,0,13056,32767,0,131071]) (H0:=[(bt,.cells [eJ mz.2.L,I mz.2.at_])]) (HH:=fun β=>[(bt,.cells [eJ v30.2.L,I v30.2.at_]),((β 16),.cells [I 0,I 0,I 0,.nil,.nil,I 0]),(qk,yg jy)]) 17 mixed J (by kernel_rfl) (by kernel_rfl) [⟨none,some 9,[],fun _=>(bt,.cells [eJ mz.2.L,I mz.2.at_]),none,[]⟩,⟨some 9,some 14,[],fun _=>(bt,.cells [eJ v28.2.L,I v28.2.at_]),none,[]⟩,⟨some 14,none,[],fun _=>(bt,.cells [eJ v30.2.L,I v30.2.at_]),none,[]⟩,⟨some 16,none,[],fun b=>(b,.cells [I 0,I 0,I 0,.nil,.nil,I 0]),none,[]⟩] [16] J (by kernel_rfl) J (.cons .p0 .nil) (fun _=>J)<|AT.am 9 J J<|AM.qv (aM J) J<|AM.qv (aM J) J<|AM.qv (dv J J J J J) J<|AM.cO (xs:=([([109]:bn)]).map AV.str) J J J J J J<|AM.cO (xs:=([([109]:bn)]).map AV.str) J J J J J J<|AM.cO (xs:=([([109]:bn),([110]:bn)]).map AV.str) J J J J J J<|AM.cO (xs:=([([110]:bn)]).map AV.str) J J J J J J<|AM.cO (xs:=([[([109]:bn)],[([109]:bn)],[([109]:bn),([110]:bn)],[([110]:bn)]]).map (K7 1 AV.str)) J J J J J J<|AM.qv (aM J) J<|AM.nil<|AT.Bl (av:=I v28.1) (Ti:=[(bt,.cells [eJ mz.2.L,I mz.2.at_])]) (Pi:=[(bt,.cells [eJ v28.2.L,I v28.2.at_])]) (fun _=>J) (fun _=>J) (fun _=>J) J J J ?_ ?_
       ·exact br J (fU e3) cR (.cons .p0 .nil) J J<|ae.nil ⟨_,J,J⟩
       refine AT.am 4 J J<|AM.qv (bG J J J e4 J J) J<|AM.qv (aQ J J J) J<|AM.qv (aM J) J<|AM.cO (xs:=([1,5,5,10]).map I) J J J J J J<|AM.nil<|AT.Bl (av:=I v30.1) (Ti:=[(bt,.cells [eJ v28.2.L,I v28.2.at_])]) (Pi:=[(bt,.cells [eJ v30.2.L,I v30.2.at_])]) (fun _=>J) (fun _=>J) (fun _=>J) J J J ?_ ?_
       ·exact br J (cF e5) cR (.cons .p0 .nil) J J<|ae.nil ⟨_,J,J⟩
       refine AT.am 1 J J<|AM.qv (dv J J J J J) J<|AM.nil<|AT.Bm (V:=fun b=>.ptr b 0) (Ti:=[]) (Pi:=fun b=>[(b,.cells [I 0,I 0,I 0,.nil,.nil,I 0])]) (fun _=>J) (fun _=>J) (fun _ _=>J) J (fun _=>J) J J J ?_ ?_
       ·exact bH J J J J fun LO=>ae.nil ⟨LO,_,J,J⟩
       refine AT.wW (fun _=>J) fun β=>?_
       generalize β 16=LO
       clear β
       refine ay J J J J .p1 J J<|rN<|aJ<|rM J J<|rM J J<|ae.qv (eK J J) J<|aH h fun v32 e6 h=>br J (pG e6) cR (.cons .p0 .nil) J J<|rA J J<|rN<|aJ<|rM J J<|aT J (zN J) cR J<|rM J J<|ae.qv (eK J J) J<|rM J J<|aW (xs:=([0,5,9999]).map I) J J J J J J<|aH h fun v33 e7 h=>br J (cF e7) cR (.cons .p0 .nil) J J<|ae.qv (dv J J J J J) J<|ae.qv (dv J J J J J) J<|bH J J J J fun Xm=>ay J J J J .p0 J J<|rN<|tS<|tS<|ab.cut (fun aK=>∃ (sC:List Int) (n36:Int) (c37:Bool),iZ n10 jy n21 v26 qj v30 v32 v33 sC n36 c37=some z2∧aK=⟨99,[(0,.ptr bt 0),(3,.sl 6 qk 0 jy.length),(4,I n10),(7,.ptr LO 0),(8,I v32.1),(9,.ptr Xm 0),(14,eJ [0,5]),(15,I ([0,5].length:Int)),(16,I n21),(56,.bool c37)],[(bt,.cells [eJ sC,I n36]),(qk,yg jy),(LO,.cells [I n10,I v26,I 0,Du qj,.nil,I v30.1]),(Xm,.cells [I ((whole v32.1).aA),I ((whole v32.1).aC),I ((whole v32.1).aD),I (bB (n10 - 1)),I v33.1,I 9999])]⟩) ?_ ?_
       ·refine tR<|rM J J<|aH h fun B9 e8 h=>br J (eW e8) cR (.cons .p1 .nil) J J<|rM J J<|ae.guard J J J (fun hc=>?_) (fun hc=>?_)
        ·rw [Gk hc] at h
         exact rM J J<|rY J J J<|ae.qv (dt J J) J<|rT J J J<|rN<|ab.stop<|aj.lq [0,2,1,0] ⟨B9.2.L,B9.2.at_,decide (v26=5),h,J⟩ J J
        ·rw [Gl hc] at h
         exact rG J J J J<|rE J J J<|rN<|ab.stop<|aj.lq [0,2,1,0] ⟨B9.2.L,B9.2.at_,false,h,J⟩ J J
       ·rintro aK ⟨sC,n36,c37,h,rfl⟩
        unfold iZ at h
        refine ab.cut (fun aK=>∃ (HV:Bk) (KQ:List Range) (n41:Int) (n42:Int) (n43:Int) (n44:Int) (n45:Int),gK n10 jy n21 v26 qj v30 sC n36 KQ n41 n42 n43 n44 n45=some z2∧aK=⟨99,[(0,.ptr bt 0),(3,.sl 6 qk 0 jy.length),(4,I n10),(7,.ptr LO 0),(9,.ptr Xm 0),(14,eJ [0,5]),(15,I ([0,5].length:Int)),(16,I n21)],[(bt,.cells [eJ sC,I n36]),(qk,yg jy),(LO,.cells [I n10,I v26,I 0,Du qj,.sl 6 HV 0 KQ.length,I v30.1]),(HV,aE4 KQ),(Xm,.cells [I n41,I n42,I n43,I n44,I n45,I 9999])]⟩) ?_ ?_
        ·refine cB h J (fun h=>?_) (fun h=>?_)
         ·exact tS<|ab.cU (id:=13) (A:=[0,1,0,4,0,28,60,124,255,511,1023]) 8 mixed J (by kernel_rfl) (by kernel_rfl)<|AM.qv (az J J) J<|AM.qv (aN J J .p2 J) J<|AM.qv (aM J) J<|AM.iX J (zN J) cR J<|AM.qv (aM J) J<|AM.iX J (zN J) cR J<|AM.qv (dv J J J J J) J<|AM.cO (xs:=([(⟨(whole v32.1),(whole v32.1)⟩:Range)]).map Range.av) J J J J J J<|AM.nil<|aH h fun KR e9 h=>NJ (g:=Range.av) J J J J J J J J (.list _) e9 fun GQ=>rF J J J<|ay J J J J .p3 J J<|rN<|tR<|rM J J<|aT J (zN J) cR J<|rM J J<|ae.qv (dv J J J J J) J<|ae.qv (dv J J J J J) J<|ay J J J J .p4 J J<|rN<|ab.stop<|aj.lq [1,1,1,0,0] ⟨GQ,KR,(whole n10).aA,(whole n10).aC,(whole n10).aD,n10,4,h,J⟩ J J
         ·exact tK<|ab.stop<|aj.Lc (j:=4) 6 (fun _=>.p2) J (fun _=>J) (fun _=>J) fun Xn=>aj.lq [1,1,1,0,0] ⟨Xn,[],(whole v32.1).aA,(whole v32.1).aC,(whole v32.1).aD,bB (n10 - 1),v33.1,h,J⟩ J J
        ·rintro aK ⟨HV,KQ,n41,n42,n43,n44,n45,h,rfl⟩
         unfold gK at h
         refine tS<|tS<|ab.cut (fun aK=>∃ (c49:Bool),gJ n10 jy n21 v26 qj v30 sC n36 KQ n41 n42 n43 n44 n45 c49=some z2∧aK=⟨99,[(0,.ptr bt 0),(3,.sl 6 qk 0 jy.length),(4,I n10),(7,.ptr LO 0),(9,.ptr Xm 0),(14,eJ [0,5]),(15,I ([0,5].length:Int)),(16,I n21),(86,.bool c49)],[(bt,.cells [eJ sC,I n36]),(qk,yg jy),(LO,.cells [I n10,I v26,I 0,Du qj,.sl 6 HV 0 KQ.length,I v30.1]),(HV,aE4 KQ),(Xm,.cells [I n41,I n42,I n43,I n44,I n45,I 9999])]⟩) ?_ ?_
         ·refine ab.cU (id:=15) (A:=[0,1,3,7,15,31,63,127,255,511,31,1055,4095,8191,16383]) 15 mixed J (by kernel_rfl) (by kernel_rfl)<|AM.qv (az J J) J<|AM.qv (aN J J .p2 J) J<|AM.qv (ee J) J<|AM.qv (dt J J) J<|AM.qv (aM J) J<|AM.dG J J J (fun hc=>?_) (fun hc=>?_)
          ·exact have h:=zZ hc h;AM.qv (az J J) J<|AM.au J J J<|AM.qv (aN J J .p2 J) J<|AM.au J J J<|aH h fun v50 BB h=>AM.qv (bu J J J BB) J<|AM.au J J J<|AM.qv (fW J J) J<|AM.au J J J<|AM.qv (sT (g:=Range.av) J J (.inl .p3) BB J J) J<|AM.au J J J<|AM.qv (az J J) J<|AM.au J J J<|AM.qv (aO J J .p4 J J) J<|AM.au J J J<|aH h fun v51 C6 h=>AM.iX J (jm C6) cR J<|AM.au J J J<|AM.qv (bO J J) J<|AM.qv (ed J J) J<|AM.nil<|rN<|ab.stop<|aj.lq [0,0,0,0,0] ⟨decide (v51 < 0),h,J⟩ J J
          ·exact have h:=pj hc h;AM.ar J J J J<|AM.ar J J J J<|AM.ar J J J J<|AM.ar J J J J<|AM.ar J J J J<|AM.ar J J J J<|AM.ar J J J J<|AM.ar J J J J<|AM.qv (fP J J) J<|AM.nil<|rN<|ab.stop<|aj.lq [0,0,0,0,0] ⟨true,h,J⟩ J J
         ·rintro aK ⟨c49,h,rfl⟩
          unfold gJ at h
          refine ab.cut (fun aK=>∃ (Wc:Bk) (LJ:List Range),gI n10 jy n21 v26 qj v30 sC n36 LJ=some z2∧aK=⟨99,[(0,.ptr bt 0),(3,.sl 6 qk 0 jy.length),(4,I n10),(7,.ptr LO 0),(14,eJ [0,5]),(15,I ([0,5].length:Int)),(16,I n21)],[(bt,.cells [eJ sC,I n36]),(qk,yg jy),(LO,.cells [I n10,I v26,I 0,Du qj,.sl 6 Wc 0 LJ.length,I v30.1]),(Wc,aE4 LJ)]⟩) ?_ ?_
          ·refine cB h J (fun h=>?_) (fun h=>?_)
           ·exact tR<|rF J J J<|rL J J .p2 J J<|ae.qv (aG J J .p4 J) J<|aW (xs:=([(⟨(⟨n41,n42,n43⟩:Version),(⟨n44,n45,9999⟩:Version)⟩:Range)]).map Range.av) J J J J J J<|aH h fun ID FW h=>fo (g:=Range.av) J J J J J J J J (.list _) FW (fun _=>.p3) J fun Xl=>rF J J J<|ay J J J J .p2 J J<|rN<|ab.stop<|aj.lq [0,0,0,0] ⟨Xl,ID,h,J⟩ J J
           ·exact tK<|ab.stop<|aj.lq [0,0,0,0] ⟨HV,KQ,h,J⟩ J J
          ·rintro aK ⟨Wc,LJ,h,rfl⟩
           unfold gI at h
           exact tR<|rM J J<|ae.qv (aG J J .p2 J) J<|ae.ghost<|aj.freeze .p3<|aj.here<|aW (xs:=[.agg [I n10,I v26,I 0,Du qj,.sl 6 Wc 0 LJ.length,I v30.1]]) J J J J J J<|ae.ghost<|aj.Vx (s:=95) (gx:=.list 6 (([(⟨(⟨n10,v26,0⟩:Version),qj,LJ,v30.1⟩:an)]:List an).map an.av)) J (Dr.PT (.cons .r (.cons .r (.cons .r (.cons .r (.cons (.co (Co.Ef .p3)) (.cons .r .nil)))))) J J)<|aj.here<|aH h fun Qu IE h=>fo (g:=an.av) J J J J J J J J (.list _) IE (fun _=>.p1) J fun Xo=>rA J J<|rN<|ab.cw<|ab.stop<|aj.lq [0,0] ⟨Xo,sC,n36,Qu,h,J⟩ J J
     ·rintro aK ⟨xe,vT,n23,r7,h,rfl⟩
      unfold fe at h
      refine tR<|ae.qv (bq J J) J<|rM J J<|rN<|ab.stop<|?_
      cases h
      exact yr _ _ J<|aj.lq [0,0] ⟨xe,J⟩ J J
    ·refine ab.exit J<|have h:=bT h wE;ab.cw<|tR<|rM J J<|ae.qv (bq J J) J<|rA J J<|rN<|ab.stop<|?_
     cases h
     exact jl _ _ J<|aj.lq [0,0] ⟨qk,J⟩ J J
  ·refine ab.exit J<|have h:=bT h dQ;aJ<|rM J J<|rA J J<|rN<|ab.ret<|?_
   cases h
   exact hH J [0,0] J ⟨b8,J,J⟩
theorem vl [GI:bN] {aa:List Range} {r:(List Range)} (h:gL aa=some r):aP Tryz.prog 35 [.list 6 (aa.map Range.av)] [] (T1 (fun nO=>[(nO,.arr 6 (r.map Range.av))]) (fun nO=>.sl 6 nO 0 r.length)):=by
 unfold gL at h
 refine aP.hC ?_
 refine aP.bI Tryz.func35 J Tryz.ntmps35 Tryz.results35 J J ?_
 refine ab.seq ?_
 refine ab.region ?_
 refine ae.qv (bR J) J ?_
 refine ae.nil ?_
 refine ab.seq ?_
 refine ab.seq ?_
 refine ab.region ?_
 refine ae.qv (aM J) J ?_
 refine HE J J J J (fun c hc=>?_)
 refine ae.nil ?_
 refine ab.cond J (fun hT=>?_) (fun hF=>?_)
 ·obtain rfl:=xH h (List.map_eq_nil_iff.1 (hc hT))
  refine ab.seq ?_
  refine ab.region ?_
  refine ae.qv (bR J) J ?_
  refine ae.nil ?_
  refine ab.ret ?_
  refine aj.arr (s:=2) 6 J (fun b1=>?_)
  exact aj.here ⟨_,.cons (.tmp _ _ J) .nil,_,.cons .here .nil,⟨b1,J,J⟩⟩
 ·refine ab.skip ?_
  refine ab.seq ?_
  refine ab.region ?_
  refine ku (xs:=([]:List Range).map Range.av) J J J J J J (fun b2=>?_)
  refine ae.qv (aM J) J ?_
  refine fo (g:=Range.av) (Xs:=[]) J J J J J J J J (.list _) h (fun _=>.here) J (fun b3=>?_)
  refine ae.qv (bR J) J ?_
  refine ae.nil ?_
  refine ab.ret ?_
  exact aj.here ⟨_,.cons (.tmp _ _ J) .nil,_,.cons .here .nil,⟨b3,J,J⟩⟩
theorem Dw [GI:bN] {bt:Bk} {aa:ah} {r:(List an)×ah} (h:qq aa=some r):aP Tryz.prog 6 [.ptr bt 0] [(bt,.cells [eJ aa.L,I aa.at_])] (T1 (fun nO=>[(bt,.cells [eJ r.2.L,I r.2.at_]),(nO,yg r.1)]) (fun nO=>.sl 6 nO 0 r.1.length)):=by
 unfold qq at h
 refine aP.hC ?_
 refine aP.bI Tryz.func6 J Tryz.ntmps6 Tryz.results6 J J ?_
 refine aJ<|rA J J<|rN<|aJ<|rM J J<|aH h fun v1 e1 h=>jn J (zd e1) cR (.cons .p0 .nil) (fun _=>J) J fun b2=>rA J J<|rN<|tS<|tS<|ab.cut (fun aK=>∃ (l3:List Int) (n4:Int) (c5:Bool),nn v1 l3 n4 c5=some r∧aK=⟨80,[(0,.ptr bt 0),(3,.sl 6 b2 0 v1.1.length),(13,.bool c5)],[(bt,.cells [eJ l3,I n4]),(b2,yg v1.1)]⟩) ?_ ?_
 ·refine tR<|rM J J<|ae.qv (ee J) J<|ae.qv (eM J J) J<|rM J J<|gT h J J J (fun h=>?_) (fun h=>?_)
  ·exact rM J J<|rY J J J<|aH h fun v6 e2 h=>br J (eW e2) cR (.cons .p0 .nil) J J<|rT J J J<|rN<|ab.stop<|aj.lq [0,0] ⟨v6.2.L,v6.2.at_,v6.1,h,J⟩ J J
  ·exact rG J J J J<|rE J J J<|rN<|ab.stop<|aj.lq [0,0] ⟨v1.2.L,v1.2.at_,false,h,J⟩ J J
 ·rintro aK ⟨l3,n4,c5,h,rfl⟩
  unfold nn at h
  refine ab.cut (fun aK=>∃ (l7:List Int) (n8:Int) (l9:List an),nj l7 n8 l9=some r∧aK=⟨80,[(3,.sl 6 b2 0 l9.length)],[(bt,.cells [eJ l7,I n8]),(b2,yg l9)]⟩) ?_ ?_
  ·refine cB h J (fun h=>?_) (fun h=>?_)
   ·refine aJ<|rM J J<|rM J J<|rM J J<|ae.qv (ee J) J<|aH h fun v10 e3 h=>br J (fU e3) cR (.cons .p0 .nil) J J<|aH h fun v11 e4 h=>ae.qv (bu J J J e4) J<|rA J J<|rN<|aJ<|rM J J<|aH h fun v12 e5 h=>br J (fU e5) cR (.cons .p0 .nil) J J<|rN<|ab.block<|aJ<|ae.qv (dt J J) J<|rA J J<|rN<|ab.cut (fun aK=>∃ (kT:List Int) (n14:Int) (yp:List an),kM kT n14 yp=some r∧aK=⟨80,[(3,.sl 6 b2 0 yp.length)],[(bt,.cells [eJ kT,I n14]),(b2,yg yp)]⟩) ?_ ?_
    ·refine cD h J (fun h=>?_) (fun h=>?_)
     ·exact tR<|rM J J<|rM J J<|aH h fun sW e6 h=>br J (nN e6) cR (.cons .p0 .nil) J J<|ae.qv (ec J) J<|ae.qv (fW J J) J<|cE (g:=an.av) (A6:=(⟨sW.1,v11.dc,v11.bS,v11.cM⟩:an)) J J J J e4 J .p1 J<|ae.ghost<|aj.eqs (s:=3) (gx:=.sl 6 b2 0 (v1.1.set v10.1.toNat (⟨sW.1,v11.dc,v11.bS,v11.cM⟩:an)).length) J (by rw [ac])<|aj.here<|ae.ghost<|aj.eqs (s:=14) (gx:=.sl 6 b2 0 (v1.1.set v10.1.toNat (⟨sW.1,v11.dc,v11.bS,v11.cM⟩:an)).length) J (by rw [ac])<|aj.here<|ae.ghost<|aj.eqs (s:=16) (gx:=.sl 6 b2 0 (v1.1.set v10.1.toNat (⟨sW.1,v11.dc,v11.bS,v11.cM⟩:an)).length) J (by rw [ac])<|aj.here<|rN<|ab.stop<|aj.lq [0,0] ⟨sW.2.L,sW.2.at_,v1.1.set v10.1.toNat (⟨sW.1,v11.dc,v11.bS,v11.cM⟩:an),h,J⟩ J J
     ·refine aJ<|ae.qv (dt J J) J<|rA J J<|rN<|ab.cut (fun aK=>∃ (vB:List Int) (n18:Int) (yo:List an),kN vB n18 yo=some r∧aK=⟨80,[(3,.sl 6 b2 0 yo.length)],[(bt,.cells [eJ vB,I n18]),(b2,yg yo)]⟩) ?_ ?_
      ·refine cD h J (fun h=>?_) (fun h=>?_)
       ·exact tR<|rM J J<|aW (xs:=([([110]:bn),([109]:bn)]).map AV.str) J J J J J J<|aW (xs:=([([]:bn)]).map AV.str) J J J J J J<|aW (xs:=([([109]:bn),([109]:bn)]).map AV.str) J J J J J J<|aW (xs:=[.nil,Du [([110]:bn),([109]:bn)],Du [([]:bn)],Du [([109]:bn),([109]:bn)]]) J J J J J J<|ae.ghost<|aj.Vx (s:=40) (gx:=.list 1 (([[],[([110]:bn),([109]:bn)],[([]:bn)],[([109]:bn),([109]:bn)]]:List (List bn)).map (K7 1 AV.str))) J (Dr.PT (.cons .n (.cons .r (.cons .r (.cons .r .nil)))) J J)<|aj.here<|rM J J<|aH h fun v20 e7 h=>br J (fU e7) cR (.cons .p0 .nil) J J<|aH h fun v21 e8 h=>ae.qv (bG J J J e8 J J) J<|ae.qv (aQ J J J) J<|ae.qv (ec J) J<|ae.qv (fW J J) J<|cE (g:=an.av) (A6:=(⟨v11.Version,v21,v11.bS,v11.cM⟩:an)) J J J J e4 J .p1 J<|ae.ghost<|aj.eqs (s:=3) (gx:=.sl 6 b2 0 (v1.1.set v10.1.toNat (⟨v11.Version,v21,v11.bS,v11.cM⟩:an)).length) J (by rw [ac])<|aj.here<|ae.ghost<|aj.eqs (s:=14) (gx:=.sl 6 b2 0 (v1.1.set v10.1.toNat (⟨v11.Version,v21,v11.bS,v11.cM⟩:an)).length) J (by rw [ac])<|aj.here<|ae.ghost<|aj.eqs (s:=16) (gx:=.sl 6 b2 0 (v1.1.set v10.1.toNat (⟨v11.Version,v21,v11.bS,v11.cM⟩:an)).length) J (by rw [ac])<|aj.here<|rN<|ab.stop<|aj.lq [0,0] ⟨v20.2.L,v20.2.at_,v1.1.set v10.1.toNat (⟨v11.Version,v21,v11.bS,v11.cM⟩:an),h,J⟩ J J
       ·refine aJ<|ae.qv (dt J J) J<|rA J J<|rN<|ab.cut (fun aK=>∃ (vT:List Int) (n23:Int) (xy:List an),kO vT n23 xy=some r∧aK=⟨80,[(3,.sl 6 b2 0 xy.length)],[(bt,.cells [eJ vT,I n23]),(b2,yg xy)]⟩) ?_ ?_
        ·refine cD h J (fun h=>?_) (fun h=>?_)
         ·exact tR<|rM J J<|rM J J<|ae.qv (ec J) J<|ae.qv (fW J J) J<|ae.qv (dJ (g:=an.av) J J (.inl .p1) e4 J) J<|aH h fun v25 e9 h=>jn J (vl e9) cR .nil (fun _=>J) J fun zO=>rM J J<|aH h fun mz BB h=>br J (nN BB) cR (.cons .p1 .nil) J J<|rM J J<|aH h fun v28 C6 h=>br J (nN C6) cR (.cons .p0 .nil) J J<|ae.qv (dv J J J J J) J<|aW (xs:=([(⟨mz.1,v28.1⟩:Range)]).map Range.av) J J J J J J<|aH h fun UR FW h=>fo (g:=Range.av) J J J J J J J J (.list _) FW (fun _=>.p1) J fun b30=>ae.qv (ec J) J<|ae.qv (fW J J) J<|ae.ghost<|aj.freeze .p1<|aj.here<|ae.ghost<|aj.Vx (s:=61) (gx:=QB UR) J (.co (Co.Ef .p1))<|aj.here<|cE (g:=an.av) (A6:=(⟨v11.Version,v11.dc,UR,v11.cM⟩:an)) J J J J e4 J .p2 J<|ae.ghost<|aj.eqs (s:=3) (gx:=.sl 6 b2 0 (v1.1.set v10.1.toNat (⟨v11.Version,v11.dc,UR,v11.cM⟩:an)).length) J (by rw [ac])<|aj.here<|ae.ghost<|aj.eqs (s:=14) (gx:=.sl 6 b2 0 (v1.1.set v10.1.toNat (⟨v11.Version,v11.dc,UR,v11.cM⟩:an)).length) J (by rw [ac])<|aj.here<|ae.ghost<|aj.eqs (s:=16) (gx:=.sl 6 b2 0 (v1.1.set v10.1.toNat (⟨v11.Version,v11.dc,UR,v11.cM⟩:an)).length) J (by rw [ac])<|aj.here<|rN<|ab.stop<|aj.lq [0,1] ⟨v28.2.L,v28.2.at_,v1.1.set v10.1.toNat (⟨v11.Version,v11.dc,UR,v11.cM⟩:an),h,J⟩ J J
         ·refine aJ<|ae.qv (dt J J) J<|rA J J<|rN<|ab.cut (fun aK=>∃ (KS:List Int) (n32:Int) (MN:List an),nk KS n32 MN=some r∧aK=⟨80,[(3,.sl 6 b2 0 MN.length)],[(bt,.cells [eJ KS,I n32]),(b2,yg MN)]⟩) ?_ ?_
          ·refine cD h J (fun h=>?_) (fun h=>?_)
           ·exact ab.cU (id:=13) (A:=[0,0,2,6,14,0,32,96,224,510,1022,2047,4095,8191]) 13 mixed J (by kernel_rfl) (by kernel_rfl)<|AM.qv (aM J) J<|AM.qv (aM J) J<|AM.qv (ec J) J<|AM.qv (fW J J) J<|AM.qv (sT (g:=an.av) J J (.inl .p1) e4 J J) J<|AM.qv (aM J) J<|AM.qv (ec J) J<|AM.qv (fW J J) J<|AM.qv (sT (g:=an.av) J J (.inl .p1) e4 J J) J<|AM.qv (dv J J J J J) J<|AM.cO (xs:=([(⟨v11.Version,v11.Version⟩:Range)]).map Range.av) J J J J J J<|AM.qv (ec J) J<|AM.qv (fW J J) J<|AM.nil<|cE (g:=an.av) (A6:=(⟨v11.Version,v11.dc,[(⟨v11.Version,v11.Version⟩:Range)],v11.cM⟩:an)) J J J J e4 J .p1 J<|ae.ghost<|aj.eqs (s:=3) (gx:=.sl 6 b2 0 (v1.1.set v10.1.toNat (⟨v11.Version,v11.dc,[(⟨v11.Version,v11.Version⟩:Range)],v11.cM⟩:an)).length) J (by rw [ac])<|aj.here<|ae.ghost<|aj.eqs (s:=14) (gx:=.sl 6 b2 0 (v1.1.set v10.1.toNat (⟨v11.Version,v11.dc,[(⟨v11.Version,v11.Version⟩:Range)],v11.cM⟩:an)).length) J (by rw [ac])<|aj.here<|ae.ghost<|aj.eqs (s:=16) (gx:=.sl 6 b2 0 (v1.1.set v10.1.toNat (⟨v11.Version,v11.dc,[(⟨v11.Version,v11.Version⟩:Range)],v11.cM⟩:an)).length) J (by rw [ac])<|aj.here<|rN<|ab.stop<|aj.lq [0,0] ⟨v12.2.L,v12.2.at_,v1.1.set v10.1.toNat (⟨v11.Version,v11.dc,[(⟨v11.Version,v11.Version⟩:Range)],v11.cM⟩:an),h,J⟩ J J
           ·exact tR<|rM J J<|rM J J<|aH h fun Ck IE h=>br J (gg IE) cR (.cons .p0 .nil) J J<|ae.qv (ec J) J<|ae.qv (fW J J) J<|cE (g:=an.av) (A6:=(⟨v11.Version,v11.dc,v11.bS,Ck.1⟩:an)) J J J J e4 J .p1 J<|ae.ghost<|aj.eqs (s:=3) (gx:=.sl 6 b2 0 (v1.1.set v10.1.toNat (⟨v11.Version,v11.dc,v11.bS,Ck.1⟩:an)).length) J (by rw [ac])<|aj.here<|ae.ghost<|aj.eqs (s:=14) (gx:=.sl 6 b2 0 (v1.1.set v10.1.toNat (⟨v11.Version,v11.dc,v11.bS,Ck.1⟩:an)).length) J (by rw [ac])<|aj.here<|ae.ghost<|aj.eqs (s:=16) (gx:=.sl 6 b2 0 (v1.1.set v10.1.toNat (⟨v11.Version,v11.dc,v11.bS,Ck.1⟩:an)).length) J (by rw [ac])<|aj.here<|rN<|ab.stop<|aj.lq [0,0] ⟨Ck.2.L,Ck.2.at_,v1.1.set v10.1.toNat (⟨v11.Version,v11.dc,v11.bS,Ck.1⟩:an),h,J⟩ J J
          ·rintro aK ⟨KS,n32,MN,h,rfl⟩
           unfold nk at h
           exact ab.stop<|aj.lq [0,0] ⟨KS,n32,MN,h,J⟩ J J
        ·rintro aK ⟨vT,n23,xy,h,rfl⟩
         unfold kO at h
         exact ab.stop<|aj.lq [0,0] ⟨vT,n23,xy,h,J⟩ J J
      ·rintro aK ⟨vB,n18,yo,h,rfl⟩
       unfold kN at h
       exact ab.stop<|aj.lq [0,0] ⟨vB,n18,yo,h,J⟩ J J
    ·rintro aK ⟨kT,n14,yp,h,rfl⟩
     unfold kM at h
     exact ab.cw<|ab.stop<|aj.lq [0,0] ⟨kT,n14,yp,h,J⟩ J J
   ·exact tK<|ab.stop<|aj.lq [0,0] ⟨l3,n4,v1.1,h,J⟩ J J
  ·rintro aK ⟨l7,n8,l9,h,rfl⟩
   unfold nj at h
   refine aJ<|rM J J<|rA J J<|rN<|ab.ret<|?_
   cases h
   exact hH J [0,0] J ⟨b2,J,J⟩
theorem Ab [GI:bN] {bt:Bk} {aa:ah} {ai:Int} {r:(List DeviceS)×ah} (h:mg aa ai=some r):aP Tryz.prog 36 [.ptr bt 0,I ai] [(bt,.cells [eJ aa.L,I aa.at_])] (T1 (fun nO=>[(bt,.cells [eJ r.2.L,I r.2.at_]),(nO,wL r.1)]) (fun nO=>.sl 7 nO 0 r.1.length)):=by
 unfold mg at h
 refine aP.hC ?_
 refine aP.bI Tryz.func36 J Tryz.ntmps36 Tryz.results36 J J ?_
 refine aJ<|rA J J<|rN<|aJ<|rA J J<|rN<|tS<|aJ<|aW (xs:=([([100,49]:bn),([100,50]:bn),([100,51]:bn),([100,52]:bn),([100,53]:bn),([100,54]:bn)]).map AV.str) J J J J J J<|rM J J<|aH h fun l1 e1 h=>ae.qv (Hw J J .none (.some _ _ _ J) J J e1) J<|ae.qv (ca J) J<|rM J J<|rN<|ab.block<|ab.cx (fun x:(List Int)×Int×(List DeviceS)×Int=>jG l1 x.1 x.2.1 x.2.2.1 x.2.2.2) (fun x aK=>∃ (b9:Bk),aK=⟨36,[(0,.ptr bt 0),(5,.sl 7 b9 0 x.2.2.1.length),(10,Du l1),(11,I (l1.length:Int)),(12,I x.2.2.2)],[(bt,.cells [eJ x.1,I x.2.1]),(b9,wL x.2.2.1)]⟩) h ?_ ?_
 ·exact aj.arr (s:=5) 7 J fun kV=>aj.lq [1,0] ⟨kV,J⟩ J J
 ·intro x z1 aK J1 dY h jl dQ
  obtain ⟨l7,n8,l10,n11⟩:=x
  obtain ⟨b9,rfl⟩:=dY
  replace h:jG l1 l7 n8 l10 n11=some z1:=h
  unfold jG at h
  refine aJ<|ae.qv (bO J J) J<|rN<|tS<|cD h J (fun h=>?_) (fun h=>?_)
  ·refine tK<|tS<|ab.block<|aJ<|aH h fun gy e2 h=>ae.qv (bG J J J e2 J J) J<|ae.qv (aQ J J J) J<|rA J J<|rN<|aJ<|rM J J<|aH h fun qe e3 h=>br J (eW e3) cR (.cons .p0 .nil) J J<|ae.qv (cu J) J<|rN<|ab.cut (fun aK=>∃ (ti:Bk) (yp:List Int) (n16:Int) (Xc:List DeviceS),jF n11 yp n16 Xc=some z1∧aK=⟨36,[(0,.ptr bt 0),(5,.sl 7 ti 0 Xc.length),(10,Du l1),(11,I (l1.length:Int)),(12,I n11)],[(bt,.cells [eJ yp,I n16]),(ti,wL Xc)]⟩) ?_ ?_
   ·refine cB h J (fun h=>?_) (fun h=>?_)
    ·exact tR<|rM J J<|rM J J<|rM J J<|aW (xs:=([([109]:bn),([109]:bn),([109]:bn),([110]:bn)]).map AV.str) J J J J J J<|aH h fun np e4 h=>br J (mT e4) cR (.cons .p0 .nil) J J<|rM J J<|aW (xs:=([1,1,1,2,3]).map I) J J J J J J<|aH h fun v20 e5 h=>br J (cF e5) cR (.cons .p0 .nil) J J<|rM J J<|aW (xs:=([0,0,5]).map I) J J J J J J<|aH h fun v21 e6 h=>br J (cF e6) cR (.cons .p0 .nil) J J<|ae.qv (dv J J J J J) J<|ae.qv (dv J J J J J) J<|aW (xs:=[.agg [.str gy,.str np.1,.str ([116]:bn),I v20.1,I v21.1,I 0,.nil]]) J J J J J J<|ae.ghost<|aj.Vx (s:=32) (gx:=.list 7 (([(⟨gy,np.1,([116]:bn),(⟨v20.1,v21.1,0⟩:Version),[]⟩:DeviceS)]:List DeviceS).map DeviceS.av)) J (Dr.PT (.cons .r (.cons .r (.cons .r (.cons .r (.cons .r (.cons .r (.cons .n .nil))))))) J J)<|aj.here<|aH h fun vT e7 h=>fo (g:=DeviceS.av) J J J J J J J J (.list _) e7 (fun _=>.p1) J fun b23=>rA J J<|rN<|ab.stop<|aj.lq [0,0] ⟨b23,v21.2.L,v21.2.at_,vT,h,J⟩ J J
    ·exact tK<|ab.stop<|aj.lq [0,0] ⟨b9,qe.2.L,qe.2.at_,l10,h,J⟩ J J
   ·rintro aK ⟨ti,yp,n16,Xc,h,rfl⟩
    unfold jF at h
    refine ab.cw<|tR<|ae.qv (bq J J) J<|rM J J<|rN<|ab.stop<|?_
    cases h
    exact jl _ _ J<|aj.lq [0,0] ⟨ti,J⟩ J J
  ·refine ab.exit J<|have h:=bT h dQ;aJ<|rM J J<|rA J J<|rN<|ab.ret<|?_
   cases h
   exact hH J [0,0] J ⟨b9,J,J⟩
theorem EV [GI:bN] {bt:Bk} {aa:ah} {ai:Int} {r:(List DeviceS)×ah} (h:r8 aa ai=some r):aP Tryz.prog 7 [.ptr bt 0,I ai] [(bt,.cells [eJ aa.L,I aa.at_])] (T1 (fun nO=>[(bt,.cells [eJ r.2.L,I r.2.at_]),(nO,wL r.1)]) (fun nO=>.sl 7 nO 0 r.1.length)):=by
 unfold r8 at h
 refine aP.hC ?_
 refine aP.bI Tryz.func7 J Tryz.ntmps7 Tryz.results7 J J ?_
 refine aJ<|rA J J<|rN<|aJ<|rM J J<|rM J J<|aH h fun v1 e1 h=>jn J (Ab e1) cR (.cons .p0 .nil) (fun _=>J) J fun b2=>rA J J<|rN<|tS<|tS<|ab.cut (fun aK=>∃ (l3:List Int) (n4:Int) (c5:Bool),oz v1 l3 n4 c5=some r∧aK=⟨45,[(0,.ptr bt 0),(5,.sl 7 b2 0 v1.1.length),(16,.bool c5)],[(bt,.cells [eJ l3,I n4]),(b2,wL v1.1)]⟩) ?_ ?_
 ·refine tR<|rM J J<|ae.qv (ee J) J<|ae.qv (eM J J) J<|rM J J<|gT h J J J (fun h=>?_) (fun h=>?_)
  ·exact rM J J<|rY J J J<|aH h fun v6 e2 h=>br J (eW e2) cR (.cons .p0 .nil) J J<|rT J J J<|rN<|ab.stop<|aj.lq [0,0] ⟨v6.2.L,v6.2.at_,v6.1,h,J⟩ J J
  ·exact rG J J J J<|rE J J J<|rN<|ab.stop<|aj.lq [0,0] ⟨v1.2.L,v1.2.at_,false,h,J⟩ J J
 ·rintro aK ⟨l3,n4,c5,h,rfl⟩
  unfold oz at h
  refine ab.cut (fun aK=>∃ (l7:List Int) (n8:Int) (l9:List DeviceS),oy l7 n8 l9=some r∧aK=⟨45,[(5,.sl 7 b2 0 l9.length)],[(bt,.cells [eJ l7,I n8]),(b2,wL l9)]⟩) ?_ ?_
  ·refine cB h J (fun h=>?_) (fun h=>?_)
   ·exact aJ<|rM J J<|rM J J<|rM J J<|ae.qv (ee J) J<|aH h fun v10 e3 h=>br J (fU e3) cR (.cons .p0 .nil) J J<|aH h fun v11 e4 h=>ae.qv (bu J J J e4) J<|rA J J<|rN<|tR<|rM J J<|rM J J<|rM J J<|rM J J<|rM J J<|ae.qv (ec J) J<|ae.qv (fW J J) J<|ae.qv (dJ (g:=DeviceS.av) J J (.inl .p1) e4 J) J<|aW (xs:=([v11.Key,([]:bn),([100,49]:bn)]).map AV.str) J J J J J J<|aH h fun v12 e5 h=>br J (mT e5) cR (.cons .p0 .nil) J J<|rM J J<|aW (xs:=([([109]:bn),([]:bn)]).map AV.str) J J J J J J<|aH h fun gy e6 h=>br J (mT e6) cR (.cons .p0 .nil) J J<|rM J J<|aH h fun qe e7 h=>br J (nN e7) cR (.cons .p0 .nil) J J<|ae.qv (ec J) J<|ae.qv (fW J J) J<|cE (g:=DeviceS.av) (A6:=(⟨v12.1,v11.Model,v11.fb,v11.bQ,v11.o5⟩:DeviceS)) J J J J e4 J .p1 J<|ae.ghost<|aj.eqs (s:=5) (gx:=.sl 7 b2 0 (v1.1.set v10.1.toNat (⟨v12.1,v11.Model,v11.fb,v11.bQ,v11.o5⟩:DeviceS)).length) J (by rw [ac])<|aj.here<|ae.ghost<|aj.eqs (s:=17) (gx:=.sl 7 b2 0 (v1.1.set v10.1.toNat (⟨v12.1,v11.Model,v11.fb,v11.bQ,v11.o5⟩:DeviceS)).length) J (by rw [ac])<|aj.here<|ae.ghost<|aj.eqs (s:=19) (gx:=.sl 7 b2 0 (v1.1.set v10.1.toNat (⟨v12.1,v11.Model,v11.fb,v11.bQ,v11.o5⟩:DeviceS)).length) J (by rw [ac])<|aj.here<|ae.qv (ec J) J<|ae.qv (fW J J) J<|cE (g:=DeviceS.av) (A6:=(⟨v12.1,gy.1,v11.fb,v11.bQ,v11.o5⟩:DeviceS)) J J J J (rW (v:=(⟨v12.1,v11.Model,v11.fb,v11.bQ,v11.o5⟩:DeviceS)) e4) J .p1 J<|ae.ghost<|aj.eqs (s:=5) (gx:=.sl 7 b2 0 ((v1.1.set v10.1.toNat (⟨v12.1,v11.Model,v11.fb,v11.bQ,v11.o5⟩:DeviceS)).set v10.1.toNat (⟨v12.1,gy.1,v11.fb,v11.bQ,v11.o5⟩:DeviceS)).length) J (by rw [ac])<|aj.here<|ae.ghost<|aj.eqs (s:=17) (gx:=.sl 7 b2 0 ((v1.1.set v10.1.toNat (⟨v12.1,v11.Model,v11.fb,v11.bQ,v11.o5⟩:DeviceS)).set v10.1.toNat (⟨v12.1,gy.1,v11.fb,v11.bQ,v11.o5⟩:DeviceS)).length) J (by rw [ac])<|aj.here<|ae.ghost<|aj.eqs (s:=19) (gx:=.sl 7 b2 0 ((v1.1.set v10.1.toNat (⟨v12.1,v11.Model,v11.fb,v11.bQ,v11.o5⟩:DeviceS)).set v10.1.toNat (⟨v12.1,gy.1,v11.fb,v11.bQ,v11.o5⟩:DeviceS)).length) J (by rw [ac])<|aj.here<|ae.qv (ec J) J<|ae.qv (fW J J) J<|cE (g:=DeviceS.av) (A6:=(⟨v12.1,gy.1,v11.fb,qe.1,v11.o5⟩:DeviceS)) J J J J (rW (v:=(⟨v12.1,gy.1,v11.fb,v11.bQ,v11.o5⟩:DeviceS)) (rW (v:=(⟨v12.1,v11.Model,v11.fb,v11.bQ,v11.o5⟩:DeviceS)) e4)) J .p1 J<|ae.ghost<|aj.eqs (s:=5) (gx:=.sl 7 b2 0 (((v1.1.set v10.1.toNat (⟨v12.1,v11.Model,v11.fb,v11.bQ,v11.o5⟩:DeviceS)).set v10.1.toNat (⟨v12.1,gy.1,v11.fb,v11.bQ,v11.o5⟩:DeviceS)).set v10.1.toNat (⟨v12.1,gy.1,v11.fb,qe.1,v11.o5⟩:DeviceS)).length) J (by rw [ac])<|aj.here<|ae.ghost<|aj.eqs (s:=17) (gx:=.sl 7 b2 0 (((v1.1.set v10.1.toNat (⟨v12.1,v11.Model,v11.fb,v11.bQ,v11.o5⟩:DeviceS)).set v10.1.toNat (⟨v12.1,gy.1,v11.fb,v11.bQ,v11.o5⟩:DeviceS)).set v10.1.toNat (⟨v12.1,gy.1,v11.fb,qe.1,v11.o5⟩:DeviceS)).length) J (by rw [ac])<|aj.here<|ae.ghost<|aj.eqs (s:=19) (gx:=.sl 7 b2 0 (((v1.1.set v10.1.toNat (⟨v12.1,v11.Model,v11.fb,v11.bQ,v11.o5⟩:DeviceS)).set v10.1.toNat (⟨v12.1,gy.1,v11.fb,v11.bQ,v11.o5⟩:DeviceS)).set v10.1.toNat (⟨v12.1,gy.1,v11.fb,qe.1,v11.o5⟩:DeviceS)).length) J (by rw [ac])<|aj.here<|rN<|ab.stop<|aj.lq [0,0] ⟨qe.2.L,qe.2.at_,((v1.1.set v10.1.toNat (⟨v12.1,v11.Model,v11.fb,v11.bQ,v11.o5⟩:DeviceS)).set v10.1.toNat (⟨v12.1,gy.1,v11.fb,v11.bQ,v11.o5⟩:DeviceS)).set v10.1.toNat (⟨v12.1,gy.1,v11.fb,qe.1,v11.o5⟩:DeviceS),h,J⟩ J J
   ·exact tK<|ab.stop<|aj.lq [0,0] ⟨l3,n4,v1.1,h,J⟩ J J
  ·rintro aK ⟨l7,n8,l9,h,rfl⟩
   unfold oy at h
   refine aJ<|rM J J<|rA J J<|rN<|ab.ret<|?_
   cases h
   exact hH J [0,0] J ⟨b2,J,J⟩
theorem QD [GI:bN] {aa r:Int} (h:EO aa=r):Pu Tryz.prog 83 [I aa] (I r):=by
 unfold EO at h
 refine aP.bI Tryz.func83 J Tryz.ntmps83 Tryz.results83 J J ?_
 refine aJ<|rA J J<|rN<|tS<|ab.block<|aJ<|rM J J<|ae.qv (bO J J) J<|rA J J<|rN<|cD h J (fun h=>?_) (fun h=>?_)
 ·refine aJ<|rA J J<|rN<|ab.ret<|?_
  obtain rfl:=h
  exact hP J J
 ·refine aJ<|rM J J<|ae.qv (eM J J) J<|rA J J<|rN<|cD h J (fun h=>?_) (fun h=>?_)
  ·refine aJ<|rA J J<|rN<|ab.ret<|?_
   obtain rfl:=h
   exact hP J J
  ·refine tK<|ab.cw<|aJ<|rA J J<|rN<|ab.ret<|?_
   obtain rfl:=h
   exact hP J J
theorem tJ [GI:bN] {aa ai:MarkS} {r:Int} (h:ie aa ai=r):Pu Tryz.prog 39 [MarkS.av aa,MarkS.av ai] (I r):=by
 unfold ie at h
 refine aP.bI Tryz.func39 J Tryz.ntmps39 Tryz.results39 J J ?_
 refine aJ<|dp J J J J fun b1=>dp J J J J fun b2=>rA J J<|rN<|tS<|aJ<|rF J J J<|rL J J .p1 J J<|rF J J J<|rL J J .p0 J J<|ae.qv (o9 J J) J<|rN<|cD h J (fun h=>?_) (fun h=>?_)
 ·refine aJ<|rF J J J<|rL J J .p1 J J<|rF J J J<|rL J J .p0 J J<|ae.qv (eK J J) J<|aT J (QD J) cR J<|rA J J<|rN<|ab.ret<|?_
  obtain rfl:=h
  exact hP J J
 ·refine tK<|aJ<|rF J J J<|rL J J .p1 J J<|rF J J J<|rL J J .p0 J J<|aT J (r6 J) cR J<|rA J J<|rN<|ab.ret<|?_
  obtain rfl:=h
  exact hP J J
theorem ly [GI:bN] {bt:Bk} {aa:List MarkS} {ai aI:Int} {lS:MarkS→MarkS→Option Int} {xf:FuncId} [bJ Tryz.prog xf] {ze:List AV} (QE:∀ {y0 y1:_} {u:Int},lS y0 y1=some u→Pu Tryz.prog xf (MarkS.av y0 :: MarkS.av y1 :: ze) (I u)) {r:(List MarkS)} (h:cG aa ai aI lS=some r):aP Tryz.prog 120 [.sl 6 bt 0 aa.length,I ai,I aI,.func (.func xf) ze] [(bt,sD aa)] (T0 ([(bt,sD r)]) (.lE [])):=by
 unfold cG at h
 refine aP.hC ?_
 refine aP.bI Tryz.func120 J Tryz.ntmps120 Tryz.results120 J J ?_
 refine aJ<|rM J J<|ae.qv (bq J J) J<|rA J J<|rN<|ab.block<|ab.cx (fun x:(List MarkS)×Int=>dx ai aI lS x.1 x.2) (fun x aK=>aK=⟨53,[(0,.sl 6 bt 0 x.1.length),(1,I ai),(2,I aI),(3,.func (.func xf) ze),(8,I x.2)],[(bt,sD x.1)]⟩) h ?_ ?_
 ·exact aj.lq [0] J J J
 ·intro x z1 aK J1 dY h jl dQ
  obtain ⟨l3,n4⟩:=x
  obtain rfl:=dY
  replace h:dx ai aI lS l3 n4=some z1:=h
  unfold dx at h
  refine tS<|aJ<|rM J J<|rM J J<|ae.qv (bO J J) J<|rN<|cD h J (fun h=>?_) (fun h=>?_)
  ·refine tK<|tS<|ab.block<|aJ<|rM J J<|rA J J<|rN<|ab.block<|ab.cx (fun x:(List MarkS)×Int=>ew ai lS n4 x.1 x.2) (fun x aK=>aK=⟨53,[(0,.sl 6 bt 0 x.1.length),(1,I ai),(2,I aI),(3,.func (.func xf) ze),(8,I n4),(9,I x.2)],[(bt,sD x.1)]⟩) h ?_ ?_
   ·exact aj.lq [0] J J J
   ·intro x z2 aK J2 dY h yr wE
    obtain ⟨l7,n8⟩:=x
    obtain rfl:=dY
    replace h:ew ai lS n4 l7 n8=some z2:=h
    unfold ew at h
    refine tS<|tS<|ab.cut (fun aK=>∃ (c9:Bool),eu n4 l7 n8 c9=some z2∧aK=⟨53,[(0,.sl 6 bt 0 l7.length),(1,I ai),(2,I aI),(3,.func (.func xf) ze),(8,I n4),(9,I n8),(34,.bool c9)],[(bt,sD l7)]⟩) ?_ ?_
    ·refine ab.cU (id:=4) (A:=[0,0,3,7,15,15,15,111,239,15,15,1039,3599,7695,16383,32767,65535]) 17 mixed J (by kernel_rfl) (by kernel_rfl)<|AM.qv (aM J) J<|AM.qv (aM J) J<|AM.qv (eM J J) J<|AM.qv (aM J) J<|AM.dw J J J (fun hc=>?_) (fun hc=>?_)
     ·exact have h:=pj hc h;AM.qv (aM J) J<|AM.au J J J<|AM.qv (aM J) J<|AM.au J J J<|AM.qv (aM J) J<|AM.au J J J<|aH h fun v10 e1 h=>AM.qv (bu J J J e1) J<|AM.au J J J<|AM.qv (bP (g:=MarkS.av) J J (.inl .p0) J e1 J) J<|AM.au J J J<|AM.qv (aM J) J<|AM.au J J J<|AM.qv (aM J) J<|AM.au J J J<|AM.qv (eK J J) J<|AM.au J J J<|aH h fun v11 e2 h=>AM.qv (bu J J J e2) J<|AM.au J J J<|AM.qv (bP (g:=MarkS.av) J J (.inl .p0) J e2 J) J<|AM.au J J J<|aH h fun v12 e3 h=>AM.HN J J (QE e3) cR J<|AM.au J J J<|AM.qv (bO J J) J<|AM.qv (fP J J) J<|AM.nil<|rN<|ab.stop<|aj.lq [0] ⟨decide (v12 < 0),h,J⟩ J J
     ·exact have h:=zZ hc h;AM.ar J J J J<|AM.ar J J J J<|AM.ar J J J J<|AM.ar J J J J<|AM.ar J J J J<|AM.ar J J J J<|AM.ar J J J J<|AM.ar J J J J<|AM.ar J J J J<|AM.ar J J J J<|AM.ar J J J J<|AM.qv (ed J J) J<|AM.nil<|rN<|ab.stop<|aj.lq [0] ⟨false,h,J⟩ J J
    ·rintro aK ⟨c9,h,rfl⟩
     unfold eu at h
     refine cB h J (fun h=>?_) (fun h=>?_)
     ·refine tK<|tS<|ab.block<|aH h fun gy e4 h=>aH h fun qe e5 h=>aH h fun kU e6 h=>ab.jN (id:=6) (A:=[0,0,0,0,8,0,0,64,224,480,0,0,3072,7168,16355,32739,65535,131071]) (H0:=[(bt,sD l7)]) (HH:=fun β=>[(bt,sD (l7.set n8.toNat gy))]) 16 mixed J (by kernel_rfl) (by kernel_rfl) [⟨none,some 15,[9,13],fun _=>(bt,sD l7),none,[]⟩,⟨some 15,none,[],fun _=>(bt,sD (l7.set n8.toNat gy)),none,[]⟩] [] J (by kernel_rfl) J (.cons .p0 .nil) (fun _=>J)<|AT.am 9 J J<|AM.qv (aM J) J<|AM.qv (aM J) J<|AM.qv (aM J) J<|AM.qv (aM J) J<|AM.qv (eK J J) J<|AM.qv (aM J) J<|AM.qv (aM J) J<|AM.qv (eK J J) J<|AM.qv (bu J J J e4) J<|AM.nil<|AT.rd (Rs:=[(bt,sD l7)]) (fun _=>J) J (fun _=>J) (fun _=>J) (bP (g:=MarkS.av) J J (.inl .p0) J e4 J) J<|AT.am 3 J J<|AM.qv (aM J) J<|AM.qv (aM J) J<|AM.qv (bu J J J e5) J<|AM.nil<|AT.rd (Rs:=[(bt,sD l7)]) (fun _=>J) J (fun _=>J) (fun _=>J) (bP (g:=MarkS.av) J J (.inl .p0) J e5 J) J<|AT.am 1 J J<|AM.qv (bu J J J e6) J<|AM.nil<|AT.HB (Ti:=[(bt,sD l7)]) (Pi:=[(bt,sD (l7.set n8.toNat gy))]) (fun _=>J) (fun _=>J) (fun _=>J) J J ?_ ?_
      ·exact cE (g:=MarkS.av) (A6:=gy) J J J J e6 J .p0 J<|ae.nil ⟨_,J⟩
      refine AT.wW (fun _=>J) fun β=>ae.ghost<|aj.eqs (s:=0) (gx:=.sl 6 bt 0 (l7.set n8.toNat gy).length) J (by simp)<|aj.here<|ae.ghost<|aj.eqs (s:=37) (gx:=.sl 6 bt 0 (l7.set n8.toNat gy).length) J (by simp)<|aj.here<|ae.ghost<|aj.eqs (s:=39) (gx:=.sl 6 bt 0 (l7.set n8.toNat gy).length) J (by simp)<|aj.here<|ae.ghost<|aj.eqs (s:=42) (gx:=.sl 6 bt 0 (l7.set n8.toNat gy).length) J (by simp)<|aj.here<|ae.ghost<|aj.eqs (s:=47) (gx:=.sl 6 bt 0 (l7.set n8.toNat gy).length) J (by simp)<|aj.here<|aH h fun sW e7 h=>ae.qv (bu J J J e7) J<|cE (g:=MarkS.av) (A6:=qe) J J J J e7 J .p0 J<|ae.ghost<|aj.eqs (s:=0) (gx:=.sl 6 bt 0 ((l7.set n8.toNat gy).set (bB (n8 - 1)).toNat qe).length) J (by rw [ac])<|aj.here<|ae.ghost<|aj.eqs (s:=37) (gx:=.sl 6 bt 0 ((l7.set n8.toNat gy).set (bB (n8 - 1)).toNat qe).length) J (by rw [ac])<|aj.here<|ae.ghost<|aj.eqs (s:=39) (gx:=.sl 6 bt 0 ((l7.set n8.toNat gy).set (bB (n8 - 1)).toNat qe).length) J (by rw [ac])<|aj.here<|ae.ghost<|aj.eqs (s:=42) (gx:=.sl 6 bt 0 ((l7.set n8.toNat gy).set (bB (n8 - 1)).toNat qe).length) J (by rw [ac])<|aj.here<|ae.ghost<|aj.eqs (s:=47) (gx:=.sl 6 bt 0 ((l7.set n8.toNat gy).set (bB (n8 - 1)).toNat qe).length) J (by rw [ac])<|aj.here<|rN<|ab.cw<|tR<|rM J J<|ae.qv (eK J J) J<|rA J J<|rN<|ab.stop<|?_
      cases h
      exact yr _ _ J<|aj.lq [0] J J J
     ·refine ab.exit J<|have h:=bT h wE;ab.cw<|tR<|rM J J<|ae.qv (bq J J) J<|rA J J<|rN<|ab.stop<|?_
      cases h
      exact jl _ _ J<|aj.lq [0] J J J
  ·refine ab.exit J<|have h:=bT h dQ;ab.nil<|?_
   cases h
   exact aj.here ⟨_,.nil,_,.cons .p0 .nil,⟨J,J⟩⟩
theorem uN [GI:bN] {bt:Bk} {aa:List MarkS} {ai:Int} {yb:MarkS→MarkS→Option Int} {sP:FuncId} [bJ Tryz.prog sP] {vm:List AV} (EW:∀ {y0 y1:_} {u:Int},yb y0 y1=some u→Pu Tryz.prog sP (MarkS.av y0 :: MarkS.av y1 :: vm) (I u)) {r:(List MarkS)} (h:gj aa ai yb=some r):aP Tryz.prog 82 [.sl 6 bt 0 aa.length,I ai,.func (.func sP) vm] [(bt,sD aa)] (T0 ([(bt,sD r)]) (.lE [])):=by
 unfold gj at h
 refine aP.hC ?_
 refine aP.bI Tryz.func82 J Tryz.ntmps82 Tryz.results82 J J ?_
 refine aJ<|rA J J<|rN<|aJ<|rM J J<|rA J J<|rA J J<|rN<|tS<|ab.block<|ab.cx (fun x:(List MarkS)×Int×Int=>dh ai yb x.1 x.2.1 x.2.2) (fun x aK=>aK=⟨63,[(0,.sl 6 bt 0 x.1.length),(1,I ai),(2,.func (.func sP) vm),(6,I 20),(7,I x.2.1),(8,I x.2.2)],[(bt,sD x.1)]⟩) h ?_ ?_
 ·exact aj.lq [0] J J J
 ·intro x z1 aK J1 dY h jl dQ
  obtain ⟨l4,n5,n6⟩:=x
  obtain rfl:=dY
  replace h:dh ai yb l4 n5 n6=some z1:=h
  unfold dh at h
  refine tS<|aJ<|rM J J<|rM J J<|ae.qv (pn J J) J<|rN<|cD h J (fun h=>?_) (fun h=>?_)
  ·refine tK<|ab.block<|aJ<|rM J J<|rM J J<|rM J J<|rM J J<|aH h fun v7 e1 h=>br J (ly EW (rZ e1)) cR (.cons .p0 .nil) J J<|ae.ghost<|aj.eqs (s:=0) (gx:=.sl 6 bt 0 v7.length) J (congrArg (AV.sl 6 bt 0) (gR e1))<|aj.here<|ae.ghost<|aj.eqs (s:=14) (gx:=.sl 6 bt 0 v7.length) J (congrArg (AV.sl 6 bt 0) (gR e1))<|aj.here<|rN<|aJ<|rM J J<|rA J J<|rN<|tR<|rM J J<|rM J J<|ae.qv (bq J J) J<|rA J J<|rN<|ab.cw<|ab.stop<|?_
   cases h
   exact jl _ _ J<|aj.lq [0] J J J
  ·refine ab.exit J<|have h:=bT h dQ;?_
   unfold gU at h
   refine aJ<|rM J J<|rM J J<|rM J J<|rM J J<|aH h fun v8 e2 h=>br J (ly EW (rZ e2)) cR (.cons .p0 .nil) J J<|ae.ghost<|aj.eqs (s:=0) (gx:=.sl 6 bt 0 v8.length) J (congrArg (AV.sl 6 bt 0) (gR e2))<|aj.here<|ae.ghost<|aj.eqs (s:=23) (gx:=.sl 6 bt 0 v8.length) J (congrArg (AV.sl 6 bt 0) (gR e2))<|aj.here<|rN<|ab.block<|ab.cx (fun x:Int=>dI ai v8 x) (fun x aK=>aK=⟨63,[(0,.sl 6 bt 0 v8.length),(1,I ai),(2,.func (.func sP) vm),(6,I x)],[(bt,sD v8)]⟩) h ?_ ?_
   ·exact aj.lq [0] J J J
   ·intro n10 z2 aK J2 dY h yr wE
    obtain rfl:=dY
    replace h:dI ai v8 n10=some z2:=h
    unfold dI at h
    refine tS<|aJ<|rM J J<|rM J J<|ae.qv (bO J J) J<|rN<|cD h J (fun h=>?_) (fun h=>?_)
    ·refine tK<|ab.block<|aJ<|rM J J<|ae.qv (sR J J) J<|rA J J<|rA J J<|rN<|tS<|ab.block<|ab.cx (fun x:Unit=>gS ai n10) (fun x aK=>aK=⟨63,[(0,.sl 6 bt 0 v8.length),(1,I ai),(2,.func (.func sP) vm),(6,I n10),(7,I 0),(8,I (bB (2 * n10)))],[(bt,sD v8)]⟩) h ?_ ?_
     ·exact aj.lq [0] J J J
     ·intro x z3 aK J3 dY h YO Wd
      obtain rfl:=dY
      replace h:gS ai n10=some z3:=h
      unfold gS at h
      refine tS<|aJ<|rM J J<|rM J J<|ae.qv (pn J J) J<|rN<|cD h J (fun h=>?_) (fun h=>?_)
      ·refine tK<|ab.block<|aJ<|rM J J<|rM J J<|rM J J<|rM J J<|ae.qv (bq J J) J<|rM J J<|rM J J<|?_
       cases h
      ·refine ab.exit J<|have h:=bT h Wd;?_
       unfold oA at h
       refine tS<|aJ<|rM J J<|rM J J<|ae.qv (bq J J) J<|rA J J<|rN<|aJ<|rM J J<|rM J J<|ae.qv (bO J J) J<|rN<|cD h J (fun h=>?_) (fun h=>?_)
       ·refine tR<|rM J J<|rM J J<|rM J J<|rM J J<|rM J J<|?_
        cases h
       ·refine tK<|tR<|rM J J<|ae.qv (sR J J) J<|rA J J<|rN<|ab.cw<|ab.stop<|?_
        cases h
        exact yr _ _ J<|aj.lq [0] J J J
    ·refine ab.exit J<|have h:=bT h wE;ab.nil<|?_
     cases h
     exact aj.here ⟨_,.nil,_,.cons .p0 .nil,⟨J,J⟩⟩
theorem rQ [GI:bN] {bt:Bk} {aa:List MarkS} {eC:MarkS→MarkS→Option Int} {du:FuncId} [bJ Tryz.prog du] {eB:List AV} (lK:∀ {y0 y1:_} {u:Int},eC y0 y1=some u→Pu Tryz.prog du (MarkS.av y0 :: MarkS.av y1 :: eB) (I u)) {r:(List MarkS)} (h:dW aa eC=some r):aP Tryz.prog 38 [.sl 6 bt 0 aa.length,.func (.func du) eB] [(bt,sD aa)] (T0 ([(bt,sD r)]) (.lE [])):=by
 unfold dW at h
 refine aP.hC ?_
 refine aP.bI Tryz.func38 J Tryz.ntmps38 Tryz.results38 J J ?_
 refine tR<|rM J J<|rM J J<|ae.qv (ee J) J<|rM J J<|aH h fun v1 e1 h=>br J (uN lK (rZ e1)) cR (.cons .p0 .nil) J J<|ae.ghost<|aj.eqs (s:=0) (gx:=.sl 6 bt 0 v1.length) J (congrArg (AV.sl 6 bt 0) (gR e1))<|aj.here<|ae.ghost<|aj.eqs (s:=4) (gx:=.sl 6 bt 0 v1.length) J (congrArg (AV.sl 6 bt 0) (gR e1))<|aj.here<|ae.ghost<|aj.eqs (s:=5) (gx:=.sl 6 bt 0 v1.length) J (congrArg (AV.sl 6 bt 0) (gR e1))<|aj.here<|rN<|ab.nil<|?_
 cases h
 exact aj.here ⟨_,.nil,_,.cons .p0 .nil,⟨J,J⟩⟩
theorem BD [GI:bN] {aa ai:MarkS} {r:Bool} (h:oC aa ai=r):Pu Tryz.prog 41 [MarkS.av aa,MarkS.av ai] (.bool r):=by
 unfold oC at h
 refine aP.bI Tryz.func41 J Tryz.ntmps41 Tryz.results41 J J ?_
 refine aJ<|dp J J J J fun b1=>dp J J J J fun b2=>rA J J<|rN<|aJ<|ae.qv (aG J J .p1 J) J<|ae.qv (aG J J .p0 J) J<|aT J (tJ J) cR J<|ae.qv (dt J J) J<|rA J J<|rN<|ab.ret<|?_
 obtain rfl:=h
 exact hP J J
theorem tj [GI:bN] {bt:Bk} {aa:List MarkS} {eC:MarkS→MarkS→Option Bool} {du:FuncId} [bJ Tryz.prog du] {eB:List AV} (lK:∀ {y0 y1:_} {u:Bool},eC y0 y1=some u→Pu Tryz.prog du (MarkS.av y0 :: MarkS.av y1 :: eB) (.bool u)) {r:(List MarkS)} (h:gV aa eC=some r):aP Tryz.prog 40 [.sl 6 bt 0 aa.length,.func (.func du) eB] [(bt,sD aa)] (T1 (fun nO=>[(nO,sD r)]) (fun nO=>.sl 6 nO 0 r.length)):=by
 unfold gV at h
 refine aP.hC ?_
 refine aP.bI Tryz.func40 J Tryz.ntmps40 Tryz.results40 J J ?_
 refine aJ<|rA J J<|rN<|tS<|aJ<|rM J J<|ae.qv (ee J) J<|ae.qv (bO J J) J<|rN<|cD h J (fun h=>?_) (fun h=>?_)
 ·refine aJ<|rM J J<|rA J J<|rN<|ab.ret<|?_
  cases h
  exact hH J [0] J ⟨bt,J,J⟩
 ·refine tK<|tS<|aJ<|rA J J<|rN<|ab.block<|ab.cx (fun x:Int=>fM aa eC x) (fun x aK=>aK=⟨66,[(0,.sl 6 bt 0 aa.length),(1,.func (.func du) eB),(5,I x)],[(bt,sD aa)]⟩) h ?_ ?_
  ·exact aj.lq [0] J J J
  ·intro n2 z1 aK J1 dY h jl dQ
   obtain rfl:=dY
   replace h:fM aa eC n2=some z1:=h
   unfold fM at h
   refine tS<|aJ<|rM J J<|rM J J<|ae.qv (ee J) J<|ae.qv (bO J J) J<|rN<|cD h J (fun h=>?_) (fun h=>?_)
   ·refine tK<|tS<|ab.block<|tS<|ab.cU (id:=6) (A:=[0,0,0,6,14,0,0,64,224,480,1023]) 11 mixed J (by kernel_rfl) (by kernel_rfl)<|AM.qv (aM J) J<|AM.qv (aM J) J<|AM.qv (aM J) J<|aH h fun v3 e1 h=>AM.qv (bu J J J e1) J<|AM.qv (bP (g:=MarkS.av) J J (.inl .p0) J e1 J) J<|AM.qv (aM J) J<|AM.qv (aM J) J<|AM.qv (eK J J) J<|aH h fun v4 e2 h=>AM.qv (bu J J J e2) J<|AM.qv (bP (g:=MarkS.av) J J (.inl .p0) J e2 J) J<|aH h fun v5 e3 h=>AM.HN J J (lK e3) cR J<|AM.nil<|rN<|cB h J (fun h=>?_) (fun h=>?_)
    ·refine aJ<|rM J J<|rM J J<|aH h fun l6 e4 h=>ae.qv (qZ J J (.some _ _ _ J) .none J J e4) J<|rA J J<|rN<|tS<|aJ<|rA J J<|rN<|ab.block<|ab.cx (fun x:(List MarkS)×Int×Int=>fL eC n2 l6 x.1 x.2.1 x.2.2) (fun x aK=>aK=⟨66,[(0,.sl 6 bt 0 x.1.length),(1,.func (.func du) eB),(5,I x.2.1),(6,.sl 6 bt n2.toNat l6.length),(7,I x.2.2)],[(bt,sD x.1)]⟩) h ?_ ?_
     ·exact aj.lq [0] J J J
     ·intro x z2 aK J2 dY h yr wE
      obtain ⟨l10,n11,n12⟩:=x
      obtain rfl:=dY
      replace h:fL eC n2 l6 l10 n11 n12=some z2:=h
      unfold fL at h
      refine tS<|aJ<|rM J J<|rM J J<|ae.qv (NS J) J<|ae.qv (bO J J) J<|rN<|cD h J (fun h=>?_) (fun h=>?_)
      ·refine tK<|tS<|ab.block<|tS<|ab.cU (id:=11) (A:=[0,0,0,6,14,0,0,64,224,480,1023,2047]) 12 mixed J (by kernel_rfl) (by kernel_rfl)<|AM.qv (aM J) J<|AM.qv (aM J) J<|AM.qv (aM J) J<|aH h fun gy e5 h=>AM.qv (yV (L:=n2) J J J e5) J<|AM.qv (bP (g:=MarkS.av) J J (.inl .p0) J (zH e5).2 J) J<|AM.qv (aM J) J<|AM.qv (aM J) J<|AM.qv (eK J J) J<|aH h fun qe e6 h=>AM.qv (yV (L:=n2) J J J e6) J<|AM.qv (bP (g:=MarkS.av) J J (.inl .p0) J (zH e6).2 J) J<|aH h fun kU e7 h=>AM.HN J J (lK e7) cR J<|AM.qv (cu J) J<|AM.nil<|rN<|ab.cut (fun aK=>∃ (za:List MarkS) (n17:Int),fK n12 za n17=some z2∧aK=⟨66,[(0,.sl 6 bt 0 za.length),(1,.func (.func du) eB),(5,I n17),(6,.sl 6 bt n2.toNat l6.length),(7,I n12)],[(bt,sD za)]⟩) ?_ ?_
       ·refine cB h J (fun h=>?_) (fun h=>?_)
        ·exact aJ<|rM J J<|rM J J<|rM J J<|rM J J<|aH h fun fg e8 h=>ae.qv (yV (L:=n2) J J J e8) J<|ae.qv (bP (g:=MarkS.av) J J (.inl .p0) J (zH e8).2 J) J<|aH h fun np e9 h=>ae.qv (bu J J J e9) J<|cE (g:=MarkS.av) (A6:=fg) J J J J e9 J .p0 J<|ae.ghost<|aj.eqs (s:=0) (gx:=.sl 6 bt 0 (l10.set n11.toNat fg).length) J (by rw [ac])<|aj.here<|ae.ghost<|aj.eqs (s:=50) (gx:=.sl 6 bt 0 (l10.set n11.toNat fg).length) J (by rw [ac])<|aj.here<|rN<|tR<|rM J J<|ae.qv (bq J J) J<|rA J J<|rN<|ab.stop<|aj.lq [0] ⟨l10.set n11.toNat fg,bB (n11+1),h,J⟩ J J
        ·exact tK<|ab.stop<|aj.lq [0] ⟨l10,n11,h,J⟩ J J
       ·rintro aK ⟨za,n17,h,rfl⟩
        unfold fK at h
        refine ab.cw<|tR<|rM J J<|ae.qv (bq J J) J<|rA J J<|rN<|ab.stop<|?_
        cases h
        exact yr _ _ J<|aj.lq [0] J J J
      ·refine ab.exit J<|have h:=bT h wE;?_
       unfold mY at h
       refine aJ<|rM J J<|rM J J<|aH h fun jy BB h=>ae.qv (qZ J J (.some _ _ _ J) .none J J BB) J<|Mx (g:=MarkS.av) (Z:=(⟨0,[],0,(⟨0,0,0⟩:Version)⟩:MarkS)) (L:=n11) J J J J J J BB .p0<|ae.ghost<|aj.eqs (s:=0) (gx:=.sl 6 bt 0 (DM l10 n11 jy.length (⟨0,[],0,(⟨0,0,0⟩:Version)⟩:MarkS)).length) J (congrArg (AV.sl 6 bt 0) (vP BB))<|aj.here<|ae.ghost<|aj.eqs (s:=59) (gx:=.sl 6 bt 0 (DM l10 n11 jy.length (⟨0,[],0,(⟨0,0,0⟩:Version)⟩:MarkS)).length) J (congrArg (AV.sl 6 bt 0) (vP BB))<|aj.here<|rN<|aJ<|rM J J<|rM J J<|aH h fun xz C6 h=>ae.qv (qZ J J .none (.some _ _ _ J) J J C6) J<|rA J J<|ae.ghost<|aj.PS C6 .p0<|aj.here<|rN<|ab.ret<|have h:=bT h dQ;?_
       cases h
       exact hH J [0] J ⟨bt,J,J⟩
    ·refine tK<|ab.cw<|tR<|rM J J<|ae.qv (bq J J) J<|rA J J<|rN<|ab.stop<|?_
     cases h
     exact jl _ _ J<|aj.lq [0] J J J
   ·refine ab.exit J<|have h:=bT h dQ;aJ<|rM J J<|rA J J<|rN<|ab.ret<|?_
    cases h
    exact hH J [0] J ⟨bt,J,J⟩
theorem EX [GI:bN] {bt:Bk} {aa:ah} {ai:Campaign} {aI:List DeviceS} {bw:Int} {r:(List MarkS)×ah} (h:r9 aa ai aI bw=some r):aP Tryz.prog 9 [.ptr bt 0,Campaign.av ai,ue aI,I bw] [(bt,.cells [eJ aa.L,I aa.at_])] (T1 (fun nO=>[(bt,.cells [eJ r.2.L,I r.2.at_]),(nO,sD r.1)]) (fun nO=>.sl 6 nO 0 r.1.length)):=by
 unfold r9 at h
 refine aP.hC ?_
 refine aP.bI Tryz.func9 J Tryz.ntmps9 Tryz.results9 J J ?_
 refine aJ<|dp J J J J fun b1=>rA J J<|rN<|aJ<|rA J J<|rN<|aJ<|rF J J J<|rL J J .p0 J J<|rA J J<|rN<|tS<|aJ<|rM J J<|rM J J<|rN<|ab.block<|ab.cx (fun x:(List Int)×Int×(List MarkS)×Int×Int=>oI aI bw x.1 x.2.1 x.2.2.1 x.2.2.2.1 x.2.2.2.2) (fun x aK=>∃ (tL:Bk),aK=⟨115,[(0,.ptr bt 0),(2,ue aI),(9,.sl 6 tL 0 x.2.2.1.length),(10,I x.2.2.2.1),(17,I bw),(18,I x.2.2.2.2)],[(bt,.cells [eJ x.1,I x.2.1]),(tL,sD x.2.2.1)]⟩) h ?_ ?_
 ·exact aj.arr (s:=9) 6 J fun DP=>aj.lq [2,0] ⟨DP,J⟩ J J
 ·intro x z1 aK J1 dY h jl dQ
  obtain ⟨l8,n9,js,n12,n13⟩:=x
  obtain ⟨tL,rfl⟩:=dY
  replace h:oI aI bw l8 n9 js n12 n13=some z1:=h
  unfold oI at h
  refine aJ<|ae.qv (bO J J) J<|rN<|tS<|cD h J (fun h=>?_) (fun h=>?_)
  ·refine tK<|tS<|ab.block<|aJ<|rM J J<|rM J J<|aW (xs:=([0,1,5,10,10]).map I) J J J J J J<|aH h fun kU e1 h=>br J (cF e1) cR (.cons .p0 .nil) J J<|ae.qv (bq J J) J<|rA J J<|rN<|aJ<|rM J J<|rM J J<|aW (xs:=([([100,49]:bn),([100,50]:bn),([100,51]:bn),([100,52]:bn),([100,53]:bn)]).map AV.str) J J J J J J<|aH h fun sW e2 h=>br J (mT e2) cR (.cons .p0 .nil) J J<|rM J J<|aH h fun v17 e3 h=>br J (pG e3) cR (.cons .p0 .nil) J J<|rM J J<|aW (xs:=([2,2,3,4]).map I) J J J J J J<|aH h fun fg e4 h=>br J (cF e4) cR (.cons .p0 .nil) J J<|aT J (zN J) cR J<|ae.qv (dv J J J J J) J<|bH J J J J fun qk=>ay J J J J .p0 J J<|rN<|tS<|tS<|ab.cut (fun aK=>∃ (jy:List Int) (n21:Int) (Yz:Bool),oH aI js n12 n13 kU sW v17 fg jy n21 Yz=some z1∧aK=⟨115,[(0,.ptr bt 0),(2,ue aI),(9,.sl 6 tL 0 js.length),(10,I (bB (n12+kU.1))),(11,.ptr qk 0),(17,I bw),(18,I n13),(43,.bool Yz)],[(bt,.cells [eJ jy,I n21]),(tL,sD js),(qk,.cells [I (bB (n12+kU.1)),.str sW.1,I v17.1,I ((whole fg.1).aA),I ((whole fg.1).aC),I ((whole fg.1).aD)])]⟩) ?_ ?_
   ·refine tR<|rM J J<|ae.qv (ca J) J<|ae.qv (eM J J) J<|rM J J<|gT h J J J (fun h=>?_) (fun h=>?_)
    ·exact rM J J<|rY J J J<|aH h fun v23 e5 h=>br J (eW e5) cR (.cons .p1 .nil) J J<|rY J J J<|ae.qv (cu J) J<|rT J J J<|rN<|ab.stop<|aj.lq [0,1,0] ⟨v23.2.L,v23.2.at_,!v23.1,h,J⟩ J J
    ·exact rG J J J J<|rG J J J J<|rE J J J<|rN<|ab.stop<|aj.lq [1,1,0] ⟨fg.2.L,fg.2.at_,false,h,J⟩ J J
   ·rintro aK ⟨jy,n21,Yz,h,rfl⟩
    unfold oH at h
    refine ab.cut (fun aK=>∃ (xy:List Int) (n25:Int) (vC:bn),lV js n12 n13 kU v17 fg xy n25 vC=some z1∧aK=⟨115,[(0,.ptr bt 0),(2,ue aI),(9,.sl 6 tL 0 js.length),(10,I (bB (n12+kU.1))),(11,.ptr qk 0),(17,I bw),(18,I n13)],[(bt,.cells [eJ xy,I n25]),(tL,sD js),(qk,.cells [I (bB (n12+kU.1)),.str vC,I v17.1,I ((whole fg.1).aA),I ((whole fg.1).aC),I ((whole fg.1).aD)])]⟩) ?_ ?_
    ·refine cB h J (fun h=>?_) (fun h=>?_)
     ·exact tR<|rM J J<|rM J J<|rM J J<|ae.qv (ca J) J<|aH h fun mz e6 h=>br J (fU e6) cR (.cons .p0 .nil) J J<|aH h fun v28 e7 h=>ae.qv (bG J J J e7 J J) J<|ae.qv (bf J J) J<|ae.qv (aQ J J J) J<|rF J J J<|ay J J J J .p2 J J<|rN<|ab.stop<|aj.lq [0,0,0] ⟨mz.2.L,mz.2.at_,v28.Key,h,J⟩ J J
     ·exact tK<|ab.stop<|aj.lq [0,0,0] ⟨jy,n21,sW.1,h,J⟩ J J
    ·rintro aK ⟨xy,n25,vC,h,rfl⟩
     unfold lV at h
     refine tS<|aJ<|rM J J<|aH h fun qj e8 h=>br J (eW e8) cR (.cons .p0 .nil) J J<|ae.qv (cu J) J<|rN<|ab.cut (fun aK=>∃ (HQ:List Int) (n31:Int) (n32:Int) (n33:Int) (n34:Int) (n35:Int),lU js n12 n13 kU vC HQ n31 n32 n33 n34 n35=some z1∧aK=⟨115,[(0,.ptr bt 0),(2,ue aI),(9,.sl 6 tL 0 js.length),(10,I (bB (n12+kU.1))),(11,.ptr qk 0),(17,I bw),(18,I n13)],[(bt,.cells [eJ HQ,I n31]),(tL,sD js),(qk,.cells [I (bB (n12+kU.1)),.str vC,I n32,I n33,I n34,I n35])]⟩) ?_ ?_
     ·refine cB h J (fun h=>?_) (fun h=>?_)
      ·refine aJ<|ae.qv (dv J J J J J) J<|bH J J J J fun EY=>ay J J J J .p0 J J<|rN<|tS<|aJ<|rM J J<|ae.qv (ee J) J<|rM J J<|rN<|ab.block<|ab.cx (fun x:Int×bn×Int×Int×Int×Int×Int=>oG js n12 n13 kU fg vC qj x.1 x.2.1 x.2.2.1 x.2.2.2.1 x.2.2.2.2.1 x.2.2.2.2.2.1 x.2.2.2.2.2.2) (fun x aK=>aK=⟨115,[(0,.ptr bt 0),(2,ue aI),(9,.sl 6 tL 0 js.length),(10,I (bB (n12+kU.1))),(11,.ptr qk 0),(12,.ptr EY 0),(17,I bw),(18,I n13),(57,.sl 6 tL 0 js.length),(58,I (js.length:Int)),(59,I x.2.2.2.2.2.2)],[(bt,.cells [eJ qj.2.L,I qj.2.at_]),(tL,sD js),(qk,.cells [I (bB (n12+kU.1)),.str vC,I v17.1,I ((whole fg.1).aA),I ((whole fg.1).aC),I ((whole fg.1).aD)]),(EY,.cells [I x.1,.str x.2.1,I x.2.2.1,I x.2.2.2.1,I x.2.2.2.2.1,I x.2.2.2.2.2.1])]⟩) h ?_ ?_
       ·exact aj.lq [1,1,1,0] J J J
       ·intro x z2 aK J2 dY h yr wE
        obtain ⟨n44,UT,n46,n47,n48,n49,n50⟩:=x
        obtain rfl:=dY
        replace h:oG js n12 n13 kU fg vC qj n44 UT n46 n47 n48 n49 n50=some z2:=h
        unfold oG at h
        refine aJ<|ae.qv (bO J J) J<|rN<|tS<|cD h J (fun h=>?_) (fun h=>?_)
        ·refine tK<|tS<|ab.block<|aJ<|aH h fun v51 e9 h=>ae.qv (bu J J J e9) J<|ae.qv (bP (g:=MarkS.av) J J (.inl .p1) J e9 J) J<|bH J J J J fun Wc=>ay J J J J .p0 J J<|rN<|aJ<|rF J J J<|rL J J .p0 J J<|rF J J J<|rL J J .p3 J J<|ae.qv (Ml J J) J<|rN<|ab.cut (fun aK=>∃ (US:Int) (Yu:bn) (Yv:Int) (Yw:Int) (n57:Int) (O1:Int),oD n50 US Yu Yv Yw n57 O1=some z2∧aK=⟨115,[(0,.ptr bt 0),(2,ue aI),(9,.sl 6 tL 0 js.length),(10,I (bB (n12+kU.1))),(11,.ptr qk 0),(12,.ptr EY 0),(17,I bw),(18,I n13),(57,.sl 6 tL 0 js.length),(58,I (js.length:Int)),(59,I n50)],[(bt,.cells [eJ qj.2.L,I qj.2.at_]),(tL,sD js),(qk,.cells [I (bB (n12+kU.1)),.str vC,I v17.1,I ((whole fg.1).aA),I ((whole fg.1).aC),I ((whole fg.1).aD)]),(EY,.cells [I US,.str Yu,I Yv,I Yw,I n57,I O1])]⟩) ?_ ?_
         ·refine cD h J (fun h=>?_) (fun h=>?_)
          ·exact tR<|ae.qv (aG J J .p0 J) J<|ay J J J J .p4 J J<|rN<|ab.stop<|aj.lq [1,1,1,1] ⟨v51.At,v51.Device,v51.Kind,v51.Version.aA,v51.Version.aC,v51.Version.aD,h,J⟩ J J
          ·exact tK<|ab.stop<|aj.lq [1,1,1,1] ⟨n44,UT,n46,n47,n48,n49,h,J⟩ J J
         ·rintro aK ⟨US,Yu,Yv,Yw,n57,O1,h,rfl⟩
          unfold oD at h
          refine ab.cw<|tR<|ae.qv (bq J J) J<|rM J J<|rN<|ab.stop<|?_
          cases h
          exact yr _ _ J<|aj.lq [0,0,0,0] J J J
        ·refine ab.exit J<|have h:=bT h wE;?_
         unfold ur at h
         refine aJ<|rF J J J<|rL J J .p3 J J<|rN<|ab.block<|aJ<|ae.qv (dt J J) J<|rA J J<|rN<|ab.cut (fun aK=>∃ (Dt:List Int) (n60:Int) (n61:Int) (n62:Int) (Xg:Int) (Xh:Int),oE js n12 n13 kU vC Dt n60 n61 n62 Xg Xh=some z1∧aK=⟨115,[(0,.ptr bt 0),(2,ue aI),(9,.sl 6 tL 0 js.length),(10,I (bB (n12+kU.1))),(11,.ptr qk 0),(17,I bw),(18,I n13)],[(bt,.cells [eJ Dt,I n60]),(tL,sD js),(qk,.cells [I (bB (n12+kU.1)),.str vC,I n61,I n62,I Xg,I Xh])]⟩) ?_ ?_
         ·refine cD h J (fun h=>?_) (fun h=>?_)
          ·refine aH h fun JM BB h=>ab.jN (id:=20) (A:=[0,0,3,0,8,7,39,127,255]) (H0:=[(bt,.cells [eJ qj.2.L,I qj.2.at_]),(qk,.cells [I (bB (n12+kU.1)),.str vC,I v17.1,I ((whole fg.1).aA),I ((whole fg.1).aC),I ((whole fg.1).aD)])]) (HH:=fun β=>[(bt,.cells [eJ JM.2.L,I JM.2.at_]),(qk,.cells [I (bB (n12+kU.1)),.str vC,I JM.1,I ((whole fg.1).aA),I ((whole fg.1).aC),I ((whole fg.1).aD)]),(tL,sD js),(EY,.cells [I n44,.str UT,I n46,I n47,I n48,I n49])]) 7 mixed J (by kernel_rfl) (by kernel_rfl) [⟨none,some 2,[],fun _=>(bt,.cells [eJ qj.2.L,I qj.2.at_]),none,[]⟩,⟨none,some 6,[],fun _=>(qk,.cells [I (bB (n12+kU.1)),.str vC,I v17.1,I ((whole fg.1).aA),I ((whole fg.1).aC),I ((whole fg.1).aD)]),none,[]⟩,⟨some 2,none,[],fun _=>(bt,.cells [eJ JM.2.L,I JM.2.at_]),none,[]⟩,⟨some 6,none,[],fun _=>(qk,.cells [I (bB (n12+kU.1)),.str vC,I JM.1,I ((whole fg.1).aA),I ((whole fg.1).aC),I ((whole fg.1).aD)]),none,[]⟩] [] J (by kernel_rfl) J (.cons .p0 (.cons .p1 .nil)) (fun _=>J)<|AT.am 2 J J<|AM.qv (aM J) J<|AM.cO (xs:=([2,2,2,5]).map I) J J J J J J<|AM.nil<|AT.Bl (av:=I JM.1) (Ti:=[(bt,.cells [eJ qj.2.L,I qj.2.at_])]) (Pi:=[(bt,.cells [eJ JM.2.L,I JM.2.at_])]) (fun _=>J) (fun _=>J) (fun _=>J) J J J ?_ ?_
           ·exact br J (cF BB) cR (.cons .p0 .nil) J J<|ae.nil ⟨_,J,J⟩
           refine AT.am 3 J J<|AM.qv (az J J) J<|AM.qv (aO J J .p1 J J) J<|AM.qv (az J J) J<|AM.nil<|AT.HB (Ti:=[(qk,.cells [I (bB (n12+kU.1)),.str vC,I v17.1,I ((whole fg.1).aA),I ((whole fg.1).aC),I ((whole fg.1).aD)])]) (Pi:=[(qk,.cells [I (bB (n12+kU.1)),.str vC,I JM.1,I ((whole fg.1).aA),I ((whole fg.1).aC),I ((whole fg.1).aD)])]) (fun _=>J) (fun _=>J) (fun _=>J) J J ?_ ?_
           ·exact ay J J J J .p0 J J<|ae.nil ⟨_,J⟩
           exact AT.wW (fun _=>J) fun β=>rF J J J<|ay J J J J .p1 J J<|rN<|ab.stop<|aj.lq [0,1,0] ⟨JM.2.L,JM.2.at_,JM.1,n47,n48,n49,h,J⟩ J J
          ·refine aJ<|ae.qv (dt J J) J<|rA J J<|rN<|ab.cut (fun aK=>∃ (Oa:List Int) (Cj:Int) (n68:Int) (n69:Int) (Oc:Int) (Xi:Int),oF js n12 n13 kU vC Oa Cj n68 n69 Oc Xi=some z1∧aK=⟨115,[(0,.ptr bt 0),(2,ue aI),(9,.sl 6 tL 0 js.length),(10,I (bB (n12+kU.1))),(11,.ptr qk 0),(17,I bw),(18,I n13)],[(bt,.cells [eJ Oa,I Cj]),(tL,sD js),(qk,.cells [I (bB (n12+kU.1)),.str vC,I n68,I n69,I Oc,I Xi])]⟩) ?_ ?_
           ·refine cD h J (fun h=>?_) (fun h=>?_)
            ·refine aH h fun v72 C6 h=>ab.jN (id:=22) (A:=[0,0,3,0,8,7,39,127,255]) (H0:=[(bt,.cells [eJ qj.2.L,I qj.2.at_]),(qk,.cells [I (bB (n12+kU.1)),.str vC,I v17.1,I ((whole fg.1).aA),I ((whole fg.1).aC),I ((whole fg.1).aD)])]) (HH:=fun β=>[(bt,.cells [eJ v72.2.L,I v72.2.at_]),(qk,.cells [I (bB (n12+kU.1)),.str vC,I v72.1,I ((whole fg.1).aA),I ((whole fg.1).aC),I ((whole fg.1).aD)]),(tL,sD js),(EY,.cells [I n44,.str UT,I n46,I n47,I n48,I n49])]) 7 mixed J (by kernel_rfl) (by kernel_rfl) [⟨none,some 2,[],fun _=>(bt,.cells [eJ qj.2.L,I qj.2.at_]),none,[]⟩,⟨none,some 6,[],fun _=>(qk,.cells [I (bB (n12+kU.1)),.str vC,I v17.1,I ((whole fg.1).aA),I ((whole fg.1).aC),I ((whole fg.1).aD)]),none,[]⟩,⟨some 2,none,[],fun _=>(bt,.cells [eJ v72.2.L,I v72.2.at_]),none,[]⟩,⟨some 6,none,[],fun _=>(qk,.cells [I (bB (n12+kU.1)),.str vC,I v72.1,I ((whole fg.1).aA),I ((whole fg.1).aC),I ((whole fg.1).aD)]),none,[]⟩] [] J (by kernel_rfl) J (.cons .p0 (.cons .p1 .nil)) (fun _=>J)<|AT.am 2 J J<|AM.qv (aM J) J<|AM.cO (xs:=([3,3,4]).map I) J J J J J J<|AM.nil<|AT.Bl (av:=I v72.1) (Ti:=[(bt,.cells [eJ qj.2.L,I qj.2.at_])]) (Pi:=[(bt,.cells [eJ v72.2.L,I v72.2.at_])]) (fun _=>J) (fun _=>J) (fun _=>J) J J J ?_ ?_
             ·exact br J (cF C6) cR (.cons .p0 .nil) J J<|ae.nil ⟨_,J,J⟩
             refine AT.am 3 J J<|AM.qv (az J J) J<|AM.qv (aO J J .p1 J J) J<|AM.qv (az J J) J<|AM.nil<|AT.HB (Ti:=[(qk,.cells [I (bB (n12+kU.1)),.str vC,I v17.1,I ((whole fg.1).aA),I ((whole fg.1).aC),I ((whole fg.1).aD)])]) (Pi:=[(qk,.cells [I (bB (n12+kU.1)),.str vC,I v72.1,I ((whole fg.1).aA),I ((whole fg.1).aC),I ((whole fg.1).aD)])]) (fun _=>J) (fun _=>J) (fun _=>J) J J ?_ ?_
             ·exact ay J J J J .p0 J J<|ae.nil ⟨_,J⟩
             exact AT.wW (fun _=>J) fun β=>rF J J J<|ay J J J J .p1 J J<|rN<|ab.stop<|aj.lq [0,1,0] ⟨v72.2.L,v72.2.at_,v72.1,n47,n48,n49,h,J⟩ J J
            ·exact tR<|rF J J J<|ay J J J J .p2 J J<|rN<|ab.stop<|aj.lq [0,0,0] ⟨qj.2.L,qj.2.at_,1,(whole fg.1).aA,(whole fg.1).aC,(whole fg.1).aD,h,J⟩ J J
           ·rintro aK ⟨Oa,Cj,n68,n69,Oc,Xi,h,rfl⟩
            unfold oF at h
            exact ab.stop<|aj.lq [0,0,0] ⟨Oa,Cj,n68,n69,Oc,Xi,h,J⟩ J J
         ·rintro aK ⟨Dt,n60,n61,n62,Xg,Xh,h,rfl⟩
          unfold oE at h
          exact ab.cw<|ab.stop<|aj.lq [0,0,0] ⟨Dt,n60,n61,n62,Xg,Xh,h,J⟩ J J
      ·exact tK<|ab.stop<|aj.lq [0,0,0] ⟨qj.2.L,qj.2.at_,v17.1,(whole fg.1).aA,(whole fg.1).aC,(whole fg.1).aD,h,J⟩ J J
     ·rintro aK ⟨HQ,n31,n32,n33,n34,n35,h,rfl⟩
      unfold lU at h
      refine tS<|aJ<|rM J J<|aH h fun LK FW h=>br J (eW FW) cR (.cons .p0 .nil) J J<|rN<|ab.cut (fun aK=>∃ (Yx:List Int) (Yy:Int) (Xd:Int) (Xe:bn) (Xf:Int),lT js n12 n13 kU n33 n34 n35 Yx Yy Xd Xe Xf=some z1∧aK=⟨115,[(0,.ptr bt 0),(2,ue aI),(9,.sl 6 tL 0 js.length),(10,I (bB (n12+kU.1))),(11,.ptr qk 0),(17,I bw),(18,I n13)],[(bt,.cells [eJ Yx,I Yy]),(tL,sD js),(qk,.cells [I Xd,.str Xe,I Xf,I n33,I n34,I n35])]⟩) ?_ ?_
      ·refine cB h J (fun h=>?_) (fun h=>?_)
       ·exact tR<|rM J J<|aH h fun v79 IE h=>br J (gg IE) cR (.cons .p0 .nil) J J<|rM J J<|aW (xs:=([([100,49]:bn),([]:bn)]).map AV.str) J J J J J J<|aH h fun v80 QC h=>br J (mT QC) cR (.cons .p0 .nil) J J<|rM J J<|aH h fun V7 UW h=>br J (gg UW) cR (.cons .p0 .nil) J J<|rF J J J<|ay J J J J .p2 J J<|rF J J J<|ay J J J J .p2 J J<|rF J J J<|ay J J J J .p2 J J<|rN<|ab.stop<|aj.lq [0,0,0] ⟨V7.2.L,V7.2.at_,v79.1,v80.1,V7.1,h,J⟩ J J
       ·exact tK<|ab.stop<|aj.lq [0,0,0] ⟨LK.2.L,LK.2.at_,bB (n12+kU.1),vC,n32,h,J⟩ J J
      ·rintro aK ⟨Yx,Yy,Xd,Xe,Xf,h,rfl⟩
       unfold lT at h
       refine tR<|rM J J<|ae.qv (aG J J .p2 J) J<|aW (xs:=([(⟨Xd,Xe,Xf,(⟨n33,n34,n35⟩:Version)⟩:MarkS)]).map MarkS.av) J J J J J J<|aH h fun l82 Xp h=>fo (g:=MarkS.av) J J J J J J J J (.list _) Xp (fun _=>.p1) J fun b83=>rA J J<|rN<|ab.cw<|tR<|ae.qv (bq J J) J<|rM J J<|rN<|ab.stop<|?_
       cases h
       exact jl _ _ J<|aj.lq [0,0] ⟨b83,J⟩ J J
  ·refine ab.exit J<|have h:=bT h dQ;?_
   unfold uu at h
   refine aJ<|rM J J<|aH h fun YA UX h=>br J (rQ (fun e=>tJ (ap e)) (rZ UX)) cR (.cons .p1 .nil) J J<|ae.ghost<|aj.eqs (s:=9) (gx:=.sl 6 tL 0 YA.length) J (congrArg (AV.sl 6 tL 0) (gR UX))<|aj.here<|ae.ghost<|aj.eqs (s:=108) (gx:=.sl 6 tL 0 YA.length) J (congrArg (AV.sl 6 tL 0) (gR UX))<|aj.here<|rN<|tS<|aJ<|rM J J<|aH h fun v85 e18 h=>br J (eW e18) cR (.cons .p1 .nil) J J<|rN<|cB h J (fun h=>?_) (fun h=>?_)
   ·refine aJ<|rM J J<|rA J J<|rN<|ab.ret<|?_
    cases h
    exact hH J [0,0] J ⟨tL,J,J⟩
   ·refine tK<|aJ<|rM J J<|aH h fun v86 e19 h=>jn J (tj (fun e=>BD (ap e)) e19) cR (.cons .p1 .nil) (fun _=>J) J fun b87=>rA J J<|rN<|ab.ret<|?_
    cases h
    exact hH J [1,0] J ⟨b87,J,J⟩
theorem tn [GI:bN] {aa:bn} {r:Bool} (h:pz aa=some r):Pu Tryz.prog 85 [.str aa] (.bool r):=by
 unfold pz at h
 refine aP.bI Tryz.func85 J Tryz.ntmps85 Tryz.results85 J J ?_
 refine aJ<|rA J J<|rN<|tS<|tS<|ab.cut (fun aK=>∃ (c1:Bool),pv aa c1=some r∧aK=⟨54,[(0,.str aa),(21,.bool c1)],[]⟩) ?_ ?_
 ·refine tR<|rM J J<|ae.qv (Ml J J) J<|rM J J<|gF h J J J (fun h=>?_) (fun h=>?_)
  ·refine rM J J<|rY J J J<|ae.qv (oM J) J<|rY J J J<|ae.qv (eM J J) J<|rE J J J<|rM J J<|gF h J J J (fun h=>?_) (fun h=>?_)
   ·refine rM J J<|rY J J J<|aH h fun c2 e1 h=>ae.qv (nV J J e1) J<|rY J J J<|ae.qv (bO J J) J<|rE J J J<|rM J J<|gF h J J J (fun h=>?_) (fun h=>?_)
    ·exact rM J J<|rY J J J<|aH h fun c3 e2 h=>ae.qv (nV J J e2) J<|rY J J J<|ae.qv (eM J J) J<|rE J J J<|rN<|ab.stop<|aj.lq [] ⟨decide (122 < (c3.toNat:Int)),h,J⟩ J J
    ·exact rG J J J J<|rG J J J J<|rT J J J<|rN<|ab.stop<|aj.lq [] ⟨true,h,J⟩ J J
   ·exact rG J J J J<|rG J J J J<|rT J J J<|rM J J<|rG J J J J<|rG J J J J<|rG J J J J<|rT J J J<|rN<|ab.stop<|aj.lq [] ⟨true,h,J⟩ J J
  ·exact rG J J J J<|rG J J J J<|rT J J J<|rM J J<|rG J J J J<|rG J J J J<|rG J J J J<|rT J J J<|rM J J<|rG J J J J<|rG J J J J<|rG J J J J<|rT J J J<|rN<|ab.stop<|aj.lq [] ⟨true,h,J⟩ J J
 ·rintro aK ⟨c1,h,rfl⟩
  unfold pv at h
  refine cB h J (fun h=>?_) (fun h=>?_)
  ·refine aJ<|rA J J<|rN<|ab.ret<|?_
   cases h
   exact hP J J
  ·refine tK<|tS<|aJ<|rM J J<|ae.qv (oM J) J<|rM J J<|rN<|ab.block<|ab.cx (fun x:Int=>pt aa x) (fun x aK=>aK=⟨54,[(0,.str aa),(23,I (aa.length:Int)),(24,I x)],[]⟩) h ?_ ?_
   ·exact aj.lq [] J J J
   ·intro n5 z1 aK J1 dY h jl dQ
    obtain rfl:=dY
    replace h:pt aa n5=some z1:=h
    unfold pt at h
    refine aJ<|ae.qv (bO J J) J<|rN<|tS<|cD h J (fun h=>?_) (fun h=>?_)
    ·refine tK<|tS<|ab.block<|aJ<|rM J J<|rA J J<|rN<|aJ<|rM J J<|rM J J<|aH h fun c6 e3 h=>ae.qv (nV J J e3) J<|rA J J<|rN<|tS<|ab.cut (fun aK=>∃ (c7:Bool),vU n5 c7=some z1∧aK=⟨54,[(0,.str aa),(23,I (aa.length:Int)),(24,I n5),(52,.bool c7)],[]⟩) ?_ ?_
     ·refine tR<|rM J J<|ae.qv (nU J J) J<|rM J J<|ae.dw J J J (fun hc=>?_) (fun hc=>?_)
      ·rw [if_pos hc] at h
       refine rM J J<|rY J J J<|ae.qv (pn J J) J<|rT J J J<|rM J J<|ae.dG J J J (fun hc=>?_) (fun hc=>?_)
       ·rw [if_neg hc] at h
        refine rM J J<|rY J J J<|ae.qv (nU J J) J<|rY J J J<|rM J J<|ae.dw J J J (fun hc=>?_) (fun hc=>?_)
        ·rw [if_pos hc] at h
         refine rM J J<|rY J J J<|ae.qv (pn J J) J<|rY J J J<|rT J J J<|rE J J J<|rM J J<|ae.dG J J J (fun hc=>?_) (fun hc=>?_)
         ·rw [if_neg hc] at h
          refine rM J J<|rY J J J<|ae.qv (dt J J) J<|rE J J J<|rM J J<|ae.dG J J J (fun hc=>?_) (fun hc=>?_)
          ·rw [if_neg hc] at h
           exact rM J J<|rY J J J<|ae.qv (dt J J) J<|rE J J J<|ae.qv (DJ J) J<|rN<|ab.stop<|aj.lq [] ⟨decide (¬ ((c6.toNat:Int)=95)),h,J⟩ J J
          ·rw [if_pos hc] at h
           exact rG J J J J<|rT J J J<|ae.qv (cu J) J<|rN<|ab.stop<|aj.lq [] ⟨!true,h,J⟩ J J
         ·rw [if_pos hc] at h
          exact rG J J J J<|rT J J J<|rM J J<|rG J J J J<|rG J J J J<|rT J J J<|ae.qv (cu J) J<|rN<|ab.stop<|aj.lq [] ⟨!true,h,J⟩ J J
        ·rw [if_neg hc] at h
         refine rG J J J J<|rY J J J<|rE J J J<|rE J J J<|rM J J<|rY J J J<|rM J J<|rY J J J<|ae.qv (dt J J) J<|rE J J J<|rM J J<|ae.dG J J J (fun hc=>?_) (fun hc=>?_)
         ·rw [if_neg hc] at h
          exact rM J J<|rY J J J<|ae.qv (dt J J) J<|rE J J J<|ae.qv (DJ J) J<|rN<|ab.stop<|aj.lq [] ⟨decide (¬ ((c6.toNat:Int)=95)),h,J⟩ J J
         ·rw [if_pos hc] at h
          exact rG J J J J<|rT J J J<|ae.qv (cu J) J<|rN<|ab.stop<|aj.lq [] ⟨!true,h,J⟩ J J
       ·rw [if_pos hc] at h
        exact rG J J J J<|rG J J J J<|ae.aS J J J<|ae.aS J J J<|rG J J J J<|rT J J J<|rM J J<|rG J J J J<|rG J J J J<|rT J J J<|rM J J<|rG J J J J<|rG J J J J<|rT J J J<|ae.qv (cu J) J<|rN<|ab.stop<|aj.lq [] ⟨!true,h,J⟩ J J
      ·rw [if_neg hc] at h
       refine rG J J J J<|rE J J J<|rM J J<|rY J J J<|rM J J<|rY J J J<|ae.qv (nU J J) J<|rY J J J<|rM J J<|ae.dw J J J (fun hc=>?_) (fun hc=>?_)
       ·rw [if_pos hc] at h
        refine rM J J<|rY J J J<|ae.qv (pn J J) J<|rY J J J<|rT J J J<|rE J J J<|rM J J<|ae.dG J J J (fun hc=>?_) (fun hc=>?_)
        ·rw [if_neg hc] at h
         refine rM J J<|rY J J J<|ae.qv (dt J J) J<|rE J J J<|rM J J<|ae.dG J J J (fun hc=>?_) (fun hc=>?_)
         ·rw [if_neg hc] at h
          exact rM J J<|rY J J J<|ae.qv (dt J J) J<|rE J J J<|ae.qv (DJ J) J<|rN<|ab.stop<|aj.lq [] ⟨decide (¬ ((c6.toNat:Int)=95)),h,J⟩ J J
         ·rw [if_pos hc] at h
          exact rG J J J J<|rT J J J<|ae.qv (cu J) J<|rN<|ab.stop<|aj.lq [] ⟨!true,h,J⟩ J J
        ·rw [if_pos hc] at h
         exact rG J J J J<|rT J J J<|rM J J<|rG J J J J<|rG J J J J<|rT J J J<|ae.qv (cu J) J<|rN<|ab.stop<|aj.lq [] ⟨!true,h,J⟩ J J
       ·rw [if_neg hc] at h
        refine rG J J J J<|rY J J J<|rE J J J<|rE J J J<|rM J J<|rY J J J<|rM J J<|rY J J J<|ae.qv (dt J J) J<|rE J J J<|rM J J<|ae.dG J J J (fun hc=>?_) (fun hc=>?_)
        ·rw [if_neg hc] at h
         exact rM J J<|rY J J J<|ae.qv (dt J J) J<|rE J J J<|ae.qv (DJ J) J<|rN<|ab.stop<|aj.lq [] ⟨decide (¬ ((c6.toNat:Int)=95)),h,J⟩ J J
        ·rw [if_pos hc] at h
         exact rG J J J J<|rT J J J<|ae.qv (cu J) J<|rN<|ab.stop<|aj.lq [] ⟨!true,h,J⟩ J J
     ·rintro aK ⟨c7,h,rfl⟩
      unfold vU at h
      refine cB h J (fun h=>?_) (fun h=>?_)
      ·refine aJ<|rA J J<|rN<|ab.ret<|have h:=bT h dQ;?_
       cases h
       exact hP J J
      ·refine tK<|ab.cw<|tR<|ae.qv (bq J J) J<|rM J J<|rN<|ab.stop<|?_
       cases h
       exact jl _ _ J<|aj.lq [] J J J
    ·refine ab.exit J<|have h:=bT h dQ;aJ<|rA J J<|rN<|ab.ret<|?_
     cases h
     exact hP J J
theorem iC [GI:bN] {aa ai aI:Int} {r:Bool} (h:gl aa ai aI=r):Pu Tryz.prog 72 [I aa,I ai,I aI] (.bool r):=by
 unfold gl at h
 refine aP.bI Tryz.func72 J Tryz.ntmps72 Tryz.results72 J J ?_
 refine aJ<|rA J J<|rN<|tS<|ab.cut (fun aK=>∃ (c1:Bool),vV c1=r∧aK=⟨15,[(6,.bool c1)],[]⟩) ?_ ?_
 ·refine tR<|rM J J<|rM J J<|ae.qv (bO J J) J<|rM J J<|ae.dG J J J (fun hc=>?_) (fun hc=>?_)
  ·rw [wU hc] at h
   exact rM J J<|rY J J J<|rM J J<|rY J J J<|ae.qv (eM J J) J<|rE J J J<|rA J J<|rN<|ab.stop<|aj.lq [] ⟨decide (aI < aa),h,J⟩ J J
  ·rw [wT hc] at h
   exact rG J J J J<|rG J J J J<|rT J J J<|rA J J<|rN<|ab.stop<|aj.lq [] ⟨true,h,J⟩ J J
 ·rintro aK ⟨c1,h,rfl⟩
  unfold vV at h
  refine ab.ret<|?_
  obtain rfl:=h
  exact hP J J
theorem lz [GI:bN] {aa:Version} {r:Bool} (h:gW aa=r):Pu Tryz.prog 86 [Version.av aa] (.bool r):=by
 unfold gW at h
 refine aP.bI Tryz.func86 J Tryz.ntmps86 Tryz.results86 J J ?_
 refine aJ<|dp J J J J fun b1=>rA J J<|rN<|tS<|ab.cut (fun aK=>∃ (c2:Bool),qS c2=r∧aK=⟨19,[(2,.bool c2)],[]⟩) ?_ ?_
 ·refine tR<|rF J J J<|rL J J .p0 J J<|aT J (iC J) cR J<|ae.qv (cu J) J<|rM J J<|ae.guard J J J (fun hc=>?_) (fun hc=>?_)
  ·rw [Gk hc] at h
   refine rF J J J<|rY J J J<|rL J J .p0 J J<|rY J J J<|aT J (iC J) cR J<|rY J J J<|ae.qv (cu J) J<|rT J J J<|rM J J<|ae.guard J J J (fun hc=>?_) (fun hc=>?_)
   ·rw [Gk hc] at h
    exact rF J J J<|rY J J J<|rL J J .p0 J J<|rY J J J<|aT J (iC J) cR J<|rY J J J<|ae.qv (cu J) J<|rT J J J<|rA J J<|rN<|ab.stop<|aj.lq [] ⟨!(gl aa.aD 0 9999),h,J⟩ J J
   ·rw [Gl hc] at h
    exact rG J J J J<|rG J J J J<|rG J J J J<|rE J J J<|rA J J<|rN<|ab.stop<|aj.lq [] ⟨false,h,J⟩ J J
  ·rw [Gl hc] at h
   exact rG J J J J<|rG J J J J<|rG J J J J<|rE J J J<|rM J J<|rG J J J J<|rG J J J J<|rG J J J J<|rG J J J J<|rE J J J<|rA J J<|rN<|ab.stop<|aj.lq [] ⟨false,h,J⟩ J J
 ·rintro aK ⟨c2,h,rfl⟩
  unfold qS at h
  refine ab.ret<|?_
  obtain rfl:=h
  exact hP J J
theorem wF [GI:bN] {aa:Int} {r:Bool} (h:mh aa=r):Pu Tryz.prog 87 [I aa] (.bool r):=by
 unfold mh at h
 refine aP.bI Tryz.func87 J Tryz.ntmps87 Tryz.results87 J J ?_
 refine aJ<|rA J J<|rN<|aJ<|rM J J<|aT J (iC J) cR J<|ae.qv (cu J) J<|rA J J<|rN<|ab.ret<|?_
 obtain rfl:=h
 exact hP J J
theorem qJ [GI:bN] {aa:Campaign} {r:Int} (h:cV aa=some r):Pu Tryz.prog 43 [Campaign.av aa] (I r):=by
 unfold cV at h
 refine aP.bI Tryz.func43 J Tryz.ntmps43 Tryz.results43 J J ?_
 refine aJ<|dp J J J J fun b1=>rA J J<|rN<|tS<|ab.block<|aJ<|rF J J J<|rL J J .p0 J J<|aH h fun v2 e1 h=>aT J (tn e1) cR J<|ae.qv (cu J) J<|rA J J<|rN<|cB h J (fun h=>?_) (fun h=>?_)
 ·refine aJ<|rA J J<|rN<|ab.ret<|?_
  cases h
  exact hP J J
 ·refine tS<|ab.cut (fun aK=>∃ (c3:Bool),gp aa c3=some r∧aK=⟨81,[(1,.ptr b1 0),(11,.bool c3)],[(b1,.cells (Cq aa))]⟩) ?_ ?_
  ·refine tR<|rF J J J<|ae.qv (aO J J .p0 J J) J<|aT J (lz J) cR J<|ae.qv (cu J) J<|rM J J<|ae.guard J J J (fun hc=>?_) (fun hc=>?_)
   ·rw [vI hc] at h
    exact rF J J J<|rY J J J<|rL J J .p0 J J<|rY J J J<|aT J (wF J) cR J<|rY J J J<|ae.qv (cu J) J<|rE J J J<|rA J J<|rN<|ab.stop<|aj.lq [0] ⟨!(mh aa.At),h,J⟩ J J
   ·rw [vH hc] at h
    exact rG J J J J<|rG J J J J<|rG J J J J<|rT J J J<|rA J J<|rN<|ab.stop<|aj.lq [0] ⟨true,h,J⟩ J J
  ·rintro aK ⟨c3,h,rfl⟩
   unfold gp at h
   refine cB h J (fun h=>?_) (fun h=>?_)
   ·refine aJ<|rA J J<|rN<|ab.ret<|?_
    cases h
    exact hP J J
   ·refine aJ<|rF J J J<|rL J J .p0 J J<|ae.qv (ca J) J<|ae.qv (dt J J) J<|rA J J<|rN<|cD h J (fun h=>?_) (fun h=>?_)
    ·refine aJ<|rA J J<|rN<|ab.ret<|?_
     cases h
     exact hP J J
    ·refine aJ<|rF J J J<|rL J J .p0 J J<|ae.qv (ca J) J<|ae.qv (eM J J) J<|rA J J<|rN<|cD h J (fun h=>?_) (fun h=>?_)
     ·refine aJ<|rA J J<|rN<|ab.ret<|?_
      cases h
      exact hP J J
     ·refine tK<|ab.cw<|aJ<|rA J J<|rN<|tS<|aJ<|rF J J J<|rL J J .p0 J J<|ae.qv (ca J) J<|rM J J<|rN<|ab.block<|ab.cx (fun x:Int×Int=>eD aa x.1 x.2) (fun x aK=>aK=⟨81,[(1,.ptr b1 0),(3,I x.1),(33,p9 aa.aR),(34,I (aa.aR.length:Int)),(35,I x.2)],[(b1,.cells (Cq aa))]⟩) h ?_ ?_
      ·exact aj.lq [0] J J J
      ·intro x z1 aK J1 dY h jl dQ
       obtain ⟨n6,n7⟩:=x
       obtain rfl:=dY
       replace h:eD aa n6 n7=some z1:=h
       unfold eD at h
       refine aJ<|ae.qv (bO J J) J<|rN<|tS<|cD h J (fun h=>?_) (fun h=>?_)
       ·refine tK<|tS<|ab.block<|aJ<|aH h fun v8 e2 h=>ae.qv (bG J J J e2 J J) J<|ae.qv (aL J J J) J<|bH J J J J fun b9=>ay J J J J .p0 J J<|rN<|tS<|tS<|ab.cut (fun aK=>∃ (Qx:Bool),gm n6 n7 v8 Qx=some z1∧aK=⟨81,[(1,.ptr b1 0),(3,I n6),(5,.ptr b9 0),(33,p9 aa.aR),(34,I (aa.aR.length:Int)),(35,I n7),(56,.bool Qx)],[(b1,.cells (Cq aa)),(b9,.cells (cE2 v8))]⟩) ?_ ?_
        ·refine tR<|rF J J J<|rL J J .p0 J J<|aT J (iC J) cR J<|rM J J<|ae.guard J J J (fun hc=>?_) (fun hc=>?_)
         ·rw [vI hc] at h
          refine rF J J J<|rY J J J<|rL J J .p0 J J<|rY J J J<|aT J (iC J) cR J<|rE J J J<|rM J J<|ae.guard J J J (fun hc=>?_) (fun hc=>?_)
          ·rw [vI hc] at h
           refine rF J J J<|rY J J J<|rL J J .p0 J J<|rY J J J<|aT J (iC J) cR J<|rE J J J<|rM J J<|ae.guard J J J (fun hc=>?_) (fun hc=>?_)
           ·rw [vI hc] at h
            exact rF J J J<|rY J J J<|rL J J .p0 J J<|rY J J J<|aT J (iC J) cR J<|rE J J J<|rN<|ab.stop<|aj.lq [1,0] ⟨(gl v8.et 0 1000),h,J⟩ J J
           ·rw [vH hc] at h
            exact rG J J J J<|rG J J J J<|rT J J J<|rN<|ab.stop<|aj.lq [1,0] ⟨true,h,J⟩ J J
          ·rw [vH hc] at h
           exact rG J J J J<|rG J J J J<|rT J J J<|rM J J<|rG J J J J<|rG J J J J<|rG J J J J<|rT J J J<|rN<|ab.stop<|aj.lq [1,0] ⟨true,h,J⟩ J J
         ·rw [vH hc] at h
          exact rG J J J J<|rG J J J J<|rT J J J<|rM J J<|rG J J J J<|rG J J J J<|rG J J J J<|rT J J J<|rM J J<|rG J J J J<|rG J J J J<|rG J J J J<|rT J J J<|rN<|ab.stop<|aj.lq [1,0] ⟨true,h,J⟩ J J
        ·rintro aK ⟨Qx,h,rfl⟩
         unfold gm at h
         refine cB h J (fun h=>?_) (fun h=>?_)
         ·refine aJ<|rA J J<|rN<|ab.ret<|have h:=bT h dQ;?_
          cases h
          exact hP J J
         ·refine tK<|tR<|rM J J<|rF J J J<|rL J J .p1 J J<|ae.qv (bq J J) J<|rA J J<|rN<|ab.cw<|tR<|ae.qv (bq J J) J<|rM J J<|rN<|ab.stop<|?_
          cases h
          exact jl _ _ J<|aj.lq [0] J J J
       ·refine ab.exit J<|have h:=bT h dQ;?_
        unfold iQ at h
        refine tS<|ab.block<|aJ<|rM J J<|ae.qv (o9 J J) J<|rA J J<|rN<|cD h J (fun h=>?_) (fun h=>?_)
        ·refine aJ<|rA J J<|rN<|ab.ret<|?_
         cases h
         exact hP J J
        ·refine tS<|ab.cut (fun aK=>∃ (Cl:Bool),gn Cl=some r∧aK=⟨81,[(65,.bool Cl)],[]⟩) ?_ ?_
         ·refine tR<|rF J J J<|rF J J J<|rL J J .p0 J J<|aT J (iC J) cR J<|rM J J<|ae.guard J J J (fun hc=>?_) (fun hc=>?_)
          ·rw [vI hc] at h
           refine rF J J J<|rY J J J<|rF J J J<|rY J J J<|rL J J .p0 J J<|rY J J J<|aT J (iC J) cR J<|rE J J J<|rM J J<|ae.guard J J J (fun hc=>?_) (fun hc=>?_)
           ·rw [vI hc] at h
            exact rF J J J<|rY J J J<|rL J J .p0 J J<|rY J J J<|aT J (iC J) cR J<|rE J J J<|rA J J<|rN<|ab.stop<|aj.lq [] ⟨(gl aa.Room 1 500),h,J⟩ J J
           ·rw [vH hc] at h
            exact rG J J J J<|rG J J J J<|rT J J J<|rA J J<|rN<|ab.stop<|aj.lq [] ⟨true,h,J⟩ J J
          ·rw [vH hc] at h
           exact rG J J J J<|rG J J J J<|rG J J J J<|rT J J J<|rM J J<|rG J J J J<|rG J J J J<|rG J J J J<|rT J J J<|rA J J<|rN<|ab.stop<|aj.lq [] ⟨true,h,J⟩ J J
         ·rintro aK ⟨Cl,h,rfl⟩
          unfold gn at h
          refine cB h J (fun h=>?_) (fun h=>?_)
          ·refine aJ<|rA J J<|rN<|ab.ret<|?_
           cases h
           exact hP J J
          ·refine tK<|ab.cw<|aJ<|rA J J<|rN<|ab.ret<|?_
           cases h
           exact hP J J
theorem uO [GI:bN] {aa:List Int} {r:Int} (h:mJ aa=some r):Pu Tryz.prog 97 [eJ aa] (I r):=by
 unfold mJ at h
 refine aP.bI Tryz.func97 J Tryz.ntmps97 Tryz.results97 J J ?_
 refine aJ<|rA J J<|rN<|aJ<|rA J J<|rN<|tS<|aJ<|rM J J<|ae.qv (ca J) J<|rM J J<|rN<|ab.block<|ab.cx (fun x:Int=>tB aa x) (fun x aK=>aK=⟨18,[(3,I 0),(6,eJ aa),(7,I (aa.length:Int)),(8,I x)],[]⟩) h ?_ ?_
 ·exact aj.lq [] J J J
 ·intro n2 z1 aK J1 dY h jl dQ
  obtain rfl:=dY
  replace h:tB aa n2=some z1:=h
  unfold tB at h
  refine aJ<|ae.qv (bO J J) J<|rN<|tS<|cD h J (fun h=>?_) (fun h=>?_)
  ·refine tK<|tS<|ab.block<|aJ<|aH h fun v3 e1 h=>ae.qv (bG J J J e1 J J) J<|ae.qv (aQ J J J) J<|rA J J<|rN<|aJ<|rM J J<|rM J J<|ae.qv (o9 J J) J<|rN<|cD h J (fun h=>?_) (fun h=>?_)
   ·refine aJ<|rM J J<|rA J J<|rN<|ab.ret<|have h:=bT h dQ;?_
    cases h
    exact hP J J
   ·refine tK<|ab.cw<|tR<|ae.qv (bq J J) J<|rM J J<|rN<|ab.stop<|?_
    cases h
    exact jl _ _ J<|aj.lq [] J J J
  ·refine ab.exit J<|have h:=bT h dQ;aJ<|rM J J<|rA J J<|rN<|ab.ret<|?_
   cases h
   exact hP J J
theorem lA [GI:bN] {aa ai:Version} {r:Int} (h:fX aa ai=some r):Pu Tryz.prog 88 [Version.av aa,Version.av ai] (I r):=by
 unfold fX at h
 refine aP.bI Tryz.func88 J Tryz.ntmps88 Tryz.results88 J J ?_
 refine aJ<|dp J J J J fun b1=>dp J J J J fun b2=>rA J J<|rN<|tS<|ab.cU (id:=1) (A:=[0,1,0,4,15,0,32,0,128,511,0,1024,0,4096,16383,32767,65535,131071]) 18 mixed J (by kernel_rfl) (by kernel_rfl)<|AM.qv (az J J) J<|AM.qv (aN J J .p1 J) J<|AM.qv (az J J) J<|AM.qv (aN J J .p0 J) J<|AM.iX J (fC J) cR J<|AM.qv (az J J) J<|AM.qv (aN J J .p1 J) J<|AM.qv (az J J) J<|AM.qv (aN J J .p0 J) J<|AM.iX J (fC J) cR J<|AM.qv (az J J) J<|AM.qv (aN J J .p1 J) J<|AM.qv (az J J) J<|AM.qv (aN J J .p0 J) J<|AM.iX J (fC J) cR J<|AM.cO (xs:=([(cmp_Compare_int aa.aA ai.aA),(cmp_Compare_int aa.aC ai.aC),(cmp_Compare_int aa.aD ai.aD)]:List Int).map I) J J J J J J<|aH h fun v3 e1 h=>AM.iX J (uO e1) cR J<|AM.qv (bR J) J<|AM.nil<|rN<|ab.ret<|?_
 cases h
 exact hP J J
theorem zf [GI:bN] {aa:Range} {ai:Version} {r:Bool} (h:lp aa ai=some r):Pu Tryz.prog 156 [Range.av aa,.ch [I ai.aA,I ai.aC,I ai.aD]] (.bool r):=by
 unfold lp at h
 refine aP.bI Tryz.func156 J Tryz.ntmps156 Tryz.results156 J J ?_
 refine aJ<|dp J J J J fun b1=>rA J J<|rN<|tS<|ab.cut (fun aK=>∃ (c2:Bool),jc c2=some r∧aK=⟨16,[(3,.bool c2)],[]⟩) ?_ ?_
 ·refine tR<|rF J J J<|ae.qv (aO J J .p0 J J) J<|ae.qv (aL J J J) J<|aH h fun v3 e1 h=>aT J (lA e1) cR J<|ae.qv (pn J J) J<|rM J J<|gT h J J J (fun h=>?_) (fun h=>?_)
  ·exact ae.qv (aL J J J) J<|rY J J J<|rF J J J<|rY J J J<|ae.qv (aO J J .p0 J J) J<|rY J J J<|aH h fun v4 e2 h=>aT J (lA e2) cR J<|rY J J J<|ae.qv (pn J J) J<|rT J J J<|rA J J<|rN<|ab.stop<|aj.lq [] ⟨decide (v4≤0),h,J⟩ J J
  ·exact rG J J J J<|rG J J J J<|rG J J J J<|rG J J J J<|rE J J J<|rA J J<|rN<|ab.stop<|aj.lq [] ⟨false,h,J⟩ J J
 ·rintro aK ⟨c2,h,rfl⟩
  unfold jc at h
  refine ab.ret<|?_
  cases h
  exact hP J J
theorem tp [GI:bN] {aa:List Range} {eC:Range→Option Bool} {du:FuncId} [bJ Tryz.prog du] {eB:List AV} (lK:∀ {y0:_} {u:Bool},eC y0=some u→Pu Tryz.prog du (Range.av y0 :: eB) (.bool u)) {r:Int} (h:j0 aa eC=some r):Pu Tryz.prog 167 [QB aa,.func (.func du) eB] (I r):=by
 unfold j0 at h
 refine aP.bI Tryz.func167 J Tryz.ntmps167 Tryz.results167 J J ?_
 refine aJ<|rA J J<|rN<|tS<|aJ<|rM J J<|ae.qv (ca J) J<|rM J J<|rN<|ab.block<|ab.cx (fun x:Int=>fN aa eC x) (fun x aK=>aK=⟨19,[(0,QB aa),(1,.func (.func du) eB),(7,I (aa.length:Int)),(8,I x)],[]⟩) h ?_ ?_
 ·exact aj.lq [] J J J
 ·intro n2 z1 aK J1 dY h jl dQ
  obtain rfl:=dY
  replace h:fN aa eC n2=some z1:=h
  unfold fN at h
  refine aJ<|ae.qv (bO J J) J<|rN<|tS<|cD h J (fun h=>?_) (fun h=>?_)
  ·refine tK<|tS<|ab.block<|aJ<|rM J J<|rA J J<|rN<|aJ<|rM J J<|rM J J<|rM J J<|aH h fun v3 e1 h=>ae.qv (bG J J J e1 J J) J<|ae.qv (aL J J J) J<|aH h fun v4 e2 h=>tV J J (lK e2) cR J<|rN<|cB h J (fun h=>?_) (fun h=>?_)
   ·refine aJ<|rM J J<|rA J J<|rN<|ab.ret<|have h:=bT h dQ;?_
    cases h
    exact hP J J
   ·refine tK<|ab.cw<|tR<|ae.qv (bq J J) J<|rM J J<|rN<|ab.stop<|?_
    cases h
    exact jl _ _ J<|aj.lq [] J J J
  ·refine ab.exit J<|have h:=bT h dQ;aJ<|rA J J<|rN<|ab.ret<|?_
   cases h
   exact hP J J
theorem lL [GI:bN] {aa:List Range} {eC:Range→Option Bool} {du:FuncId} [bJ Tryz.prog du] {eB:List AV} (lK:∀ {y0:_} {u:Bool},eC y0=some u→Pu Tryz.prog du (Range.av y0 :: eB) (.bool u)) {r:Bool} (h:dX aa eC=some r):Pu Tryz.prog 131 [QB aa,.func (.func du) eB] (.bool r):=by
 unfold dX at h
 refine aP.bI Tryz.func131 J Tryz.ntmps131 Tryz.results131 J J ?_
 refine aJ<|rA J J<|rN<|aJ<|rM J J<|rM J J<|aH h fun v1 e1 h=>fk J (tp lK e1) (.cons (.co (.refl _)) (.cons (.co (.refl _)) .nil)) J J<|ae.qv (nU J J) J<|rA J J<|rN<|ab.ret<|?_
 cases h
 exact hP J J
theorem wg [GI:bN] {aa:an} {ai:Version} {r:Bool} (h:j6 aa ai=some r):Pu Tryz.prog 123 [an.av aa,Version.av ai] (.bool r):=by
 unfold j6 at h
 refine aP.bI Tryz.func123 J Tryz.ntmps123 Tryz.results123 J J ?_
 refine aJ<|dp J J J J fun b1=>dp J J J J fun b2=>rA J J<|rN<|aJ<|rF J J J<|rL J J .p1 J J<|ae.qv (mC J) J<|aH h fun v3 e1 h=>fk J (lL (fun e=>zf e) e1) (.cons (.co (.refl _)) (.cons (.Bf _ _ _ (.cons (.xC _ _ _ .p0 (.cons (.co (.refl _)) (.cons (.co (.refl _)) (.cons (.co (.refl _)) .nil)))) .nil)) .nil)) J J<|rA J J<|rN<|ab.ret<|?_
 cases h
 exact hP J J
theorem xO [GI:bN] {aa:an} {r:Int} (h:fR aa=some r):Pu Tryz.prog 89 [an.av aa] (I r):=by
 unfold fR at h
 refine aP.bI Tryz.func89 J Tryz.ntmps89 Tryz.results89 J J ?_
 refine aJ<|dp J J J J fun b1=>rA J J<|rN<|tS<|aJ<|rF J J J<|rL J J .p0 J J<|ae.qv (ca J) J<|ae.qv (eM J J) J<|rN<|cD h J (fun h=>?_) (fun h=>?_)
 ·refine aJ<|rA J J<|rN<|ab.ret<|?_
  cases h
  exact hP J J
 ·refine tK<|tS<|aJ<|rF J J J<|rL J J .p0 J J<|ae.qv (ca J) J<|rM J J<|rN<|ab.block<|ab.cx (fun x:Int=>fE aa x) (fun x aK=>aK=⟨57,[(1,.ptr b1 0),(10,QB aa.bS),(11,I (aa.bS.length:Int)),(12,I x)],[(b1,.cells (ET aa))]⟩) h ?_ ?_
  ·exact aj.lq [0] J J J
  ·intro n3 z1 aK J1 dY h jl dQ
   obtain rfl:=dY
   replace h:fE aa n3=some z1:=h
   unfold fE at h
   refine aJ<|ae.qv (bO J J) J<|rN<|tS<|cD h J (fun h=>?_) (fun h=>?_)
   ·refine tK<|tS<|ab.block<|aJ<|rM J J<|aH h fun v4 e1 h=>ae.qv (bG J J J e1 J J) J<|ae.qv (aL J J J) J<|bH J J J J fun b5=>rA J J<|ay J J J J .p0 J J<|rN<|ab.block<|tS<|ab.cut (fun aK=>∃ (c6:Bool),df aa n3 v4 c6=some z1∧aK=⟨57,[(1,.ptr b1 0),(3,I n3),(4,.ptr b5 0),(10,QB aa.bS),(11,I (aa.bS.length:Int)),(12,I n3),(17,.bool c6)],[(b1,.cells (ET aa)),(b5,.cells (cE4 v4))]⟩) ?_ ?_
    ·refine tR<|rF J J J<|ae.qv (aO J J .p0 J J) J<|aT J (lz J) cR J<|ae.qv (cu J) J<|rM J J<|ae.guard J J J (fun hc=>?_) (fun hc=>?_)
     ·refine have h:=ry hc h;rF J J J<|rY J J J<|ae.qv (aO J J .p0 J J) J<|rY J J J<|aT J (lz J) cR J<|rY J J J<|ae.qv (cu J) J<|rE J J J<|rM J J<|ae.guard J J J (fun hc=>?_) (fun hc=>?_)
      ·exact have h:=ry hc h;rF J J J<|rY J J J<|ae.qv (aO J J .p0 J J) J<|rY J J J<|rF J J J<|rY J J J<|ae.qv (aO J J .p0 J J) J<|rY J J J<|aH h fun v7 e2 h=>aT J (lA e2) cR J<|rY J J J<|ae.qv (eM J J) J<|rE J J J<|rA J J<|rN<|ab.stop<|aj.lq [1,0] ⟨decide (0 < v7),h,J⟩ J J
      ·exact have h:=pj hc h;rG J J J J<|rG J J J J<|rG J J J J<|rG J J J J<|rG J J J J<|rT J J J<|rA J J<|rN<|ab.stop<|aj.lq [1,0] ⟨true,h,J⟩ J J
     ·exact have h:=pj hc h;rG J J J J<|rG J J J J<|rG J J J J<|rT J J J<|rM J J<|rG J J J J<|rG J J J J<|rG J J J J<|rG J J J J<|rG J J J J<|rG J J J J<|rT J J J<|rA J J<|rN<|ab.stop<|aj.lq [1,0] ⟨true,h,J⟩ J J
    ·rintro aK ⟨c6,h,rfl⟩
     unfold df at h
     refine cB h J (fun h=>?_) (fun h=>?_)
     ·refine aJ<|rA J J<|rN<|ab.ret<|have h:=bT h dQ;?_
      cases h
      exact hP J J
     ·refine tS<|ab.cut (fun aK=>∃ (c8:Bool),fD n3 c8=some z1∧aK=⟨57,[(1,.ptr b1 0),(10,QB aa.bS),(11,I (aa.bS.length:Int)),(12,I n3),(36,.bool c8)],[(b1,.cells (ET aa))]⟩) ?_ ?_
      ·refine ab.cU (id:=8) (A:=[0,1,3,7,15,7,39,7,135,487,999,2023,4095,8191,16383,32767]) 16 mixed J (by kernel_rfl) (by kernel_rfl)<|AM.qv (aM J) J<|AM.qv (eM J J) J<|AM.qv (aM J) J<|AM.dw J J J (fun hc=>?_) (fun hc=>?_)
       ·exact have h:=pj hc h;AM.qv (az J J) J<|AM.au J J J<|AM.qv (aO J J .p1 J J) J<|AM.au J J J<|AM.qv (az J J) J<|AM.au J J J<|AM.qv (aN J J .p0 J) J<|AM.au J J J<|AM.qv (aM J) J<|AM.au J J J<|AM.qv (eK J J) J<|AM.au J J J<|aH h fun v9 e3 h=>AM.qv (bG J J J e3 J J) J<|AM.au J J J<|AM.qv (bf J J) J<|AM.au J J J<|AM.qv (aL J J J) J<|AM.au J J J<|aH h fun v10 e4 h=>AM.iX J (lA e4) cR J<|AM.au J J J<|AM.qv (pn J J) J<|AM.qv (fP J J) J<|AM.qv (bR J) J<|AM.nil<|rN<|ab.stop<|aj.lq [0] ⟨decide (v10≤0),h,J⟩ J J
       ·exact have h:=zZ hc h;AM.ar J J J J<|AM.ar J J J J<|AM.ar J J J J<|AM.ar J J J J<|AM.ar J J J J<|AM.ar J J J J<|AM.ar J J J J<|AM.ar J J J J<|AM.ar J J J J<|AM.ar J J J J<|AM.qv (ed J J) J<|AM.qv (bR J) J<|AM.nil<|rN<|ab.stop<|aj.lq [0] ⟨false,h,J⟩ J J
      ·rintro aK ⟨c8,h,rfl⟩
       unfold fD at h
       refine cB h J (fun h=>?_) (fun h=>?_)
       ·refine aJ<|rA J J<|rN<|ab.ret<|have h:=bT h dQ;?_
        cases h
        exact hP J J
       ·refine tK<|ab.cw<|ab.cw<|tR<|ae.qv (bq J J) J<|rM J J<|rN<|ab.stop<|?_
        cases h
        exact jl _ _ J<|aj.lq [0] J J J
   ·refine ab.exit J<|have h:=bT h dQ;?_
    unfold jP at h
    refine tS<|aJ<|ae.qv (aG J J .p0 J) J<|rF J J J<|ae.qv (aO J J .p0 J J) J<|aH h fun v11 e5 h=>aT J (wg e5) cR J<|rN<|cB h J (fun h=>?_) (fun h=>?_)
    ·refine aJ<|rA J J<|rN<|ab.ret<|?_
     cases h
     exact hP J J
    ·refine tK<|aJ<|rA J J<|rN<|ab.ret<|?_
     cases h
     exact hP J J
theorem xP [GI:bN] {aa:List an} {r:Int} (h:eA aa=some r):Pu Tryz.prog 44 [rP aa] (I r):=by
 unfold eA at h
 refine aP.bI Tryz.func44 J Tryz.ntmps44 Tryz.results44 J J ?_
 refine aJ<|rA J J<|rN<|tS<|aJ<|rM J J<|ae.qv (ca J) J<|ae.qv (eM J J) J<|rN<|cD h J (fun h=>?_) (fun h=>?_)
 ·refine aJ<|rA J J<|rN<|ab.ret<|?_
  cases h
  exact hP J J
 ·refine tK<|tS<|aJ<|rM J J<|ae.qv (ca J) J<|rM J J<|rN<|ab.block<|ab.cx (fun x:Int=>fG aa x) (fun x aK=>aK=⟨81,[(0,rP aa),(11,rP aa),(12,I (aa.length:Int)),(13,I x)],[]⟩) h ?_ ?_
  ·exact aj.lq [] J J J
  ·intro n2 z1 aK J1 dY h jl dQ
   obtain rfl:=dY
   replace h:fG aa n2=some z1:=h
   unfold fG at h
   refine aJ<|ae.qv (bO J J) J<|rN<|tS<|cD h J (fun h=>?_) (fun h=>?_)
   ·refine tK<|tS<|ab.block<|aJ<|rM J J<|aH h fun v3 e1 h=>ae.qv (bG J J J e1 J J) J<|ae.qv (aL J J J) J<|bH J J J J fun b4=>rA J J<|ay J J J J .p0 J J<|rN<|tS<|ab.block<|aJ<|rF J J J<|ae.qv (aO J J .p0 J J) J<|aT J (lz J) cR J<|ae.qv (cu J) J<|rA J J<|rN<|cB h J (fun h=>?_) (fun h=>?_)
    ·refine aJ<|rA J J<|rN<|ab.ret<|have h:=bT h dQ;?_
     cases h
     exact hP J J
    ·refine tS<|ab.cut (fun aK=>∃ (c5:Bool),dD n2 v3 c5=some z1∧aK=⟨81,[(0,rP aa),(4,.ptr b4 0),(11,rP aa),(12,I (aa.length:Int)),(13,I n2),(23,.bool c5)],[(b4,.cells (ET v3))]⟩) ?_ ?_
     ·refine ab.cU (id:=8) (A:=[0,1,3,7,15,7,7,71,231,487,999,2047,4095,8191,16383]) 15 mixed J (by kernel_rfl) (by kernel_rfl)<|AM.qv (aM J) J<|AM.qv (eM J J) J<|AM.qv (aM J) J<|AM.dw J J J (fun hc=>?_) (fun hc=>?_)
      ·exact have h:=pj hc h;AM.qv (az J J) J<|AM.au J J J<|AM.qv (aO J J .p0 J J) J<|AM.au J J J<|AM.qv (aM J) J<|AM.au J J J<|AM.qv (aM J) J<|AM.au J J J<|AM.qv (eK J J) J<|AM.au J J J<|aH h fun v6 e2 h=>AM.qv (bG J J J e2 J J) J<|AM.au J J J<|AM.qv (bf J J) J<|AM.au J J J<|AM.qv (kL J J J J) J<|AM.au J J J<|aH h fun v7 e3 h=>AM.iX J (lA e3) cR J<|AM.au J J J<|AM.qv (pn J J) J<|AM.qv (fP J J) J<|AM.qv (bR J) J<|AM.nil<|rN<|ab.stop<|aj.lq [0] ⟨decide (v7≤0),h,J⟩ J J
      ·exact have h:=zZ hc h;AM.ar J J J J<|AM.ar J J J J<|AM.ar J J J J<|AM.ar J J J J<|AM.ar J J J J<|AM.ar J J J J<|AM.ar J J J J<|AM.ar J J J J<|AM.ar J J J J<|AM.qv (ed J J) J<|AM.qv (bR J) J<|AM.nil<|rN<|ab.stop<|aj.lq [0] ⟨false,h,J⟩ J J
     ·rintro aK ⟨c5,h,rfl⟩
      unfold dD at h
      refine cB h J (fun h=>?_) (fun h=>?_)
      ·refine aJ<|rA J J<|rN<|ab.ret<|have h:=bT h dQ;?_
       cases h
       exact hP J J
      ·refine aJ<|rF J J J<|rL J J .p0 J J<|ae.qv (ca J) J<|ae.qv (dt J J) J<|rA J J<|rN<|cD h J (fun h=>?_) (fun h=>?_)
       ·refine aJ<|rA J J<|rN<|ab.ret<|have h:=bT h dQ;?_
        cases h
        exact hP J J
       ·refine aJ<|rF J J J<|rL J J .p0 J J<|ae.qv (ca J) J<|ae.qv (eM J J) J<|rA J J<|rN<|cD h J (fun h=>?_) (fun h=>?_)
        ·refine aJ<|rA J J<|rN<|ab.ret<|have h:=bT h dQ;?_
         cases h
         exact hP J J
        ·refine tK<|ab.cw<|tS<|aJ<|rF J J J<|rL J J .p0 J J<|ae.qv (ca J) J<|rM J J<|rN<|ab.block<|ab.cx (fun x:Int=>fF n2 v3 x) (fun x aK=>aK=⟨81,[(0,rP aa),(4,.ptr b4 0),(11,rP aa),(12,I (aa.length:Int)),(13,I n2),(49,Du v3.dc),(50,I (v3.dc.length:Int)),(51,I x)],[(b4,.cells (ET v3))]⟩) h ?_ ?_
         ·exact aj.lq [0] J J J
         ·intro n9 z2 aK J2 dY h yr wE
          obtain rfl:=dY
          replace h:fF n2 v3 n9=some z2:=h
          unfold fF at h
          refine aJ<|ae.qv (bO J J) J<|rN<|tS<|cD h J (fun h=>?_) (fun h=>?_)
          ·refine tK<|tS<|ab.block<|aJ<|rM J J<|aH h fun v10 e4 h=>ae.qv (bG J J J e4 J J) J<|ae.qv (aQ J J J) J<|rA J J<|rA J J<|rN<|tS<|aJ<|rM J J<|aH h fun v11 e5 h=>aT J (tn e5) cR J<|ae.qv (cu J) J<|rN<|cB h J (fun h=>?_) (fun h=>?_)
           ·refine aJ<|rA J J<|rN<|ab.ret<|have h:=bT h wE;have h:=bT h dQ;?_
            cases h
            exact hP J J
           ·refine tK<|tS<|ab.cut (fun aK=>∃ (c12:Bool),eh n9 c12=some z2∧aK=⟨81,[(0,rP aa),(4,.ptr b4 0),(11,rP aa),(12,I (aa.length:Int)),(13,I n2),(49,Du v3.dc),(50,I (v3.dc.length:Int)),(51,I n9),(70,.bool c12)],[(b4,.cells (ET v3))]⟩) ?_ ?_
            ·refine tR<|rM J J<|ae.qv (eM J J) J<|rM J J<|gT h J J J (fun h=>?_) (fun h=>?_)
             ·exact rM J J<|rY J J J<|rF J J J<|rY J J J<|rL J J .p0 J J<|rY J J J<|rM J J<|rY J J J<|ae.qv (eK J J) J<|rY J J J<|aH h fun gy e6 h=>ae.qv (bG J J J e6 J J) J<|rY J J J<|ae.qv (aQ J J J) J<|rY J J J<|ae.qv (Hy J J) J<|rT J J J<|rN<|ab.stop<|aj.lq [0] ⟨Op.bytesLess v10 gy||v10==gy,h,J⟩ J J
             ·exact rG J J J J<|rG J J J J<|rG J J J J<|rG J J J J<|rG J J J J<|rG J J J J<|rG J J J J<|rE J J J<|rN<|ab.stop<|aj.lq [0] ⟨false,h,J⟩ J J
            ·rintro aK ⟨c12,h,rfl⟩
             unfold eh at h
             refine cB h J (fun h=>?_) (fun h=>?_)
             ·refine aJ<|rA J J<|rN<|ab.ret<|have h:=bT h wE;have h:=bT h dQ;?_
              cases h
              exact hP J J
             ·refine tK<|ab.cw<|tR<|ae.qv (bq J J) J<|rM J J<|rN<|ab.stop<|?_
              cases h
              exact yr _ _ J<|aj.lq [0] J J J
          ·refine ab.exit J<|have h:=bT h wE;?_
           unfold jQ at h
           refine tS<|aJ<|ae.qv (aG J J .p0 J) J<|aH h fun qe e7 h=>aT J (xO e7) cR J<|rA J J<|rN<|aJ<|rM J J<|ae.qv (o9 J J) J<|rN<|cD h J (fun h=>?_) (fun h=>?_)
           ·refine aJ<|rM J J<|rA J J<|rN<|ab.ret<|have h:=bT h dQ;?_
            cases h
            exact hP J J
           ·refine tK<|aJ<|rF J J J<|rL J J .p0 J J<|aT J (iC J) cR J<|rN<|cB h J (fun h=>?_) (fun h=>?_)
            ·refine aJ<|rA J J<|rN<|ab.ret<|have h:=bT h dQ;?_
             cases h
             exact hP J J
            ·refine tK<|ab.cw<|tR<|ae.qv (bq J J) J<|rM J J<|rN<|ab.stop<|?_
             cases h
             exact jl _ _ J<|aj.lq [] J J J
   ·refine ab.exit J<|have h:=bT h dQ;aJ<|rA J J<|rN<|ab.ret<|?_
    cases h
    exact hP J J
theorem yu [GI:bN] {aa:List DeviceS} {r:Int} (h:kh aa=some r):Pu Tryz.prog 45 [ue aa] (I r):=by
 unfold kh at h
 refine aP.bI Tryz.func45 J Tryz.ntmps45 Tryz.results45 J J ?_
 refine aJ<|rA J J<|rN<|tS<|aJ<|rM J J<|ae.qv (ca J) J<|ae.qv (eM J J) J<|rN<|cD h J (fun h=>?_) (fun h=>?_)
 ·refine aJ<|rA J J<|rN<|ab.ret<|?_
  cases h
  exact hP J J
 ·refine tK<|tS<|aJ<|rM J J<|ae.qv (ca J) J<|rM J J<|rN<|ab.block<|ab.cx (fun x:Int=>dL aa x) (fun x aK=>aK=⟨57,[(0,ue aa),(8,ue aa),(9,I (aa.length:Int)),(10,I x)],[]⟩) h ?_ ?_
  ·exact aj.lq [] J J J
  ·intro n2 z1 aK J1 dY h jl dQ
   obtain rfl:=dY
   replace h:dL aa n2=some z1:=h
   unfold dL at h
   refine aJ<|ae.qv (bO J J) J<|rN<|tS<|cD h J (fun h=>?_) (fun h=>?_)
   ·refine tK<|tS<|ab.block<|aJ<|rM J J<|aH h fun v3 e1 h=>ae.qv (bG J J J e1 J J) J<|ae.qv (aL J J J) J<|bH J J J J fun b4=>rA J J<|ay J J J J .p0 J J<|rN<|ab.block<|tS<|ab.cut (fun aK=>∃ (c5:Bool),eG aa n2 v3 c5=some z1∧aK=⟨57,[(0,ue aa),(3,I n2),(4,.ptr b4 0),(8,ue aa),(9,I (aa.length:Int)),(10,I n2),(15,.bool c5)],[(b4,.cells (Tx v3))]⟩) ?_ ?_
    ·refine tR<|rF J J J<|rL J J .p0 J J<|aH h fun v6 e2 h=>aT J (tn e2) cR J<|ae.qv (cu J) J<|rM J J<|ae.guard J J J (fun hc=>?_) (fun hc=>?_)
     ·refine have h:=ry hc h;rF J J J<|rY J J J<|rL J J .p0 J J<|rY J J J<|aH h fun v7 e3 h=>aT J (tn e3) cR J<|rY J J J<|ae.qv (cu J) J<|rE J J J<|rM J J<|ae.guard J J J (fun hc=>?_) (fun hc=>?_)
      ·exact have h:=ry hc h;rF J J J<|rY J J J<|rL J J .p0 J J<|rY J J J<|aH h fun v8 e4 h=>aT J (tn e4) cR J<|rY J J J<|ae.qv (cu J) J<|rE J J J<|rA J J<|rN<|ab.stop<|aj.lq [0] ⟨!v8,h,J⟩ J J
      ·exact have h:=pj hc h;rG J J J J<|rG J J J J<|rG J J J J<|rT J J J<|rA J J<|rN<|ab.stop<|aj.lq [0] ⟨true,h,J⟩ J J
     ·exact have h:=pj hc h;rG J J J J<|rG J J J J<|rG J J J J<|rT J J J<|rM J J<|rG J J J J<|rG J J J J<|rG J J J J<|rG J J J J<|rT J J J<|rA J J<|rN<|ab.stop<|aj.lq [0] ⟨true,h,J⟩ J J
    ·rintro aK ⟨c5,h,rfl⟩
     unfold eG at h
     refine cB h J (fun h=>?_) (fun h=>?_)
     ·refine aJ<|rA J J<|rN<|ab.ret<|have h:=bT h dQ;?_
      cases h
      exact hP J J
     ·refine tS<|ab.cut (fun aK=>∃ (c9:Bool),dK n2 v3 c9=some z1∧aK=⟨57,[(0,ue aa),(4,.ptr b4 0),(8,ue aa),(9,I (aa.length:Int)),(10,I n2),(32,.bool c9)],[(b4,.cells (Tx v3))]⟩) ?_ ?_
      ·refine ab.cU (id:=8) (A:=[0,1,3,7,15,7,7,71,231,487,999,2047,4095,8191]) 14 mixed J (by kernel_rfl) (by kernel_rfl)<|AM.qv (aM J) J<|AM.qv (eM J J) J<|AM.qv (aM J) J<|AM.dw J J J (fun hc=>?_) (fun hc=>?_)
       ·exact have h:=pj hc h;AM.qv (az J J) J<|AM.au J J J<|AM.qv (aN J J .p0 J) J<|AM.au J J J<|AM.qv (aM J) J<|AM.au J J J<|AM.qv (aM J) J<|AM.au J J J<|AM.qv (eK J J) J<|AM.au J J J<|aH h fun v10 e5 h=>AM.qv (bG J J J e5 J J) J<|AM.au J J J<|AM.qv (bf J J) J<|AM.au J J J<|AM.qv (aQ J J J) J<|AM.au J J J<|AM.qv (Hy J J) J<|AM.qv (fP J J) J<|AM.qv (bR J) J<|AM.nil<|rN<|ab.stop<|aj.lq [0] ⟨Op.bytesLess v3.Key v10.Key||v3.Key==v10.Key,h,J⟩ J J
       ·exact have h:=zZ hc h;AM.ar J J J J<|AM.ar J J J J<|AM.ar J J J J<|AM.ar J J J J<|AM.ar J J J J<|AM.ar J J J J<|AM.ar J J J J<|AM.ar J J J J<|AM.qv (ed J J) J<|AM.qv (bR J) J<|AM.nil<|rN<|ab.stop<|aj.lq [0] ⟨false,h,J⟩ J J
      ·rintro aK ⟨c9,h,rfl⟩
       unfold dK at h
       refine cB h J (fun h=>?_) (fun h=>?_)
       ·refine aJ<|rA J J<|rN<|ab.ret<|have h:=bT h dQ;?_
        cases h
        exact hP J J
       ·refine aJ<|rF J J J<|ae.qv (aO J J .p0 J J) J<|aT J (lz J) cR J<|ae.qv (cu J) J<|rA J J<|rN<|cB h J (fun h=>?_) (fun h=>?_)
        ·refine aJ<|rA J J<|rN<|ab.ret<|have h:=bT h dQ;?_
         cases h
         exact hP J J
        ·refine aJ<|rF J J J<|rL J J .p0 J J<|ae.qv (ca J) J<|ae.qv (eM J J) J<|rA J J<|rN<|cD h J (fun h=>?_) (fun h=>?_)
         ·refine aJ<|rA J J<|rN<|ab.ret<|have h:=bT h dQ;?_
          cases h
          exact hP J J
         ·refine tK<|ab.cw<|ab.cw<|tR<|ae.qv (bq J J) J<|rM J J<|rN<|ab.stop<|?_
          cases h
          exact jl _ _ J<|aj.lq [] J J J
   ·refine ab.exit J<|have h:=bT h dQ;aJ<|rA J J<|rN<|ab.ret<|?_
    cases h
    exact hP J J
theorem Ac [GI:bN] {aa ai:MarkS} {r:Int} (h:mi aa ai=some r):Pu Tryz.prog 90 [MarkS.av aa,MarkS.av ai] (I r):=by
 unfold mi at h
 refine aP.bI Tryz.func90 J Tryz.ntmps90 Tryz.results90 J J ?_
 refine aJ<|dp J J J J fun b1=>dp J J J J fun b2=>rA J J<|rN<|tS<|ab.cU (id:=1) (A:=[0,1,0,4,15,0,32,0,128,511,1023,2047,4095]) 13 mixed J (by kernel_rfl) (by kernel_rfl)<|AM.qv (az J J) J<|AM.qv (aN J J .p1 J) J<|AM.qv (az J J) J<|AM.qv (aN J J .p0 J) J<|AM.iX J (fC J) cR J<|AM.qv (az J J) J<|AM.qv (aN J J .p1 J) J<|AM.qv (az J J) J<|AM.qv (aN J J .p0 J) J<|AM.iX J (r6 J) cR J<|AM.cO (xs:=([(cmp_Compare_int aa.At ai.At),(Lib.compareBytes aa.Device ai.Device)]:List Int).map I) J J J J J J<|aH h fun v3 e1 h=>AM.iX J (uO e1) cR J<|AM.qv (bR J) J<|AM.nil<|rN<|ab.ret<|?_
 cases h
 exact hP J J
theorem yv [GI:bN] {aa:List MarkS} {r:Int} (h:ki aa=some r):Pu Tryz.prog 46 [uf aa] (I r):=by
 unfold ki at h
 refine aP.bI Tryz.func46 J Tryz.ntmps46 Tryz.results46 J J ?_
 refine aJ<|rA J J<|rN<|tS<|aJ<|rM J J<|ae.qv (ca J) J<|ae.qv (eM J J) J<|rN<|cD h J (fun h=>?_) (fun h=>?_)
 ·refine aJ<|rA J J<|rN<|ab.ret<|?_
  cases h
  exact hP J J
 ·refine tK<|tS<|aJ<|rM J J<|ae.qv (ca J) J<|rM J J<|rN<|ab.block<|ab.cx (fun x:Int=>dM aa x) (fun x aK=>aK=⟨48,[(0,uf aa),(8,uf aa),(9,I (aa.length:Int)),(10,I x)],[]⟩) h ?_ ?_
  ·exact aj.lq [] J J J
  ·intro n2 z1 aK J1 dY h jl dQ
   obtain rfl:=dY
   replace h:dM aa n2=some z1:=h
   unfold dM at h
   refine aJ<|ae.qv (bO J J) J<|rN<|tS<|cD h J (fun h=>?_) (fun h=>?_)
   ·refine tK<|tS<|ab.block<|aJ<|rM J J<|aH h fun v3 e1 h=>ae.qv (bG J J J e1 J J) J<|ae.qv (aL J J J) J<|bH J J J J fun b4=>rA J J<|ay J J J J .p0 J J<|rN<|ab.block<|aJ<|rF J J J<|rL J J .p0 J J<|aT J (wF J) cR J<|ae.qv (cu J) J<|rA J J<|rN<|cB h J (fun h=>?_) (fun h=>?_)
    ·refine aJ<|rA J J<|rN<|ab.ret<|have h:=bT h dQ;?_
     cases h
     exact hP J J
    ·refine aJ<|rF J J J<|rL J J .p0 J J<|aH h fun v5 e2 h=>aT J (tn e2) cR J<|ae.qv (cu J) J<|rA J J<|rN<|cB h J (fun h=>?_) (fun h=>?_)
     ·refine aJ<|rA J J<|rN<|ab.ret<|have h:=bT h dQ;?_
      cases h
      exact hP J J
     ·refine aJ<|rF J J J<|rL J J .p0 J J<|aT J (iC J) cR J<|rA J J<|rN<|cB h J (fun h=>?_) (fun h=>?_)
      ·refine aJ<|rA J J<|rN<|ab.ret<|have h:=bT h dQ;?_
       cases h
       exact hP J J
      ·refine aJ<|rF J J J<|ae.qv (aO J J .p0 J J) J<|aT J (lz J) cR J<|ae.qv (cu J) J<|rA J J<|rN<|cB h J (fun h=>?_) (fun h=>?_)
       ·refine aJ<|rA J J<|rN<|ab.ret<|have h:=bT h dQ;?_
        cases h
        exact hP J J
       ·refine tS<|ab.cut (fun aK=>∃ (c6:Bool),iw n2 c6=some z1∧aK=⟨48,[(0,uf aa),(8,uf aa),(9,I (aa.length:Int)),(10,I n2),(34,.bool c6)],[]⟩) ?_ ?_
        ·refine ab.cU (id:=14) (A:=[0,1,3,7,7,7,39,119,247,511,1023,2047,4095]) 13 mixed J (by kernel_rfl) (by kernel_rfl)<|AM.qv (aM J) J<|AM.qv (eM J J) J<|AM.qv (aM J) J<|AM.dw J J J (fun hc=>?_) (fun hc=>?_)
         ·exact have h:=pj hc h;AM.qv (aG J J .p0 J) J<|AM.au J J J<|AM.qv (aM J) J<|AM.au J J J<|AM.qv (aM J) J<|AM.au J J J<|AM.qv (eK J J) J<|AM.au J J J<|aH h fun v7 e3 h=>AM.qv (bG J J J e3 J J) J<|AM.au J J J<|AM.qv (aL J J J) J<|AM.au J J J<|aH h fun v8 e4 h=>AM.iX J (Ac e4) cR J<|AM.au J J J<|AM.qv (pn J J) J<|AM.qv (fP J J) J<|AM.qv (bR J) J<|AM.nil<|rN<|ab.stop<|aj.lq [] ⟨decide (v8≤0),h,J⟩ J J
         ·exact have h:=zZ hc h;AM.ar J J J J<|AM.ar J J J J<|AM.ar J J J J<|AM.ar J J J J<|AM.ar J J J J<|AM.ar J J J J<|AM.ar J J J J<|AM.qv (ed J J) J<|AM.qv (bR J) J<|AM.nil<|rN<|ab.stop<|aj.lq [] ⟨false,h,J⟩ J J
        ·rintro aK ⟨c6,h,rfl⟩
         unfold iw at h
         refine cB h J (fun h=>?_) (fun h=>?_)
         ·refine aJ<|rA J J<|rN<|ab.ret<|have h:=bT h dQ;?_
          cases h
          exact hP J J
         ·refine tK<|ab.cw<|ab.cw<|tR<|ae.qv (bq J J) J<|rM J J<|rN<|ab.stop<|?_
          cases h
          exact jl _ _ J<|aj.lq [] J J J
   ·refine ab.exit J<|have h:=bT h dQ;aJ<|rA J J<|rN<|ab.ret<|?_
    cases h
    exact hP J J
theorem ug [GI:bN] {aa ai r:Int} (h:fS aa ai=r):Pu Tryz.prog 47 [I aa,I ai] (I r):=by
 unfold fS at h
 refine aP.bI Tryz.func47 J Tryz.ntmps47 Tryz.results47 J J ?_
 refine aJ<|rA J J<|rN<|tS<|tS<|ab.cut (fun aK=>∃ (c1:Bool),lG c1=r∧aK=⟨12,[(11,.bool c1)],[]⟩) ?_ ?_
 ·refine tR<|rM J J<|aT J (iC J) cR J<|rM J J<|ae.guard J J J (fun hc=>?_) (fun hc=>?_)
  ·rw [vI hc] at h
   exact rM J J<|rY J J J<|aT J (wF J) cR J<|rY J J J<|ae.qv (cu J) J<|rE J J J<|rN<|ab.stop<|aj.lq [] ⟨!(mh ai),h,J⟩ J J
  ·rw [vH hc] at h
   exact rG J J J J<|rG J J J J<|rT J J J<|rN<|ab.stop<|aj.lq [] ⟨true,h,J⟩ J J
 ·rintro aK ⟨c1,h,rfl⟩
  unfold lG at h
  refine cB h J (fun h=>?_) (fun h=>?_)
  ·refine aJ<|rA J J<|rN<|ab.ret<|?_
   obtain rfl:=h
   exact hP J J
  ·refine tK<|aJ<|rA J J<|rN<|ab.ret<|?_
   obtain rfl:=h
   exact hP J J
theorem BE [GI:bN] {aa:List Int} {r:Int} (h:vh aa=some r):Pu Tryz.prog 42 [eJ aa] (I r):=by
 unfold vh at h
 refine aP.bI Tryz.func42 J Tryz.ntmps42 Tryz.results42 J J ?_
 refine aJ<|rA J J<|rN<|tS<|aJ<|rM J J<|ae.qv (ca J) J<|rM J J<|rN<|ab.block<|ab.cx (fun x:Int=>tC aa x) (fun x aK=>aK=⟨15,[(5,eJ aa),(6,I (aa.length:Int)),(7,I x)],[]⟩) h ?_ ?_
 ·exact aj.lq [] J J J
 ·intro n2 z1 aK J1 dY h jl dQ
  obtain rfl:=dY
  replace h:tC aa n2=some z1:=h
  unfold tC at h
  refine aJ<|ae.qv (bO J J) J<|rN<|tS<|cD h J (fun h=>?_) (fun h=>?_)
  ·refine tK<|tS<|ab.block<|aJ<|aH h fun v3 e1 h=>ae.qv (bG J J J e1 J J) J<|ae.qv (aQ J J J) J<|rA J J<|rN<|aJ<|rM J J<|ae.qv (o9 J J) J<|rN<|cD h J (fun h=>?_) (fun h=>?_)
   ·refine aJ<|rM J J<|rA J J<|rN<|ab.ret<|have h:=bT h dQ;?_
    cases h
    exact hP J J
   ·refine tK<|ab.cw<|tR<|ae.qv (bq J J) J<|rM J J<|rN<|ab.stop<|?_
    cases h
    exact jl _ _ J<|aj.lq [] J J J
  ·refine ab.exit J<|have h:=bT h dQ;aJ<|rA J J<|rN<|ab.ret<|?_
   cases h
   exact hP J J
theorem JN [GI:bN] {aa:List bn} {r:Int} (h:w6 aa=some r):Pu Tryz.prog 126 [Du aa] (.int .u64 r):=by
 unfold w6 at h
 refine aP.bI Tryz.func126 J Tryz.ntmps126 Tryz.results126 J J ?_
 refine aJ<|rA J J<|rN<|aJ<|rA J J<|rN<|tS<|aJ<|rM J J<|ae.qv (ca J) J<|rM J J<|rN<|ab.block<|ab.cx (fun x:Int×Int=>od aa x.1 x.2) (fun x aK=>aK=⟨33,[(3,.int .u64 x.1),(7,Du aa),(8,I (aa.length:Int)),(9,I x.2)],[]⟩) h ?_ ?_
 ·exact aj.lq [] J J J
 ·intro x z1 aK J1 dY h jl dQ
  obtain ⟨n3,n4⟩:=x
  obtain rfl:=dY
  replace h:od aa n3 n4=some z1:=h
  unfold od at h
  refine aJ<|ae.qv (bO J J) J<|rN<|tS<|cD h J (fun h=>?_) (fun h=>?_)
  ·refine tK<|tS<|ab.block<|aJ<|rM J J<|aH h fun v5 e1 h=>ae.qv (bG J J J e1 J J) J<|ae.qv (aQ J J J) J<|rA J J<|rA J J<|rN<|tS<|aJ<|rM J J<|ae.qv (eM J J) J<|rN<|ab.cut (fun aK=>∃ (n6:Int),pU n4 v5 n6=some z1∧aK=⟨33,[(3,.int .u64 n6),(5,.str v5),(7,Du aa),(8,I (aa.length:Int)),(9,I n4)],[]⟩) ?_ ?_
   ·refine cD h J (fun h=>?_) (fun h=>?_)
    ·exact tR<|rM J J<|ae.qv (sR J J) J<|rA J J<|rN<|ab.stop<|aj.lq [] ⟨IntKind.u64.wrap (n3 * 1099511628211),h,J⟩ J J
    ·exact tK<|ab.stop<|aj.lq [] ⟨n3,h,J⟩ J J
   ·rintro aK ⟨n6,h,rfl⟩
    unfold pU at h
    refine aJ<|rM J J<|ae.qv (oM J) J<|rM J J<|rN<|ab.block<|ab.cx (fun x:Int×Int=>pT n4 v5 x.1 x.2) (fun x aK=>aK=⟨33,[(3,.int .u64 x.1),(5,.str v5),(7,Du aa),(8,I (aa.length:Int)),(9,I n4),(19,I (v5.length:Int)),(20,I x.2)],[]⟩) h ?_ ?_
    ·exact aj.lq [] J J J
    ·intro x z2 aK J2 dY h yr wE
     obtain ⟨n9,n10⟩:=x
     obtain rfl:=dY
     replace h:pT n4 v5 n9 n10=some z2:=h
     unfold pT at h
     refine aJ<|ae.qv (bO J J) J<|rN<|tS<|cD h J (fun h=>?_) (fun h=>?_)
     ·refine tK<|tS<|ab.block<|aJ<|rM J J<|rA J J<|rN<|tR<|rM J J<|rM J J<|rM J J<|aH h fun Cl e2 h=>ae.qv (nV J J e2) J<|ae.qv (xD J) J<|ae.qv (Mq J J) J<|ae.qv (sR J J) J<|rA J J<|rN<|ab.cw<|tR<|ae.qv (bq J J) J<|rM J J<|rN<|ab.stop<|?_
      cases h
      exact yr _ _ J<|aj.lq [] J J J
     ·refine ab.exit J<|have h:=bT h wE;ab.cw<|tR<|ae.qv (bq J J) J<|rM J J<|rN<|ab.stop<|?_
      cases h
      exact jl _ _ J<|aj.lq [] J J J
  ·refine ab.exit J<|have h:=bT h dQ;aJ<|rM J J<|rA J J<|rN<|ab.ret<|?_
   cases h
   exact hP J J
end Go.Proofs.YthfphcbipahkmaaGreatDoor
