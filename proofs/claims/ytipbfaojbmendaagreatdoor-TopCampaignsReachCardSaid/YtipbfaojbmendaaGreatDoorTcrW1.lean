/- The code computes the plain functions: proofs written by shal.py. -/
import Derived.Test.YtipbfaojbmendaaGreatDoorTcrP
import Derived.Test.YtipbfaojbmendaaGreatDoorLib
open List renaming length_set→ac,mem_cons→ad,not_mem_nil→af
set_option maxHeartbeats 4000000
set_option maxRecDepth 100000
set_option linter.unusedVariables false
set_option linter.unusedSimpArgs false
namespace Go.Proofs.YtipbfaojbmendaaGreatDoor
open Go Go.Eng Go.Proofs Go.Beacon
attribute [local irreducible] ae ab AQ QV aY aq RC AM
instance adL:MC Tryz.prog 27:=⟨by kernel_rfl⟩
instance adM:Bf Tryz.prog 27 2 Version.av:=⟨fun x y w S v u hv hu=>by
 obtain ⟨vs,rfl,hl,ha⟩:=At.qK hv
 obtain ⟨us,rfl,JK,Pe⟩:=At.qK hu
 obtain ⟨v0,p0,q0⟩:=pY.get hl ha (off:=0) rfl
 obtain ⟨u0,p0',q0'⟩:=pY.get JK Pe (off:=0) rfl
 obtain ⟨v1,p1,q1⟩:=pY.get hl ha (off:=1) rfl
 obtain ⟨u1,p1',q1'⟩:=pY.get JK Pe (off:=1) rfl
 obtain ⟨v2,p2,q2⟩:=pY.get hl ha (off:=2) rfl
 obtain ⟨u2,p2',q2'⟩:=pY.get JK Pe (off:=2) rfl
 refine Iy.cast (Iy.struct Tryz.underlying27 (by kernel_rfl) (.cons (by decide) (uz J p0) (uz J p0') (Iy.up (Bf.h (g:=I) x.ax y.ax w S _ _ q0 q0') 0) (.cons (by decide) (uz J p1) (uz J p1') (Iy.up (Bf.h (g:=I) x.aA y.aA w S _ _ q1 q1') 0) (.cons (by decide) (uz J p2) (uz J p2') (Iy.up (Bf.h (g:=I) x.aC y.aC w S _ _ q2 q2') 0) .nil)))) ?_
 obtain ⟨_,_,_⟩:=x
 obtain ⟨_,_,_⟩:=y
 rw [Bool.eq_iff_iff];simp [and_assoc]⟩
instance adN:dY Tryz.prog 27 Version.av:=dY.struct (n:=3) J Tryz.underlying27 (fun f hf=>by
 simp only [ad,af,or_false] at hf
 rcases hf with rfl | rfl | rfl
 ·exact ⟨_,aF.h (P:=Tryz.prog) (t:=3),J,by decide⟩
 ·exact ⟨_,aF.h (P:=Tryz.prog) (t:=3),J,by decide⟩
 ·exact ⟨_,aF.h (P:=Tryz.prog) (t:=3),J,by decide⟩) (fun x=>⟨_,J,J,fun c hc=>by
 simp only [ad,af,or_false] at hc
 rcases hc with rfl | rfl | rfl<;>rfl⟩) (fun a b h=>by
 obtain ⟨_,_,_⟩:=a
 obtain ⟨_,_,_⟩:=b
 simpa [Version.av] using h)
abbrev mz (xs:List Int):AV:=.list 1 (xs.map I)
abbrev y7 (xs:List bq):AV:=.list 1 (xs.map AV.str)
abbrev Wj (xs:List iz):Ob:=.arr 4 (xs.map iz.av)
abbrev yB (xs:List ar):Ob:=.arr 6 (xs.map ar.av)
abbrev ZE (xs:List Range):Ob:=.arr 6 (xs.map Range.av)
abbrev I7 (xs:List DeviceS):Ob:=.arr 7 (xs.map DeviceS.av)
abbrev nW (xs:List iz):AV:=.list 4 (xs.map iz.av)
abbrev Ty (x:Campaign):List AV:=[.str x.Key,I x.Target.ax,I x.Target.aA,I x.Target.aC,I x.At,nW x.aG,I x.bb.cr,I x.bb.To,I x.Room]
abbrev cE1 (x:iz):List AV:=[I x.Part,I x.oo,I x.pk,I x.ct]
abbrev tu (xs:List ar):AV:=.list 6 (xs.map ar.av)
abbrev Tz (xs:List Range):AV:=.list 6 (xs.map Range.av)
abbrev He (x:ar):List AV:=[I x.Version.ax,I x.Version.aA,I x.Version.aC,y7 x.jU,Tz x.cr,I x.ec]
abbrev cE3 (x:Range):List AV:=[I x.xM.ax,I x.xM.aA,I x.xM.aC,I x.oq.ax,I x.oq.aA,I x.oq.aC]
abbrev xP (xs:List DeviceS):AV:=.list 7 (xs.map DeviceS.av)
abbrev lE6 (xs:List Lj):AV:=.list 2 (xs.map Lj.av)
abbrev Pg (x:DeviceS):List AV:=[.str x.Key,.str x.Model,.str x.yj,I x.bB.ax,I x.bB.aA,I x.bB.aC,lE6 x.I4]
abbrev fE0 (x:aj):List AV:=[I x.ah.Kind,I x.ah.Since,I x.ah.Version.ax,I x.ah.Version.aA,I x.ah.Version.aC,I x.ah.ct,I x.aN.ax,I x.aN.aA,I x.aN.aC]
abbrev pb (b:Bk) (s:Nat→Bk) (x:aj):List (Bk×PO):=[(b,.cells [I x.ah.Kind,I x.ah.Since,I x.ah.Version.ax,I x.ah.Version.aA,I x.ah.Version.aC,I x.ah.ct,I x.aN.ax,I x.aN.aA,I x.aN.aC])]
theorem R4:KB pb fE0:=⟨⟨fun x=>[.v (I x.ah.Kind),.v (I x.ah.Since),.v (I x.ah.Version.ax),.v (I x.ah.Version.aA),.v (I x.ah.Version.aC),.v (I x.ah.ct),.v (I x.aN.ax),.v (I x.aN.aA),.v (I x.aN.aC)],fun _ _ _=>J,fun _=>J⟩⟩
abbrev tq (xs:List (bq×Int)):Ob:=.mp (xs.map (fun e=>(AV.str e.1,I e.2)))
abbrev cI (xs:List Int):Ob:=.arr 1 (xs.map I)
abbrev BH (x:aM) (b4:Bk):List AV:=[tu x.mi,I x.Cv.ax,I x.Cv.aA,I x.Cv.aC,.bO b4]
abbrev I8 (xs:List MarkS):Ob:=.arr 6 (xs.map MarkS.av)
abbrev TA (xs:List ar):Ob:=.yD 6 (xs.map ar.av)
abbrev TB (xs:List (List ar)):Ob:=.arr 1 (xs.map (K1 6 ar.av))
abbrev vP (xs:List (Version×ak)):Ob:=.mp (xs.map (fun e=>(Version.av e.1,ak.av e.2)))
abbrev lv (xs:List Version):Ob:=.arr 3 (xs.map Version.av)
abbrev Bj (xs:List Version):AV:=.list 3 (xs.map Version.av)
abbrev ow (xs:List (bq×(List (Version×ak)))):Ob:=.mp (xs.map (fun e=>(AV.str e.1,(Eg Version.av ak.av) e.2)))
abbrev Ln (xs:List eo):Ob:=.arr 5 (xs.map eo.av)
abbrev Hf (xs:List MarkS):AV:=.list 6 (xs.map MarkS.av)
abbrev XU (xs:List iz):Ob:=.yD 4 (xs.map iz.av)
abbrev vQ (xs:List cP):AV:=.list 4 (xs.map cP.av)
abbrev Dz (xs:List Int):Ob:=.arr 1 (xs.map (AV.int .u8))
abbrev QD (xs:List Int):AV:=.list 1 (xs.map (AV.int .u8))
theorem Fj [GI:ck] {aa ai r:Int} (h:Below aa ai=some r):Pu Tryz.prog 43 [I aa,I ai] (I r):=by
 unfold Below at h
 refine aY.ch Tryz.func43 J Tryz.ntmps43 Tryz.results43 J J ?_
 refine aT<|rA J J<|rN<|tS<|aT<|rM J J<|ae.qv (cJ J J) J<|rN<|cD h J (fun h=>?_) (fun h=>?_)
 ·refine aT<|rA J J<|rN<|ab.ret<|?_
  cases h
  exact hP J J
 ·refine tK<|aT<|rM J J<|rM J J<|aU h fun n1 e1 h=>ae.qv (MA J J e1) J<|rA J J<|rN<|tS<|aT<|rM J J<|ae.qv (cJ J J) J<|rN<|ab.cut (fun aS=>∃ (n2:Int),wy n2=some r∧aS=⟨16,[(0,I n2)],[]⟩) ?_ ?_
  ·refine cD h J (fun h=>?_) (fun h=>?_)
   ·exact tR<|rM J J<|rM J J<|ae.qv (bQ J J) J<|rA J J<|rN<|ab.stop<|aq.lq [] ⟨bA (n1+ai),h,J⟩ J J
   ·exact tK<|ab.stop<|aq.lq [] ⟨n1,h,J⟩ J J
  ·rintro aS ⟨n2,h,rfl⟩
   unfold wy at h
   refine aT<|rM J J<|rA J J<|rN<|ab.ret<|?_
   cases h
   exact hP J J
theorem mL [GI:ck] {cU:Bk} {aa:an} {ai:Int} {r:Int×an} (h:iI aa ai=some r):aY Tryz.prog 17 [.ptr cU 0,I ai] [(cU,.cells [mz aa.L,I aa.at_])] (T0 ([(cU,.cells [mz r.2.L,I r.2.at_])]) (I r.1)):=by
 unfold iI at h
 refine aY.lD ?_
 refine aY.ch Tryz.func17 J Tryz.ntmps17 Tryz.results17 J J ?_
 refine aT<|rA J J<|rN<|aT<|rM J J<|ae.qv (ay J) J<|rF J J J<|rL J J .p0 J J<|ae.qv (bQ J J) J<|ae.qv (ay J) J<|rF J J J<|aI J J J J .p0 J J<|rN<|tS<|aT<|rM J J<|ae.qv (ay J) J<|rF J J J<|rL J J .p0 J J<|ae.qv (dm J) J<|ae.qv (fY J J) J<|rN<|cD h J (fun h=>?_) (fun h=>?_)
 ·refine aT<|rM J J<|ae.qv (ay J) J<|rF J J J<|rL J J .p0 J J<|ae.qv (u4 J J) J<|rM J J<|aU h fun v1 e1 h=>bl J (Fj e1) cR J<|rA J J<|rN<|ab.ret<|?_
  cases h
  exact hH J [0] J ⟨J,J⟩
 ·refine tK<|tS<|ab.di (id:=4) (A:=[0,1,3,7,15,0,32,96,224,480,1023,2047]) 12 mixed J (by kernel_rfl) (by kernel_rfl)<|AM.qv (aX J) J<|AM.qv (ay J) J<|AM.qv (aB J J) J<|AM.qv (aJ J J .p0 J) J<|AM.qv (iY J J) J<|AM.qv (aX J) J<|AM.qv (ay J) J<|AM.qv (aB J J) J<|AM.qv (aJ J J .p0 J) J<|AM.qv (dm J) J<|aU h fun n2 e2 h=>AM.qv (MA J J e2) J<|AM.qv (bT J) J<|AM.nil<|rN<|tS<|ab.di (id:=5) (A:=[0,1,3,7,15,0,32,96,224,480,1023,2047]) 12 mixed J (by kernel_rfl) (by kernel_rfl)<|AM.qv (aX J) J<|AM.qv (ay J) J<|AM.qv (aB J J) J<|AM.qv (aJ J J .p0 J) J<|AM.qv (iY J J) J<|AM.qv (aX J) J<|AM.qv (ay J) J<|AM.qv (aB J J) J<|AM.qv (aJ J J .p0 J) J<|AM.qv (dm J) J<|aU h fun n3 e3 h=>AM.qv (E3 J J e3) J<|AM.qv (bT J) J<|AM.nil<|rN<|aT<|rM J J<|ae.qv (ay J) J<|rF J J J<|rL J J .p0 J J<|rM J J<|aU h fun v4 e4 h=>ae.qv (bS J J J e4 J J) J<|ae.qv (aR J J J) J<|aU h fun v5 e5 h=>bl J (Fj e5) cR J<|rM J J<|rM J J<|ae.qv (bQ J J) J<|ae.qv (u4 J J) J<|ae.qv (bQ J J) J<|rM J J<|aU h fun v6 e6 h=>bl J (Fj e6) cR J<|rA J J<|rN<|ab.ret<|?_
  cases h
  exact hH J [0] J ⟨J,J⟩
theorem xQ [GI:ck] {cU:Bk} {aa:an} {ai:List bq} {r:bq×an} (h:ng aa ai=some r):aY Tryz.prog 14 [.ptr cU 0,y7 ai] [(cU,.cells [mz aa.L,I aa.at_])] (T0 ([(cU,.cells [mz r.2.L,I r.2.at_])]) (.str r.1)):=by
 unfold ng at h
 refine aY.lD ?_
 refine aY.ch Tryz.func14 J Tryz.ntmps14 Tryz.results14 J J ?_
 refine aT<|rA J J<|rN<|aT<|rM J J<|rM J J<|rM J J<|ae.qv (dm J) J<|aU h fun v1 e1 h=>eB J (mL e1) cR (.cons .p0 .nil) J J<|aU h fun v2 e2 h=>ae.qv (bS J J J e2 J J) J<|ae.qv (aR J J J) J<|rA J J<|rN<|ab.ret<|?_
 cases h
 exact hH J [0] J ⟨J,J⟩
theorem fg [GI:ck] {cU:Bk} {aa:an} {ai:List Int} {r:Int×an} (h:dS aa ai=some r):aY Tryz.prog 16 [.ptr cU 0,mz ai] [(cU,.cells [mz aa.L,I aa.at_])] (T0 ([(cU,.cells [mz r.2.L,I r.2.at_])]) (I r.1)):=by
 unfold dS at h
 refine aY.lD ?_
 refine aY.ch Tryz.func16 J Tryz.ntmps16 Tryz.results16 J J ?_
 refine aT<|rA J J<|rN<|aT<|rM J J<|rM J J<|rM J J<|ae.qv (dm J) J<|aU h fun v1 e1 h=>eB J (mL e1) cR (.cons .p0 .nil) J J<|aU h fun v2 e2 h=>ae.qv (bS J J J e2 J J) J<|ae.qv (aR J J J) J<|rA J J<|rN<|ab.ret<|?_
 cases h
 exact hH J [0] J ⟨J,J⟩
theorem y8 [GI:ck] {aa:Int} {r:Version} (h:whole aa=r):Pu Tryz.prog 15 [I aa] (Version.av r):=by
 unfold whole at h
 refine aY.ch Tryz.func15 J Tryz.ntmps15 Tryz.results15 J J ?_
 refine aT<|bY J J J J fun b1=>rN<|aT<|rM J J<|ae.qv (da J J J J J) J<|aI J J J J .p0 J J<|rN<|ab.ret<|?_
 obtain rfl:=h
 exact aq.here ⟨_,.cons (.all _ _ _ _ _ _ J .p0 aF.h aZ.h J J) .nil,J⟩
theorem qP [GI:ck] {cU:Bk} {aa:an} {ai:Int} {r:Bool×an} (h:kN aa ai=some r):aY Tryz.prog 18 [.ptr cU 0,I ai] [(cU,.cells [mz aa.L,I aa.at_])] (T0 ([(cU,.cells [mz r.2.L,I r.2.at_])]) (.bool r.1)):=by
 unfold kN at h
 refine aY.lD ?_
 refine aY.ch Tryz.func18 J Tryz.ntmps18 Tryz.results18 J J ?_
 refine aT<|rA J J<|rN<|aT<|rM J J<|rM J J<|aU h fun v1 e1 h=>eB J (mL e1) cR (.cons .p0 .nil) J J<|ae.qv (fY J J) J<|rA J J<|rN<|ab.ret<|?_
 cases h
 exact hH J [0] J ⟨J,J⟩
theorem vd [GI:ck] {cU:Bk} {aa:an} {r:Campaign×an} (h:iJ aa=some r):aY Tryz.prog 4 [.ptr cU 0] [(cU,.cells [mz aa.L,I aa.at_])] (T1 (fun Cx=>[(cU,.cells [mz r.2.L,I r.2.at_]),(Cx,Wj r.1.aG)]) (fun Cx=>.agg [.str r.1.Key,I r.1.Target.ax,I r.1.Target.aA,I r.1.Target.aC,I r.1.At,.sl 4 Cx 0 r.1.aG.length,I r.1.bb.cr,I r.1.bb.To,I r.1.Room])):=by
 unfold iJ at h
 refine aY.lD ?_
 refine aY.ch Tryz.func4 J Tryz.ntmps4 Tryz.results4 J J ?_
 refine aT<|bY J J J J fun b1=>rN<|aT<|rM J J<|bf (xs:=([([99]:bq),([107]:bq),([122,57]:bq)]).map AV.str) J J J J J J<|aU h fun v2 e1 h=>eB J (xQ e1) cR (.cons .p1 .nil) J J<|rM J J<|bf (xs:=([2,3,4]).map I) J J J J J J<|aU h fun v3 e2 h=>eB J (fg e2) cR (.cons .p0 .nil) J J<|bl J (y8 J) cR J<|rM J J<|bf (xs:=([0,10,100]).map I) J J J J J J<|aU h fun v4 e3 h=>eB J (fg e3) cR (.cons .p0 .nil) J J<|rM J J<|bf (xs:=([1,2,5]).map I) J J J J J J<|aU h fun v5 e4 h=>eB J (fg e4) cR (.cons .p0 .nil) J J<|ae.qv (da J J J J J) J<|bY J J J J fun b6=>aI J J J J .p0 J J<|rN<|aT<|bf (xs:=([1000]).map I) J J J J J J<|bf (xs:=([500,500]).map I) J J J J J J<|bf (xs:=([200,300,500]).map I) J J J J J J<|bf (xs:=([100,900]).map I) J J J J J J<|bf (xs:=([[1000],[500,500],[200,300,500],[100,900]]).map (K1 1 I)) J J J J J J<|rM J J<|aU h fun v7 e5 h=>eB J (mL e5) cR (.cons .p1 .nil) J J<|aU h fun v8 e6 h=>ae.qv (bS J J J e6 J J) J<|ae.qv (aR J J J) J<|rA J J<|rN<|tS<|aT<|rM J J<|ae.qv (dm J) J<|rM J J<|rN<|ab.block<|ab.dR (fun x:(List Int)×Int×(List iz)×Int=>gg v2 v3 v4 v5 v8 x.1 x.2.1 x.2.2.1 x.2.2.2) (fun x aS=>∃ (Di:Bk),aS=⟨64,[(0,.ptr cU 0),(2,.ptr b1 0),(3,.ptr b6 0),(30,mz v8),(31,I (v8.length:Int)),(32,I x.2.2.2)],[(cU,.cells [mz x.1,I x.2.1]),(b1,.cells [.str [],I 0,I 0,I 0,I 0,.nil,I 0,I 0,I 0]),(b6,.cells [.str v2.1,I ((whole v3.1).ax),I ((whole v3.1).aA),I ((whole v3.1).aC),I v4.1,.sl 4 Di 0 x.2.2.1.length,I 0,I 0,I v5.1]),(Di,Wj x.2.2.1)]⟩) h ?_ ?_
 ·exact aq.IF (j:=5) 4 (fun _=>.p1) J (fun _=>J) (fun _=>J) fun Bl=>aq.lq [1,2,1,0] ⟨Bl,J⟩ J J
 ·intro x z1 aS J1 gS h mD gN
  obtain ⟨yk,n15,ud,n18⟩:=x
  obtain ⟨Di,rfl⟩:=gS
  replace h:gg v2 v3 v4 v5 v8 yk n15 ud n18=some z1:=h
  unfold gg at h
  refine aT<|ae.qv (cJ J J) J<|rN<|tS<|cD h J (fun h=>?_) (fun h=>?_)
  ·refine tK<|tS<|ab.block<|aT<|aU h fun v20 e7 h=>ae.qv (bS J J J e7 J J) J<|ae.qv (aR J J J) J<|rA J J<|rN<|aU h fun v21 e8 h=>aU h fun v22 e9 h=>aU h fun v23 Cy h=>ab.mh (id:=6) (A:=[0,1,0,0,0,24,0,0,248,0,0,2040,4092,8188,16383,32767,65535]) (H0:=[(cU,.cells [mz yk,I n15])]) (HH:=fun β=>[(cU,.cells [mz v23.2.L,I v23.2.at_]),(b1,.cells [.str [],I 0,I 0,I 0,I 0,.nil,I 0,I 0,I 0]),(b6,.cells [.str v2.1,I ((whole v3.1).ax),I ((whole v3.1).aA),I ((whole v3.1).aC),I v4.1,.sl 4 Di 0 ud.length,I 0,I 0,I v5.1]),(Di,Wj ud)]) 14 mixed J (by kernel_rfl) (by kernel_rfl) [⟨none,some 5,[],fun _=>(cU,.cells [mz yk,I n15]),none,[]⟩,⟨some 5,some 8,[],fun _=>(cU,.cells [mz v21.2.L,I v21.2.at_]),none,[]⟩,⟨some 8,some 11,[],fun _=>(cU,.cells [mz v22.2.L,I v22.2.at_]),none,[]⟩,⟨some 11,none,[],fun _=>(cU,.cells [mz v23.2.L,I v23.2.at_]),none,[]⟩] [] J (by kernel_rfl) J (.cons .p0 .nil) (fun _=>J)<|AT.am 5 J J<|AM.qv (aB J J) J<|AM.qv (aJ J J .p1 J) J<|AM.qv (aX J) J<|AM.qv (aX J) J<|AM.dt (xs:=([0,0,10,30]).map I) J J J J J J<|AM.nil<|AT.ID (av:=I v21.1) (Ti:=[(cU,.cells [mz yk,I n15])]) (Pi:=[(cU,.cells [mz v21.2.L,I v21.2.at_])]) (fun _=>J) (fun _=>J) (fun _=>J) J J J ?_ ?_
   ·exact eB J (fg e8) cR (.cons .p0 .nil) J J<|ae.nil ⟨_,J,J⟩
   refine AT.am 2 J J<|AM.qv (aX J) J<|AM.dt (xs:=([1,1,2,3]).map I) J J J J J J<|AM.nil<|AT.ID (av:=I v22.1) (Ti:=[(cU,.cells [mz v21.2.L,I v21.2.at_])]) (Pi:=[(cU,.cells [mz v22.2.L,I v22.2.at_])]) (fun _=>J) (fun _=>J) (fun _=>J) J J J ?_ ?_
   ·exact eB J (fg e9) cR (.cons .p0 .nil) J J<|ae.nil ⟨_,J,J⟩
   refine AT.am 2 J J<|AM.qv (aX J) J<|AM.dt (xs:=([0,300,500,1000]).map I) J J J J J J<|AM.nil<|AT.ID (av:=I v23.1) (Ti:=[(cU,.cells [mz v22.2.L,I v22.2.at_])]) (Pi:=[(cU,.cells [mz v23.2.L,I v23.2.at_])]) (fun _=>J) (fun _=>J) (fun _=>J) J J J ?_ ?_
   ·exact eB J (fg Cy) cR (.cons .p0 .nil) J J<|ae.nil ⟨_,J,J⟩
   refine AT.am 2 J J<|AM.qv (da J J J J J) J<|AM.dt (xs:=([(⟨v20,v21.1,v22.1,v23.1⟩:iz)]).map iz.av) J J J J J J<|AM.nil<|AT.yd (fun _=>J) fun β=>aU h fun AK Hg h=>fO (g:=iz.av) J J J J J J J J (.list _) Hg (fun _=>.p3) J fun Ph=>rF J J J<|aI J J J J .p2 J J<|rN<|ab.dp<|tR<|ae.qv (bQ J J) J<|rM J J<|rN<|ab.stop<|?_
   cases h
   exact mD _ _ J<|aq.lq [0,0,0,0] ⟨Ph,J⟩ J J
  ·refine ab.exit J<|have h:=cW h gN;?_
   unfold lG at h
   refine tS<|aT<|rM J J<|aU h fun v26 I9 h=>eB J (qP I9) cR (.cons .p0 .nil) J J<|rN<|ab.cut (fun aS=>∃ (AJ:List Int) (n28:Int) (n29:Int) (n30:Int),gd v2 v3 v4 v5 ud AJ n28 n29 n30=some r∧aS=⟨64,[(2,.ptr b1 0),(3,.ptr b6 0)],[(cU,.cells [mz AJ,I n28]),(b1,.cells [.str [],I 0,I 0,I 0,I 0,.nil,I 0,I 0,I 0]),(b6,.cells [.str v2.1,I ((whole v3.1).ax),I ((whole v3.1).aA),I ((whole v3.1).aC),I v4.1,.sl 4 Di 0 ud.length,I n29,I n30,I v5.1]),(Di,Wj ud)]⟩) ?_ ?_
   ·refine cB h J (fun h=>?_) (fun h=>?_)
    ·exact tR<|rM J J<|bf (xs:=([0,50,3600000]).map I) J J J J J J<|aU h fun v31 R5 h=>eB J (fg R5) cR (.cons .p0 .nil) J J<|rM J J<|bf (xs:=([0,40,200,86400000]).map I) J J J J J J<|aU h fun v32 ZF h=>eB J (fg ZF) cR (.cons .p0 .nil) J J<|ae.qv (da J J J J J) J<|rF J J J<|aI J J J J .p2 J J<|rN<|ab.stop<|aq.lq [0,0,0,0] ⟨v32.2.L,v32.2.at_,v31.1,v32.1,h,J⟩ J J
    ·exact tK<|ab.stop<|aq.lq [0,0,0,0] ⟨v26.2.L,v26.2.at_,0,0,h,J⟩ J J
   ·rintro aS ⟨AJ,n28,n29,n30,h,rfl⟩
    unfold gd at h
    refine aT<|ae.qv (aH J J .p2 J) J<|aI J J J J .p1 J J<|rN<|ab.ret<|?_
    cases h
    exact aq.here ⟨_,.cons (.all _ _ _ _ _ _ J .p1 aF.h aZ.h J J) .nil,_,.cons .p0 (.cons .p2 .nil),⟨Di,J,J⟩⟩
theorem Cz [GI:ck] {cU:Bk} {aa:an} {ai aL:Int} {r:Int×an} (h:nG aa ai aL=some r):aY Tryz.prog 19 [.ptr cU 0,I ai,I aL] [(cU,.cells [mz aa.L,I aa.at_])] (T0 ([(cU,.cells [mz r.2.L,I r.2.at_])]) (I r.1)):=by
 unfold nG at h
 refine aY.lD ?_
 refine aY.ch Tryz.func19 J Tryz.ntmps19 Tryz.results19 J J ?_
 refine aT<|rA J J<|rN<|tS<|aT<|rM J J<|rM J J<|ae.qv (cJ J J) J<|rN<|cD h J (fun h=>?_) (fun h=>?_)
 ·refine aT<|rM J J<|rA J J<|rN<|ab.ret<|?_
  cases h
  exact hH J [0] J ⟨J,J⟩
 ·refine tK<|aT<|rM J J<|rM J J<|rM J J<|rM J J<|ae.qv (iY J J) J<|ae.qv (bQ J J) J<|aU h fun v1 e1 h=>eB J (mL e1) cR (.cons .p0 .nil) J J<|ae.qv (bQ J J) J<|rA J J<|rN<|ab.ret<|?_
  cases h
  exact hH J [0] J ⟨J,J⟩
theorem vC [GI:ck] {aa:Int} {r:Bool} (h:cmp_isNaN_int aa=r):Pu Tryz.prog 85 [I aa] (.bool r):=by
 unfold cmp_isNaN_int at h
 refine aY.ch Tryz.func85 J Tryz.ntmps85 Tryz.results85 J J ?_
 refine aT<|rA J J<|rN<|aT<|rM J J<|rM J J<|ae.qv (kr J J) J<|rA J J<|rN<|ab.ret<|?_
 obtain rfl:=h
 exact hP J J
theorem dN [GI:ck] {aa ai r:Int} (h:cmp_Compare_int aa ai=r):Pu Tryz.prog 65 [I aa,I ai] (I r):=by
 unfold cmp_Compare_int at h
 refine aY.ch Tryz.func65 J Tryz.ntmps65 Tryz.results65 J J ?_
 refine aT<|rA J J<|rN<|aT<|rM J J<|bl J (vC J) cR J<|rA J J<|rN<|aT<|rM J J<|bl J (vC J) cR J<|rA J J<|rN<|tS<|aT<|rM J J<|rN<|cB h J (fun h=>?_) (fun h=>?_)
 ·refine tS<|aT<|rM J J<|rN<|cB h J (fun h=>?_) (fun h=>?_)
  ·refine aT<|rA J J<|rN<|ab.ret<|?_
   obtain rfl:=h
   exact hP J J
  ·refine tK<|aT<|rA J J<|rN<|ab.ret<|?_
   obtain rfl:=h
   exact hP J J
 ·refine tK<|tS<|aT<|rM J J<|rN<|cB h J (fun h=>?_) (fun h=>?_)
  ·refine aT<|rA J J<|rN<|ab.ret<|?_
   obtain rfl:=h
   exact hP J J
  ·refine tK<|tS<|aT<|rM J J<|rM J J<|ae.qv (cJ J J) J<|rN<|cD h J (fun h=>?_) (fun h=>?_)
   ·refine aT<|rA J J<|rN<|ab.ret<|?_
    obtain rfl:=h
    exact hP J J
   ·refine tK<|tS<|aT<|rM J J<|rM J J<|ae.qv (jj J J) J<|rN<|cD h J (fun h=>?_) (fun h=>?_)
    ·refine aT<|rA J J<|rN<|ab.ret<|?_
     obtain rfl:=h
     exact hP J J
    ·refine tK<|aT<|rA J J<|rN<|ab.ret<|?_
     obtain rfl:=h
     exact hP J J
theorem ue [GI:ck] {aa ai:List Int} {r:Int} (h:ed aa ai=some r):Pu Tryz.prog 44 [mz aa,mz ai] (I r):=by
 unfold ed at h
 refine aY.ch Tryz.func44 J Tryz.ntmps44 Tryz.results44 J J ?_
 refine aT<|rA J J<|rN<|tS<|aT<|rM J J<|ae.qv (dm J) J<|rM J J<|rN<|ab.block<|ab.dR (fun x:Int=>br aa ai x) (fun x aS=>aS=⟨36,[(0,mz aa),(1,mz ai),(9,mz aa),(10,I (aa.length:Int)),(11,I x)],[]⟩) h ?_ ?_
 ·exact aq.lq [] J J J
 ·intro n2 z1 aS J1 gS h mD gN
  obtain rfl:=gS
  replace h:br aa ai n2=some z1:=h
  unfold br at h
  refine aT<|ae.qv (cJ J J) J<|rN<|tS<|cD h J (fun h=>?_) (fun h=>?_)
  ·refine tK<|tS<|ab.block<|aT<|rM J J<|aU h fun v3 e1 h=>ae.qv (bS J J J e1 J J) J<|ae.qv (aR J J J) J<|rA J J<|rA J J<|rN<|tS<|aT<|rM J J<|rM J J<|ae.qv (dm J) J<|ae.qv (ri J J) J<|rN<|cD h J (fun h=>?_) (fun h=>?_)
   ·refine aT<|rA J J<|rN<|ab.ret<|have h:=cW h gN;?_
    cases h
    exact hP J J
   ·refine tK<|aT<|rM J J<|rM J J<|aU h fun v4 e2 h=>ae.qv (bS J J J e2 J J) J<|ae.qv (aR J J J) J<|rA J J<|rN<|aT<|rM J J<|rM J J<|bl J (dN J) cR J<|rA J J<|rN<|aT<|rM J J<|ae.qv (kr J J) J<|rN<|cD h J (fun h=>?_) (fun h=>?_)
    ·refine aT<|rM J J<|rA J J<|rN<|ab.ret<|have h:=cW h gN;?_
     cases h
     exact hP J J
    ·refine tK<|ab.dp<|tR<|ae.qv (bQ J J) J<|rM J J<|rN<|ab.stop<|?_
     cases h
     exact mD _ _ J<|aq.lq [] J J J
  ·refine ab.exit J<|have h:=cW h gN;?_
   unfold gW at h
   refine tS<|aT<|rM J J<|ae.qv (dm J) J<|rM J J<|ae.qv (dm J) J<|ae.qv (cJ J J) J<|rN<|cD h J (fun h=>?_) (fun h=>?_)
   ·refine aT<|rA J J<|rN<|ab.ret<|?_
    cases h
    exact hP J J
   ·refine tK<|aT<|rA J J<|rN<|ab.ret<|?_
    cases h
    exact hP J J
theorem zX [GI:ck] {aa ai:Version} {r:Int} (h:fP aa ai=some r):Pu Tryz.prog 20 [Version.av aa,Version.av ai] (I r):=by
 unfold fP at h
 refine aY.ch Tryz.func20 J Tryz.ntmps20 Tryz.results20 J J ?_
 refine aT<|eA J J J J fun b1=>eA J J J J fun b2=>rA J J<|rN<|aT<|rF J J J<|rL J J .p1 J J<|rF J J J<|rL J J .p1 J J<|rF J J J<|rL J J .p1 J J<|bf (xs:=([aa.ax,aa.aA,aa.aC]:List Int).map I) J J J J J J<|rF J J J<|rL J J .p0 J J<|rF J J J<|rL J J .p0 J J<|rF J J J<|rL J J .p0 J J<|bf (xs:=([ai.ax,ai.aA,ai.aC]:List Int).map I) J J J J J J<|aU h fun v3 e1 h=>bl J (ue e1) cR J<|rA J J<|rN<|ab.ret<|?_
 cases h
 exact hP J J
theorem wC [GI:ck] {cU:Bk} {aa:an} {r:(List ar)×an} (h:jW aa=some r):aY Tryz.prog 5 [.ptr cU 0] [(cU,.cells [mz aa.L,I aa.at_])] (T1 (fun oN=>[(cU,.cells [mz r.2.L,I r.2.at_]),(oN,yB r.1)]) (fun oN=>.sl 6 oN 0 r.1.length)):=by
 unfold jW at h
 refine aY.lD ?_
 refine aY.ch Tryz.func5 J Tryz.ntmps5 Tryz.results5 J J ?_
 refine aT<|rA J J<|rN<|aT<|rA J J<|rN<|tS<|aT<|rA J J<|rN<|ab.block<|ab.dR (fun x:(List Int)×Int×(List ar)×Int=>ij x.1 x.2.1 x.2.2.1 x.2.2.2) (fun x aS=>∃ (b8:Bk),aS=⟨99,[(0,.ptr cU 0),(3,.sl 6 b8 0 x.2.2.1.length),(4,I x.2.2.2)],[(cU,.cells [mz x.1,I x.2.1]),(b8,yB x.2.2.1)]⟩) h ?_ ?_
 ·exact aq.arr (s:=3) 6 J fun Fk=>aq.lq [1,0] ⟨Fk,J⟩ J J
 ·intro x z1 aS J1 gS h mD gN
  obtain ⟨l6,n7,l9,n10⟩:=x
  obtain ⟨b8,rfl⟩:=gS
  replace h:ij l6 n7 l9 n10=some z1:=h
  unfold ij at h
  refine tS<|aT<|rM J J<|ae.qv (sM J J) J<|rN<|cD h J (fun h=>?_) (fun h=>?_)
  ·refine tK<|tS<|ab.block<|aT<|bf (xs:=([0,5]).map I) J J J J J J<|ae.qv (dm J) J<|rM J J<|rN<|ab.block<|ab.dR (fun x:(List Int)×Int×(List ar)×Int=>ig n10 x.1 x.2.1 x.2.2.1 x.2.2.2) (fun x aS=>∃ (Bl:Bk),aS=⟨99,[(0,.ptr cU 0),(3,.sl 6 Bl 0 x.2.2.1.length),(4,I n10),(14,mz [0,5]),(15,I ([0,5].length:Int)),(16,I x.2.2.2)],[(cU,.cells [mz x.1,I x.2.1]),(Bl,yB x.2.2.1)]⟩) h ?_ ?_
   ·exact aq.lq [0,0] ⟨b8,J⟩ J J
   ·intro x z2 aS J2 gS h DA AL
    obtain ⟨ud,n18,ja,n21⟩:=x
    obtain ⟨Bl,rfl⟩:=gS
    replace h:ig n10 ud n18 ja n21=some z2:=h
    unfold ig at h
    refine aT<|ae.qv (cJ J J) J<|rN<|tS<|cD h J (fun h=>?_) (fun h=>?_)
    ·refine tK<|tS<|ab.cut (fun aS=>∃ (F5:Bk) (Du:List Int) (n23:Int) (sJ:List ar),fK n21 Du n23 sJ=some z2∧aS=⟨99,[(0,.ptr cU 0),(3,.sl 6 F5 0 sJ.length),(4,I n10),(14,mz [0,5]),(15,I ([0,5].length:Int)),(16,I n21)],[(cU,.cells [mz Du,I n23]),(F5,yB sJ)]⟩) ?_ ?_
     ·refine ab.block<|aT<|aU h fun v26 e1 h=>ae.qv (bS J J J e1 J J) J<|ae.qv (aR J J J) J<|rA J J<|rN<|tS<|aT<|rM J J<|aU h fun jV e2 h=>eB J (qP e2) cR (.cons .p0 .nil) J J<|rN<|cB h J (fun h=>?_) (fun h=>?_)
      ·exact ab.exit J<|ab.stop<|aq.lq [0,0] ⟨Bl,jV.2.L,jV.2.at_,ja,h,J⟩ J J
      ·refine tK<|tS<|aU h fun v28 e3 h=>aU h fun yZ e4 h=>aU h fun v30 e5 h=>ab.mh (id:=9) (A:=[0,0,3,0,0,0,0,120,0,256,1016,2040,0,0,13056,32767,0,131071]) (H0:=[(cU,.cells [mz jV.2.L,I jV.2.at_])]) (HH:=fun β=>[(cU,.cells [mz v30.2.L,I v30.2.at_]),((β 16),.cells [I 0,I 0,I 0,.nil,.nil,I 0]),(Bl,yB ja)]) 17 mixed J (by kernel_rfl) (by kernel_rfl) [⟨none,some 9,[],fun _=>(cU,.cells [mz jV.2.L,I jV.2.at_]),none,[]⟩,⟨some 9,some 14,[],fun _=>(cU,.cells [mz v28.2.L,I v28.2.at_]),none,[]⟩,⟨some 14,none,[],fun _=>(cU,.cells [mz v30.2.L,I v30.2.at_]),none,[]⟩,⟨some 16,none,[],fun b=>(b,.cells [I 0,I 0,I 0,.nil,.nil,I 0]),none,[]⟩] [16] J (by kernel_rfl) J (.cons .p0 .nil) (fun _=>J)<|AT.am 9 J J<|AM.qv (aX J) J<|AM.qv (aX J) J<|AM.qv (da J J J J J) J<|AM.dt (xs:=([([109]:bq)]).map AV.str) J J J J J J<|AM.dt (xs:=([([109]:bq)]).map AV.str) J J J J J J<|AM.dt (xs:=([([109]:bq),([110]:bq)]).map AV.str) J J J J J J<|AM.dt (xs:=([([110]:bq)]).map AV.str) J J J J J J<|AM.dt (xs:=([[([109]:bq)],[([109]:bq)],[([109]:bq),([110]:bq)],[([110]:bq)]]).map (K1 1 AV.str)) J J J J J J<|AM.qv (aX J) J<|AM.nil<|AT.ID (av:=I v28.1) (Ti:=[(cU,.cells [mz jV.2.L,I jV.2.at_])]) (Pi:=[(cU,.cells [mz v28.2.L,I v28.2.at_])]) (fun _=>J) (fun _=>J) (fun _=>J) J J J ?_ ?_
       ·exact eB J (mL e3) cR (.cons .p0 .nil) J J<|ae.nil ⟨_,J,J⟩
       refine AT.am 4 J J<|AM.qv (bS J J J e4 J J) J<|AM.qv (aR J J J) J<|AM.qv (aX J) J<|AM.dt (xs:=([1,5,5,10]).map I) J J J J J J<|AM.nil<|AT.ID (av:=I v30.1) (Ti:=[(cU,.cells [mz v28.2.L,I v28.2.at_])]) (Pi:=[(cU,.cells [mz v30.2.L,I v30.2.at_])]) (fun _=>J) (fun _=>J) (fun _=>J) J J J ?_ ?_
       ·exact eB J (fg e5) cR (.cons .p0 .nil) J J<|ae.nil ⟨_,J,J⟩
       refine AT.am 1 J J<|AM.qv (da J J J J J) J<|AM.nil<|AT.yO (V:=fun b=>.ptr b 0) (Ti:=[]) (Pi:=fun b=>[(b,.cells [I 0,I 0,I 0,.nil,.nil,I 0])]) (fun _=>J) (fun _=>J) (fun _ _=>J) J (fun _=>J) J J J ?_ ?_
       ·exact bY J J J J fun Pj=>ae.nil ⟨Pj,_,J,J⟩
       refine AT.yd (fun _=>J) fun β=>?_
       generalize β 16=Pj
       clear β
       refine aI J J J J .p1 J J<|rN<|aT<|rM J J<|rM J J<|ae.qv (iY J J) J<|aU h fun v32 e6 h=>eB J (Cz e6) cR (.cons .p0 .nil) J J<|rA J J<|rN<|aT<|rM J J<|bl J (y8 J) cR J<|rM J J<|ae.qv (iY J J) J<|rM J J<|bf (xs:=([0,5,9999]).map I) J J J J J J<|aU h fun v33 e7 h=>eB J (fg e7) cR (.cons .p0 .nil) J J<|ae.qv (da J J J J J) J<|ae.qv (da J J J J J) J<|bY J J J J fun R6=>aI J J J J .p0 J J<|rN<|tS<|tS<|ab.cut (fun aS=>∃ (qh:List Int) (n36:Int) (c37:Bool),ie n10 ja n21 v26 yZ v30 v32 v33 qh n36 c37=some z2∧aS=⟨99,[(0,.ptr cU 0),(3,.sl 6 Bl 0 ja.length),(4,I n10),(7,.ptr Pj 0),(8,I v32.1),(9,.ptr R6 0),(14,mz [0,5]),(15,I ([0,5].length:Int)),(16,I n21),(56,.bool c37)],[(cU,.cells [mz qh,I n36]),(Bl,yB ja),(Pj,.cells [I n10,I v26,I 0,y7 yZ,.nil,I v30.1]),(R6,.cells [I ((whole v32.1).ax),I ((whole v32.1).aA),I ((whole v32.1).aC),I (bA (n10 - 1)),I v33.1,I 9999])]⟩) ?_ ?_
       ·refine tR<|rM J J<|aU h fun zG e8 h=>eB J (qP e8) cR (.cons .p1 .nil) J J<|rM J J<|ae.guard J J J (fun hc=>?_) (fun hc=>?_)
        ·rw [AE hc] at h
         exact rM J J<|rY J J J<|ae.qv (fY J J) J<|rT J J J<|rN<|ab.stop<|aq.lq [0,2,1,0] ⟨zG.2.L,zG.2.at_,decide (v26=5),h,J⟩ J J
        ·rw [AF hc] at h
         exact rG J J J J<|rE J J J<|rN<|ab.stop<|aq.lq [0,2,1,0] ⟨zG.2.L,zG.2.at_,false,h,J⟩ J J
       ·rintro aS ⟨qh,n36,c37,h,rfl⟩
        unfold ie at h
        refine ab.cut (fun aS=>∃ (Ja:Bk) (H9:List Range) (n41:Int) (n42:Int) (n43:Int) (n44:Int) (n45:Int),fN n10 ja n21 v26 yZ v30 qh n36 H9 n41 n42 n43 n44 n45=some z2∧aS=⟨99,[(0,.ptr cU 0),(3,.sl 6 Bl 0 ja.length),(4,I n10),(7,.ptr Pj 0),(9,.ptr R6 0),(14,mz [0,5]),(15,I ([0,5].length:Int)),(16,I n21)],[(cU,.cells [mz qh,I n36]),(Bl,yB ja),(Pj,.cells [I n10,I v26,I 0,y7 yZ,.sl 6 Ja 0 H9.length,I v30.1]),(Ja,ZE H9),(R6,.cells [I n41,I n42,I n43,I n44,I n45,I 9999])]⟩) ?_ ?_
        ·refine cB h J (fun h=>?_) (fun h=>?_)
         ·exact tS<|ab.di (id:=13) (A:=[0,1,0,4,0,28,60,124,255,511,1023]) 8 mixed J (by kernel_rfl) (by kernel_rfl)<|AM.qv (aB J J) J<|AM.qv (aJ J J .p2 J) J<|AM.qv (aX J) J<|AM.kA J (y8 J) cR J<|AM.qv (aX J) J<|AM.kA J (y8 J) cR J<|AM.qv (da J J J J J) J<|AM.dt (xs:=([(⟨(whole v32.1),(whole v32.1)⟩:Range)]).map Range.av) J J J J J J<|AM.nil<|aU h fun Ia e9 h=>K2 (g:=Range.av) J J J J J J J J (.list _) e9 fun Nw=>rF J J J<|aI J J J J .p3 J J<|rN<|tR<|rM J J<|bl J (y8 J) cR J<|rM J J<|ae.qv (da J J J J J) J<|ae.qv (da J J J J J) J<|aI J J J J .p4 J J<|rN<|ab.stop<|aq.lq [1,1,1,0,0] ⟨Nw,Ia,(whole n10).ax,(whole n10).aA,(whole n10).aC,n10,4,h,J⟩ J J
         ·exact tK<|ab.stop<|aq.IF (j:=4) 6 (fun _=>.p2) J (fun _=>J) (fun _=>J) fun US=>aq.lq [1,1,1,0,0] ⟨US,[],(whole v32.1).ax,(whole v32.1).aA,(whole v32.1).aC,bA (n10 - 1),v33.1,h,J⟩ J J
        ·rintro aS ⟨Ja,H9,n41,n42,n43,n44,n45,h,rfl⟩
         unfold fN at h
         refine tS<|tS<|ab.cut (fun aS=>∃ (c49:Bool),fM n10 ja n21 v26 yZ v30 qh n36 H9 n41 n42 n43 n44 n45 c49=some z2∧aS=⟨99,[(0,.ptr cU 0),(3,.sl 6 Bl 0 ja.length),(4,I n10),(7,.ptr Pj 0),(9,.ptr R6 0),(14,mz [0,5]),(15,I ([0,5].length:Int)),(16,I n21),(86,.bool c49)],[(cU,.cells [mz qh,I n36]),(Bl,yB ja),(Pj,.cells [I n10,I v26,I 0,y7 yZ,.sl 6 Ja 0 H9.length,I v30.1]),(Ja,ZE H9),(R6,.cells [I n41,I n42,I n43,I n44,I n45,I 9999])]⟩) ?_ ?_
         ·refine ab.di (id:=15) (A:=[0,1,3,7,15,31,63,127,255,511,31,1055,4095,8191,16383]) 15 mixed J (by kernel_rfl) (by kernel_rfl)<|AM.qv (aB J J) J<|AM.qv (aJ J J .p2 J) J<|AM.qv (iH J) J<|AM.qv (fY J J) J<|AM.qv (aX J) J<|AM.ek J J J (fun hc=>?_) (fun hc=>?_)
          ·exact have h:=Be hc h;AM.qv (aB J J) J<|AM.aD J J J<|AM.qv (aJ J J .p2 J) J<|AM.aD J J J<|aU h fun v50 Cy h=>AM.qv (cm J J J Cy) J<|AM.aD J J J<|AM.qv (yH J J) J<|AM.aD J J J<|AM.qv (zQ (g:=Range.av) J J (.inl .p3) Cy J J) J<|AM.aD J J J<|AM.qv (aB J J) J<|AM.aD J J J<|AM.qv (aP J J .p4 J J) J<|AM.aD J J J<|aU h fun v51 Hg h=>AM.kA J (zX Hg) cR J<|AM.aD J J J<|AM.qv (cJ J J) J<|AM.qv (eQ J J) J<|AM.nil<|rN<|ab.stop<|aq.lq [0,0,0,0,0] ⟨decide (v51 < 0),h,J⟩ J J
          ·exact have h:=rk hc h;AM.az J J J J<|AM.az J J J J<|AM.az J J J J<|AM.az J J J J<|AM.az J J J J<|AM.az J J J J<|AM.az J J J J<|AM.az J J J J<|AM.qv (gr J J) J<|AM.nil<|rN<|ab.stop<|aq.lq [0,0,0,0,0] ⟨true,h,J⟩ J J
         ·rintro aS ⟨c49,h,rfl⟩
          unfold fM at h
          refine ab.cut (fun aS=>∃ (Pk:Bk) (J8:List Range),fL n10 ja n21 v26 yZ v30 qh n36 J8=some z2∧aS=⟨99,[(0,.ptr cU 0),(3,.sl 6 Bl 0 ja.length),(4,I n10),(7,.ptr Pj 0),(14,mz [0,5]),(15,I ([0,5].length:Int)),(16,I n21)],[(cU,.cells [mz qh,I n36]),(Bl,yB ja),(Pj,.cells [I n10,I v26,I 0,y7 yZ,.sl 6 Pk 0 J8.length,I v30.1]),(Pk,ZE J8)]⟩) ?_ ?_
          ·refine cB h J (fun h=>?_) (fun h=>?_)
           ·exact tR<|rF J J J<|rL J J .p2 J J<|ae.qv (aH J J .p4 J) J<|bf (xs:=([(⟨(⟨n41,n42,n43⟩:Version),(⟨n44,n45,9999⟩:Version)⟩:Range)]).map Range.av) J J J J J J<|aU h fun F4 I9 h=>fO (g:=Range.av) J J J J J J J J (.list _) I9 (fun _=>.p3) J fun b55=>rF J J J<|aI J J J J .p2 J J<|rN<|ab.stop<|aq.lq [0,0,0,0] ⟨b55,F4,h,J⟩ J J
           ·exact tK<|ab.stop<|aq.lq [0,0,0,0] ⟨Ja,H9,h,J⟩ J J
          ·rintro aS ⟨Pk,J8,h,rfl⟩
           unfold fL at h
           exact tR<|rM J J<|ae.qv (aH J J .p2 J) J<|ae.ghost<|aq.freeze .p3<|aq.here<|bf (xs:=[.agg [I n10,I v26,I 0,y7 yZ,.sl 6 Pk 0 J8.length,I v30.1]]) J J J J J J<|ae.ghost<|aq.VH (s:=95) (rf:=.list 6 (([(⟨(⟨n10,v26,0⟩:Version),yZ,J8,v30.1⟩:ar)]:List ar).map ar.av)) J (By.RT (.cons .r (.cons .r (.cons .r (.cons .r (.cons (.co (Co.E5 .p3)) (.cons .r .nil)))))) J J)<|aq.here<|aU h fun ZD R5 h=>fO (g:=ar.av) J J J J J J J J (.list _) R5 (fun _=>.p1) J fun UT=>rA J J<|rN<|ab.dp<|ab.stop<|aq.lq [0,0] ⟨UT,qh,n36,ZD,h,J⟩ J J
     ·rintro aS ⟨F5,Du,n23,sJ,h,rfl⟩
      unfold fK at h
      refine tR<|ae.qv (bQ J J) J<|rM J J<|rN<|ab.stop<|?_
      cases h
      exact DA _ _ J<|aq.lq [0,0] ⟨F5,J⟩ J J
    ·refine ab.exit J<|have h:=cW h AL;ab.dp<|tR<|rM J J<|ae.qv (bQ J J) J<|rA J J<|rN<|ab.stop<|?_
     cases h
     exact mD _ _ J<|aq.lq [0,0] ⟨Bl,J⟩ J J
  ·refine ab.exit J<|have h:=cW h gN;aT<|rM J J<|rA J J<|rN<|ab.ret<|?_
   cases h
   exact hH J [0,0] J ⟨b8,J,J⟩
theorem xG [GI:ck] {cU:Bk} {aa:an} {ai:Int} {r:(List DeviceS)×an} (h:kO aa ai=some r):aY Tryz.prog 6 [.ptr cU 0,I ai] [(cU,.cells [mz aa.L,I aa.at_])] (T1 (fun oN=>[(cU,.cells [mz r.2.L,I r.2.at_]),(oN,I7 r.1)]) (fun oN=>.sl 7 oN 0 r.1.length)):=by
 unfold kO at h
 refine aY.lD ?_
 refine aY.ch Tryz.func6 J Tryz.ntmps6 Tryz.results6 J J ?_
 refine aT<|rA J J<|rN<|aT<|rA J J<|rN<|tS<|aT<|bf (xs:=([([100,49]:bq),([100,50]:bq),([100,51]:bq),([100,52]:bq),([100,53]:bq),([100,54]:bq)]).map AV.str) J J J J J J<|rM J J<|aU h fun l1 e1 h=>ae.qv (E4 J J .none (.some _ _ _ J) J J e1) J<|ae.qv (dm J) J<|rM J J<|rN<|ab.block<|ab.dR (fun x:(List Int)×Int×(List DeviceS)×Int=>iL l1 x.1 x.2.1 x.2.2.1 x.2.2.2) (fun x aS=>∃ (b9:Bk),aS=⟨36,[(0,.ptr cU 0),(5,.sl 7 b9 0 x.2.2.1.length),(10,y7 l1),(11,I (l1.length:Int)),(12,I x.2.2.2)],[(cU,.cells [mz x.1,I x.2.1]),(b9,I7 x.2.2.1)]⟩) h ?_ ?_
 ·exact aq.arr (s:=5) 7 J fun qd=>aq.lq [1,0] ⟨qd,J⟩ J J
 ·intro x z1 aS J1 gS h mD gN
  obtain ⟨l7,n8,l10,n11⟩:=x
  obtain ⟨b9,rfl⟩:=gS
  replace h:iL l1 l7 n8 l10 n11=some z1:=h
  unfold iL at h
  refine aT<|ae.qv (cJ J J) J<|rN<|tS<|cD h J (fun h=>?_) (fun h=>?_)
  ·refine tK<|tS<|ab.block<|aT<|aU h fun oZ e2 h=>ae.qv (bS J J J e2 J J) J<|ae.qv (aR J J J) J<|rA J J<|rN<|aT<|rM J J<|aU h fun rq e3 h=>eB J (qP e3) cR (.cons .p0 .nil) J J<|ae.qv (dc J) J<|rN<|ab.cut (fun aS=>∃ (qp:Bk) (BE:List Int) (n16:Int) (UO:List DeviceS),iK n11 BE n16 UO=some z1∧aS=⟨36,[(0,.ptr cU 0),(5,.sl 7 qp 0 UO.length),(10,y7 l1),(11,I (l1.length:Int)),(12,I n11)],[(cU,.cells [mz BE,I n16]),(qp,I7 UO)]⟩) ?_ ?_
   ·refine cB h J (fun h=>?_) (fun h=>?_)
    ·exact tR<|rM J J<|rM J J<|rM J J<|bf (xs:=([([109]:bq),([109]:bq),([109]:bq),([110]:bq)]).map AV.str) J J J J J J<|aU h fun kG e4 h=>eB J (xQ e4) cR (.cons .p0 .nil) J J<|rM J J<|bf (xs:=([1,1,1,2,3]).map I) J J J J J J<|aU h fun v20 e5 h=>eB J (fg e5) cR (.cons .p0 .nil) J J<|rM J J<|bf (xs:=([0,0,5]).map I) J J J J J J<|aU h fun v21 e6 h=>eB J (fg e6) cR (.cons .p0 .nil) J J<|ae.qv (da J J J J J) J<|ae.qv (da J J J J J) J<|bf (xs:=[.agg [.str oZ,.str kG.1,.str ([116]:bq),I v20.1,I v21.1,I 0,.nil]]) J J J J J J<|ae.ghost<|aq.VH (s:=32) (rf:=.list 7 (([(⟨oZ,kG.1,([116]:bq),(⟨v20.1,v21.1,0⟩:Version),[]⟩:DeviceS)]:List DeviceS).map DeviceS.av)) J (By.RT (.cons .r (.cons .r (.cons .r (.cons .r (.cons .r (.cons .r (.cons .n .nil))))))) J J)<|aq.here<|aU h fun Du e7 h=>fO (g:=DeviceS.av) J J J J J J J J (.list _) e7 (fun _=>.p1) J fun Wk=>rA J J<|rN<|ab.stop<|aq.lq [0,0] ⟨Wk,v21.2.L,v21.2.at_,Du,h,J⟩ J J
    ·exact tK<|ab.stop<|aq.lq [0,0] ⟨b9,rq.2.L,rq.2.at_,l10,h,J⟩ J J
   ·rintro aS ⟨qp,BE,n16,UO,h,rfl⟩
    unfold iK at h
    refine ab.dp<|tR<|ae.qv (bQ J J) J<|rM J J<|rN<|ab.stop<|?_
    cases h
    exact mD _ _ J<|aq.lq [0,0] ⟨qp,J⟩ J J
  ·refine ab.exit J<|have h:=cW h gN;aT<|rM J J<|rA J J<|rN<|ab.ret<|?_
   cases h
   exact hH J [0,0] J ⟨b9,J,J⟩
theorem lj [GI:ck] {aa:bq} {r:Bool} (h:jX aa=some r):Pu Tryz.prog 33 [.str aa] (.bool r):=by
 unfold jX at h
 refine aY.ch Tryz.func33 J Tryz.ntmps33 Tryz.results33 J J ?_
 refine aT<|rA J J<|rN<|tS<|tS<|ab.cut (fun aS=>∃ (c1:Bool),ni aa c1=some r∧aS=⟨54,[(0,.str aa),(21,.bool c1)],[]⟩) ?_ ?_
 ·refine tR<|rM J J<|ae.qv (Ge J J) J<|rM J J<|gF h J J J (fun h=>?_) (fun h=>?_)
  ·refine rM J J<|rY J J J<|ae.qv (oS J) J<|rY J J J<|ae.qv (jj J J) J<|rE J J J<|rM J J<|gF h J J J (fun h=>?_) (fun h=>?_)
   ·refine rM J J<|rY J J J<|aU h fun c2 e1 h=>ae.qv (nd J J e1) J<|rY J J J<|ae.qv (cJ J J) J<|rE J J J<|rM J J<|gF h J J J (fun h=>?_) (fun h=>?_)
    ·exact rM J J<|rY J J J<|aU h fun c3 e2 h=>ae.qv (nd J J e2) J<|rY J J J<|ae.qv (jj J J) J<|rE J J J<|rN<|ab.stop<|aq.lq [] ⟨decide (122 < (c3.toNat:Int)),h,J⟩ J J
    ·exact rG J J J J<|rG J J J J<|rT J J J<|rN<|ab.stop<|aq.lq [] ⟨true,h,J⟩ J J
   ·exact rG J J J J<|rG J J J J<|rT J J J<|rM J J<|rG J J J J<|rG J J J J<|rG J J J J<|rT J J J<|rN<|ab.stop<|aq.lq [] ⟨true,h,J⟩ J J
  ·exact rG J J J J<|rG J J J J<|rT J J J<|rM J J<|rG J J J J<|rG J J J J<|rG J J J J<|rT J J J<|rM J J<|rG J J J J<|rG J J J J<|rG J J J J<|rT J J J<|rN<|ab.stop<|aq.lq [] ⟨true,h,J⟩ J J
 ·rintro aS ⟨c1,h,rfl⟩
  unfold ni at h
  refine cB h J (fun h=>?_) (fun h=>?_)
  ·refine aT<|rA J J<|rN<|ab.ret<|?_
   cases h
   exact hP J J
  ·refine tK<|tS<|aT<|rM J J<|ae.qv (oS J) J<|rM J J<|rN<|ab.block<|ab.dR (fun x:Int=>nh aa x) (fun x aS=>aS=⟨54,[(0,.str aa),(23,I (aa.length:Int)),(24,I x)],[]⟩) h ?_ ?_
   ·exact aq.lq [] J J J
   ·intro n5 z1 aS J1 gS h mD gN
    obtain rfl:=gS
    replace h:nh aa n5=some z1:=h
    unfold nh at h
    refine aT<|ae.qv (cJ J J) J<|rN<|tS<|cD h J (fun h=>?_) (fun h=>?_)
    ·refine tK<|tS<|ab.block<|aT<|rM J J<|rA J J<|rN<|aT<|rM J J<|rM J J<|aU h fun c6 e3 h=>ae.qv (nd J J e3) J<|rA J J<|rN<|tS<|ab.cut (fun aS=>∃ (c7:Bool),tF n5 c7=some z1∧aS=⟨54,[(0,.str aa),(23,I (aa.length:Int)),(24,I n5),(52,.bool c7)],[]⟩) ?_ ?_
     ·refine tR<|rM J J<|ae.qv (ri J J) J<|rM J J<|ae.dq J J J (fun hc=>?_) (fun hc=>?_)
      ·rw [if_pos hc] at h
       refine rM J J<|rY J J J<|ae.qv (sM J J) J<|rT J J J<|rM J J<|ae.ek J J J (fun hc=>?_) (fun hc=>?_)
       ·rw [if_neg hc] at h
        refine rM J J<|rY J J J<|ae.qv (ri J J) J<|rY J J J<|rM J J<|ae.dq J J J (fun hc=>?_) (fun hc=>?_)
        ·rw [if_pos hc] at h
         refine rM J J<|rY J J J<|ae.qv (sM J J) J<|rY J J J<|rT J J J<|rE J J J<|rM J J<|ae.ek J J J (fun hc=>?_) (fun hc=>?_)
         ·rw [if_neg hc] at h
          refine rM J J<|rY J J J<|ae.qv (fY J J) J<|rE J J J<|rM J J<|ae.ek J J J (fun hc=>?_) (fun hc=>?_)
          ·rw [if_neg hc] at h
           exact rM J J<|rY J J J<|ae.qv (fY J J) J<|rE J J J<|ae.qv (Bw J) J<|rN<|ab.stop<|aq.lq [] ⟨decide (¬ ((c6.toNat:Int)=95)),h,J⟩ J J
          ·rw [if_pos hc] at h
           exact rG J J J J<|rT J J J<|ae.qv (dc J) J<|rN<|ab.stop<|aq.lq [] ⟨!true,h,J⟩ J J
         ·rw [if_pos hc] at h
          exact rG J J J J<|rT J J J<|rM J J<|rG J J J J<|rG J J J J<|rT J J J<|ae.qv (dc J) J<|rN<|ab.stop<|aq.lq [] ⟨!true,h,J⟩ J J
        ·rw [if_neg hc] at h
         refine rG J J J J<|rY J J J<|rE J J J<|rE J J J<|rM J J<|rY J J J<|rM J J<|rY J J J<|ae.qv (fY J J) J<|rE J J J<|rM J J<|ae.ek J J J (fun hc=>?_) (fun hc=>?_)
         ·rw [if_neg hc] at h
          exact rM J J<|rY J J J<|ae.qv (fY J J) J<|rE J J J<|ae.qv (Bw J) J<|rN<|ab.stop<|aq.lq [] ⟨decide (¬ ((c6.toNat:Int)=95)),h,J⟩ J J
         ·rw [if_pos hc] at h
          exact rG J J J J<|rT J J J<|ae.qv (dc J) J<|rN<|ab.stop<|aq.lq [] ⟨!true,h,J⟩ J J
       ·rw [if_pos hc] at h
        exact rG J J J J<|rG J J J J<|ae.aV J J J<|ae.aV J J J<|rG J J J J<|rT J J J<|rM J J<|rG J J J J<|rG J J J J<|rT J J J<|rM J J<|rG J J J J<|rG J J J J<|rT J J J<|ae.qv (dc J) J<|rN<|ab.stop<|aq.lq [] ⟨!true,h,J⟩ J J
      ·rw [if_neg hc] at h
       refine rG J J J J<|rE J J J<|rM J J<|rY J J J<|rM J J<|rY J J J<|ae.qv (ri J J) J<|rY J J J<|rM J J<|ae.dq J J J (fun hc=>?_) (fun hc=>?_)
       ·rw [if_pos hc] at h
        refine rM J J<|rY J J J<|ae.qv (sM J J) J<|rY J J J<|rT J J J<|rE J J J<|rM J J<|ae.ek J J J (fun hc=>?_) (fun hc=>?_)
        ·rw [if_neg hc] at h
         refine rM J J<|rY J J J<|ae.qv (fY J J) J<|rE J J J<|rM J J<|ae.ek J J J (fun hc=>?_) (fun hc=>?_)
         ·rw [if_neg hc] at h
          exact rM J J<|rY J J J<|ae.qv (fY J J) J<|rE J J J<|ae.qv (Bw J) J<|rN<|ab.stop<|aq.lq [] ⟨decide (¬ ((c6.toNat:Int)=95)),h,J⟩ J J
         ·rw [if_pos hc] at h
          exact rG J J J J<|rT J J J<|ae.qv (dc J) J<|rN<|ab.stop<|aq.lq [] ⟨!true,h,J⟩ J J
        ·rw [if_pos hc] at h
         exact rG J J J J<|rT J J J<|rM J J<|rG J J J J<|rG J J J J<|rT J J J<|ae.qv (dc J) J<|rN<|ab.stop<|aq.lq [] ⟨!true,h,J⟩ J J
       ·rw [if_neg hc] at h
        refine rG J J J J<|rY J J J<|rE J J J<|rE J J J<|rM J J<|rY J J J<|rM J J<|rY J J J<|ae.qv (fY J J) J<|rE J J J<|rM J J<|ae.ek J J J (fun hc=>?_) (fun hc=>?_)
        ·rw [if_neg hc] at h
         exact rM J J<|rY J J J<|ae.qv (fY J J) J<|rE J J J<|ae.qv (Bw J) J<|rN<|ab.stop<|aq.lq [] ⟨decide (¬ ((c6.toNat:Int)=95)),h,J⟩ J J
        ·rw [if_pos hc] at h
         exact rG J J J J<|rT J J J<|ae.qv (dc J) J<|rN<|ab.stop<|aq.lq [] ⟨!true,h,J⟩ J J
     ·rintro aS ⟨c7,h,rfl⟩
      unfold tF at h
      refine cB h J (fun h=>?_) (fun h=>?_)
      ·refine aT<|rA J J<|rN<|ab.ret<|have h:=cW h gN;?_
       cases h
       exact hP J J
      ·refine tK<|ab.dp<|tR<|ae.qv (bQ J J) J<|rM J J<|rN<|ab.stop<|?_
       cases h
       exact mD _ _ J<|aq.lq [] J J J
    ·refine ab.exit J<|have h:=cW h gN;aT<|rA J J<|rN<|ab.ret<|?_
     cases h
     exact hP J J
theorem ei [GI:ck] {aa ai aL:Int} {r:Bool} (h:du aa ai aL=r):Pu Tryz.prog 25 [I aa,I ai,I aL] (.bool r):=by
 unfold du at h
 refine aY.ch Tryz.func25 J Tryz.ntmps25 Tryz.results25 J J ?_
 refine aT<|rA J J<|rN<|tS<|ab.cut (fun aS=>∃ (c1:Bool),wA c1=r∧aS=⟨15,[(6,.bool c1)],[]⟩) ?_ ?_
 ·refine tR<|rM J J<|rM J J<|ae.qv (cJ J J) J<|rM J J<|ae.ek J J J (fun hc=>?_) (fun hc=>?_)
  ·rw [yK hc] at h
   exact rM J J<|rY J J J<|rM J J<|rY J J J<|ae.qv (jj J J) J<|rE J J J<|rA J J<|rN<|ab.stop<|aq.lq [] ⟨decide (aL < aa),h,J⟩ J J
  ·rw [yJ hc] at h
   exact rG J J J J<|rG J J J J<|rT J J J<|rA J J<|rN<|ab.stop<|aq.lq [] ⟨true,h,J⟩ J J
 ·rintro aS ⟨c1,h,rfl⟩
  unfold wA at h
  refine ab.ret<|?_
  obtain rfl:=h
  exact hP J J
theorem iN [GI:ck] {aa:Version} {r:Bool} (h:fh aa=r):Pu Tryz.prog 45 [Version.av aa] (.bool r):=by
 unfold fh at h
 refine aY.ch Tryz.func45 J Tryz.ntmps45 Tryz.results45 J J ?_
 refine aT<|eA J J J J fun b1=>rA J J<|rN<|tS<|ab.cut (fun aS=>∃ (c2:Bool),oF c2=r∧aS=⟨19,[(2,.bool c2)],[]⟩) ?_ ?_
 ·refine tR<|rF J J J<|rL J J .p0 J J<|bl J (ei J) cR J<|ae.qv (dc J) J<|rM J J<|ae.guard J J J (fun hc=>?_) (fun hc=>?_)
  ·rw [AE hc] at h
   refine rF J J J<|rY J J J<|rL J J .p0 J J<|rY J J J<|bl J (ei J) cR J<|rY J J J<|ae.qv (dc J) J<|rT J J J<|rM J J<|ae.guard J J J (fun hc=>?_) (fun hc=>?_)
   ·rw [AE hc] at h
    exact rF J J J<|rY J J J<|rL J J .p0 J J<|rY J J J<|bl J (ei J) cR J<|rY J J J<|ae.qv (dc J) J<|rT J J J<|rA J J<|rN<|ab.stop<|aq.lq [] ⟨!(du aa.aC 0 9999),h,J⟩ J J
   ·rw [AF hc] at h
    exact rG J J J J<|rG J J J J<|rG J J J J<|rE J J J<|rA J J<|rN<|ab.stop<|aq.lq [] ⟨false,h,J⟩ J J
  ·rw [AF hc] at h
   exact rG J J J J<|rG J J J J<|rG J J J J<|rE J J J<|rM J J<|rG J J J J<|rG J J J J<|rG J J J J<|rG J J J J<|rE J J J<|rA J J<|rN<|ab.stop<|aq.lq [] ⟨false,h,J⟩ J J
 ·rintro aS ⟨c2,h,rfl⟩
  unfold oF at h
  refine ab.ret<|?_
  obtain rfl:=h
  exact hP J J
theorem qQ [GI:ck] {aa:Int} {r:Bool} (h:jE aa=r):Pu Tryz.prog 46 [I aa] (.bool r):=by
 unfold jE at h
 refine aY.ch Tryz.func46 J Tryz.ntmps46 Tryz.results46 J J ?_
 refine aT<|rA J J<|rN<|aT<|rM J J<|bl J (ei J) cR J<|ae.qv (dc J) J<|rA J J<|rN<|ab.ret<|?_
 obtain rfl:=h
 exact hP J J
theorem ll [GI:ck] {aa:Campaign} {r:Int} (h:bH aa=some r):Pu Tryz.prog 22 [Campaign.av aa] (I r):=by
 unfold bH at h
 refine aY.ch Tryz.func22 J Tryz.ntmps22 Tryz.results22 J J ?_
 refine aT<|eA J J J J fun b1=>rA J J<|rN<|tS<|ab.block<|aT<|rF J J J<|rL J J .p0 J J<|aU h fun v2 e1 h=>bl J (lj e1) cR J<|ae.qv (dc J) J<|rA J J<|rN<|cB h J (fun h=>?_) (fun h=>?_)
 ·refine aT<|rA J J<|rN<|ab.ret<|?_
  cases h
  exact hP J J
 ·refine tS<|ab.cut (fun aS=>∃ (c3:Bool),fC aa c3=some r∧aS=⟨81,[(1,.ptr b1 0),(11,.bool c3)],[(b1,.cells (Ty aa))]⟩) ?_ ?_
  ·refine tR<|rF J J J<|ae.qv (aP J J .p0 J J) J<|bl J (iN J) cR J<|ae.qv (dc J) J<|rM J J<|ae.guard J J J (fun hc=>?_) (fun hc=>?_)
   ·rw [ya hc] at h
    exact rF J J J<|rY J J J<|rL J J .p0 J J<|rY J J J<|bl J (qQ J) cR J<|rY J J J<|ae.qv (dc J) J<|rE J J J<|rA J J<|rN<|ab.stop<|aq.lq [0] ⟨!(jE aa.At),h,J⟩ J J
   ·rw [x9 hc] at h
    exact rG J J J J<|rG J J J J<|rG J J J J<|rT J J J<|rA J J<|rN<|ab.stop<|aq.lq [0] ⟨true,h,J⟩ J J
  ·rintro aS ⟨c3,h,rfl⟩
   unfold fC at h
   refine cB h J (fun h=>?_) (fun h=>?_)
   ·refine aT<|rA J J<|rN<|ab.ret<|?_
    cases h
    exact hP J J
   ·refine aT<|rF J J J<|rL J J .p0 J J<|ae.qv (dm J) J<|ae.qv (fY J J) J<|rA J J<|rN<|cD h J (fun h=>?_) (fun h=>?_)
    ·refine aT<|rA J J<|rN<|ab.ret<|?_
     cases h
     exact hP J J
    ·refine aT<|rF J J J<|rL J J .p0 J J<|ae.qv (dm J) J<|ae.qv (jj J J) J<|rA J J<|rN<|cD h J (fun h=>?_) (fun h=>?_)
     ·refine aT<|rA J J<|rN<|ab.ret<|?_
      cases h
      exact hP J J
     ·refine tK<|ab.dp<|aT<|rA J J<|rN<|tS<|aT<|rF J J J<|rL J J .p0 J J<|ae.qv (dm J) J<|rM J J<|rN<|ab.block<|ab.dR (fun x:Int×Int=>dT aa x.1 x.2) (fun x aS=>aS=⟨81,[(1,.ptr b1 0),(3,I x.1),(33,nW aa.aG),(34,I (aa.aG.length:Int)),(35,I x.2)],[(b1,.cells (Ty aa))]⟩) h ?_ ?_
      ·exact aq.lq [0] J J J
      ·intro x z1 aS J1 gS h mD gN
       obtain ⟨n6,n7⟩:=x
       obtain rfl:=gS
       replace h:dT aa n6 n7=some z1:=h
       unfold dT at h
       refine aT<|ae.qv (cJ J J) J<|rN<|tS<|cD h J (fun h=>?_) (fun h=>?_)
       ·refine tK<|tS<|ab.block<|aT<|aU h fun v8 e2 h=>ae.qv (bS J J J e2 J J) J<|ae.qv (bw J J J) J<|bY J J J J fun b9=>aI J J J J .p0 J J<|rN<|tS<|tS<|ab.cut (fun aS=>∃ (Nu:Bool),fA n6 n7 v8 Nu=some z1∧aS=⟨81,[(1,.ptr b1 0),(3,I n6),(5,.ptr b9 0),(33,nW aa.aG),(34,I (aa.aG.length:Int)),(35,I n7),(56,.bool Nu)],[(b1,.cells (Ty aa)),(b9,.cells (cE1 v8))]⟩) ?_ ?_
        ·refine tR<|rF J J J<|rL J J .p0 J J<|bl J (ei J) cR J<|rM J J<|ae.guard J J J (fun hc=>?_) (fun hc=>?_)
         ·rw [ya hc] at h
          refine rF J J J<|rY J J J<|rL J J .p0 J J<|rY J J J<|bl J (ei J) cR J<|rE J J J<|rM J J<|ae.guard J J J (fun hc=>?_) (fun hc=>?_)
          ·rw [ya hc] at h
           refine rF J J J<|rY J J J<|rL J J .p0 J J<|rY J J J<|bl J (ei J) cR J<|rE J J J<|rM J J<|ae.guard J J J (fun hc=>?_) (fun hc=>?_)
           ·rw [ya hc] at h
            exact rF J J J<|rY J J J<|rL J J .p0 J J<|rY J J J<|bl J (ei J) cR J<|rE J J J<|rN<|ab.stop<|aq.lq [1,0] ⟨(du v8.ct 0 1000),h,J⟩ J J
           ·rw [x9 hc] at h
            exact rG J J J J<|rG J J J J<|rT J J J<|rN<|ab.stop<|aq.lq [1,0] ⟨true,h,J⟩ J J
          ·rw [x9 hc] at h
           exact rG J J J J<|rG J J J J<|rT J J J<|rM J J<|rG J J J J<|rG J J J J<|rG J J J J<|rT J J J<|rN<|ab.stop<|aq.lq [1,0] ⟨true,h,J⟩ J J
         ·rw [x9 hc] at h
          exact rG J J J J<|rG J J J J<|rT J J J<|rM J J<|rG J J J J<|rG J J J J<|rG J J J J<|rT J J J<|rM J J<|rG J J J J<|rG J J J J<|rG J J J J<|rT J J J<|rN<|ab.stop<|aq.lq [1,0] ⟨true,h,J⟩ J J
        ·rintro aS ⟨Nu,h,rfl⟩
         unfold fA at h
         refine cB h J (fun h=>?_) (fun h=>?_)
         ·refine aT<|rA J J<|rN<|ab.ret<|have h:=cW h gN;?_
          cases h
          exact hP J J
         ·refine tK<|tR<|rM J J<|rF J J J<|rL J J .p1 J J<|ae.qv (bQ J J) J<|rA J J<|rN<|ab.dp<|tR<|ae.qv (bQ J J) J<|rM J J<|rN<|ab.stop<|?_
          cases h
          exact mD _ _ J<|aq.lq [0] J J J
       ·refine ab.exit J<|have h:=cW h gN;?_
        unfold gX at h
        refine tS<|ab.block<|aT<|rM J J<|ae.qv (kr J J) J<|rA J J<|rN<|cD h J (fun h=>?_) (fun h=>?_)
        ·refine aT<|rA J J<|rN<|ab.ret<|?_
         cases h
         exact hP J J
        ·refine tS<|ab.cut (fun aS=>∃ (Dv:Bool),fB Dv=some r∧aS=⟨81,[(65,.bool Dv)],[]⟩) ?_ ?_
         ·refine tR<|rF J J J<|rF J J J<|rL J J .p0 J J<|bl J (ei J) cR J<|rM J J<|ae.guard J J J (fun hc=>?_) (fun hc=>?_)
          ·rw [ya hc] at h
           refine rF J J J<|rY J J J<|rF J J J<|rY J J J<|rL J J .p0 J J<|rY J J J<|bl J (ei J) cR J<|rE J J J<|rM J J<|ae.guard J J J (fun hc=>?_) (fun hc=>?_)
           ·rw [ya hc] at h
            exact rF J J J<|rY J J J<|rL J J .p0 J J<|rY J J J<|bl J (ei J) cR J<|rE J J J<|rA J J<|rN<|ab.stop<|aq.lq [] ⟨(du aa.Room 1 500),h,J⟩ J J
           ·rw [x9 hc] at h
            exact rG J J J J<|rG J J J J<|rT J J J<|rA J J<|rN<|ab.stop<|aq.lq [] ⟨true,h,J⟩ J J
          ·rw [x9 hc] at h
           exact rG J J J J<|rG J J J J<|rG J J J J<|rT J J J<|rM J J<|rG J J J J<|rG J J J J<|rG J J J J<|rT J J J<|rA J J<|rN<|ab.stop<|aq.lq [] ⟨true,h,J⟩ J J
         ·rintro aS ⟨Dv,h,rfl⟩
          unfold fB at h
          refine cB h J (fun h=>?_) (fun h=>?_)
          ·refine aT<|rA J J<|rN<|ab.ret<|?_
           cases h
           exact hP J J
          ·refine tK<|ab.dp<|aT<|rA J J<|rN<|ab.ret<|?_
           cases h
           exact hP J J
theorem pJ [GI:ck] {aa:List Int} {r:Int} (h:jY aa=some r):Pu Tryz.prog 66 [mz aa] (I r):=by
 unfold jY at h
 refine aY.ch Tryz.func66 J Tryz.ntmps66 Tryz.results66 J J ?_
 refine aT<|rA J J<|rN<|aT<|rA J J<|rN<|tS<|aT<|rM J J<|ae.qv (dm J) J<|rM J J<|rN<|ab.block<|ab.dR (fun x:Int=>qM aa x) (fun x aS=>aS=⟨18,[(3,I 0),(6,mz aa),(7,I (aa.length:Int)),(8,I x)],[]⟩) h ?_ ?_
 ·exact aq.lq [] J J J
 ·intro n2 z1 aS J1 gS h mD gN
  obtain rfl:=gS
  replace h:qM aa n2=some z1:=h
  unfold qM at h
  refine aT<|ae.qv (cJ J J) J<|rN<|tS<|cD h J (fun h=>?_) (fun h=>?_)
  ·refine tK<|tS<|ab.block<|aT<|aU h fun v3 e1 h=>ae.qv (bS J J J e1 J J) J<|ae.qv (aR J J J) J<|rA J J<|rN<|aT<|rM J J<|rM J J<|ae.qv (kr J J) J<|rN<|cD h J (fun h=>?_) (fun h=>?_)
   ·refine aT<|rM J J<|rA J J<|rN<|ab.ret<|have h:=cW h gN;?_
    cases h
    exact hP J J
   ·refine tK<|ab.dp<|tR<|ae.qv (bQ J J) J<|rM J J<|rN<|ab.stop<|?_
    cases h
    exact mD _ _ J<|aq.lq [] J J J
  ·refine ab.exit J<|have h:=cW h gN;aT<|rM J J<|rA J J<|rN<|ab.ret<|?_
   cases h
   exact hP J J
theorem kf [GI:ck] {aa ai:Version} {r:Int} (h:fi aa ai=some r):Pu Tryz.prog 47 [Version.av aa,Version.av ai] (I r):=by
 unfold fi at h
 refine aY.ch Tryz.func47 J Tryz.ntmps47 Tryz.results47 J J ?_
 refine aT<|eA J J J J fun b1=>eA J J J J fun b2=>rA J J<|rN<|tS<|ab.di (id:=1) (A:=[0,1,0,4,15,0,32,0,128,511,0,1024,0,4096,16383,32767,65535,131071]) 18 mixed J (by kernel_rfl) (by kernel_rfl)<|AM.qv (aB J J) J<|AM.qv (aJ J J .p1 J) J<|AM.qv (aB J J) J<|AM.qv (aJ J J .p0 J) J<|AM.kA J (dN J) cR J<|AM.qv (aB J J) J<|AM.qv (aJ J J .p1 J) J<|AM.qv (aB J J) J<|AM.qv (aJ J J .p0 J) J<|AM.kA J (dN J) cR J<|AM.qv (aB J J) J<|AM.qv (aJ J J .p1 J) J<|AM.qv (aB J J) J<|AM.qv (aJ J J .p0 J) J<|AM.kA J (dN J) cR J<|AM.dt (xs:=([(cmp_Compare_int aa.ax ai.ax),(cmp_Compare_int aa.aA ai.aA),(cmp_Compare_int aa.aC ai.aC)]:List Int).map I) J J J J J J<|aU h fun v3 e1 h=>AM.kA J (pJ e1) cR J<|AM.qv (bT J) J<|AM.nil<|rN<|ab.ret<|?_
 cases h
 exact hP J J
theorem wD [GI:ck] {aa:Range} {ai:Version} {r:Bool} (h:jZ aa ai=some r):Pu Tryz.prog 87 [Range.av aa,.cw [I ai.ax,I ai.aA,I ai.aC]] (.bool r):=by
 unfold jZ at h
 refine aY.ch Tryz.func87 J Tryz.ntmps87 Tryz.results87 J J ?_
 refine aT<|eA J J J J fun b1=>rA J J<|rN<|tS<|ab.cut (fun aS=>∃ (c2:Bool),ik c2=some r∧aS=⟨16,[(3,.bool c2)],[]⟩) ?_ ?_
 ·refine tR<|rF J J J<|ae.qv (aP J J .p0 J J) J<|ae.qv (bw J J J) J<|aU h fun v3 e1 h=>bl J (kf e1) cR J<|ae.qv (sM J J) J<|rM J J<|gT h J J J (fun h=>?_) (fun h=>?_)
  ·exact ae.qv (bw J J J) J<|rY J J J<|rF J J J<|rY J J J<|ae.qv (aP J J .p0 J J) J<|rY J J J<|aU h fun v4 e2 h=>bl J (kf e2) cR J<|rY J J J<|ae.qv (sM J J) J<|rT J J J<|rA J J<|rN<|ab.stop<|aq.lq [] ⟨decide (v4≤0),h,J⟩ J J
  ·exact rG J J J J<|rG J J J J<|rG J J J J<|rG J J J J<|rE J J J<|rA J J<|rN<|ab.stop<|aq.lq [] ⟨false,h,J⟩ J J
 ·rintro aS ⟨c2,h,rfl⟩
  unfold ik at h
  refine ab.ret<|?_
  cases h
  exact hP J J
theorem qq [GI:ck] {aa:List Range} {jb:Range→Option Bool} {kD:FuncId} [cq Tryz.prog kD] {nk:List AV} (uH:∀ {y0:_} {u:Bool},jb y0=some u→Pu Tryz.prog kD (Range.av y0 :: nk) (.bool u)) {r:Int} (h:jc aa jb=some r):Pu Tryz.prog 109 [Tz aa,.func (.func kD) nk] (I r):=by
 unfold jc at h
 refine aY.ch Tryz.func109 J Tryz.ntmps109 Tryz.results109 J J ?_
 refine aT<|rA J J<|rN<|tS<|aT<|rM J J<|ae.qv (dm J) J<|rM J J<|rN<|ab.block<|ab.dR (fun x:Int=>eN aa jb x) (fun x aS=>aS=⟨19,[(0,Tz aa),(1,.func (.func kD) nk),(7,I (aa.length:Int)),(8,I x)],[]⟩) h ?_ ?_
 ·exact aq.lq [] J J J
 ·intro n2 z1 aS J1 gS h mD gN
  obtain rfl:=gS
  replace h:eN aa jb n2=some z1:=h
  unfold eN at h
  refine aT<|ae.qv (cJ J J) J<|rN<|tS<|cD h J (fun h=>?_) (fun h=>?_)
  ·refine tK<|tS<|ab.block<|aT<|rM J J<|rA J J<|rN<|aT<|rM J J<|rM J J<|rM J J<|aU h fun v3 e1 h=>ae.qv (bS J J J e1 J J) J<|ae.qv (bw J J J) J<|aU h fun v4 e2 h=>B2 J J (uH e2) cR J<|rN<|cB h J (fun h=>?_) (fun h=>?_)
   ·refine aT<|rM J J<|rA J J<|rN<|ab.ret<|have h:=cW h gN;?_
    cases h
    exact hP J J
   ·refine tK<|ab.dp<|tR<|ae.qv (bQ J J) J<|rM J J<|rN<|ab.stop<|?_
    cases h
    exact mD _ _ J<|aq.lq [] J J J
  ·refine ab.exit J<|have h:=cW h gN;aT<|rA J J<|rN<|ab.ret<|?_
   cases h
   exact hP J J
theorem o0 [GI:ck] {aa:List Range} {jb:Range→Option Bool} {kD:FuncId} [cq Tryz.prog kD] {nk:List AV} (uH:∀ {y0:_} {u:Bool},jb y0=some u→Pu Tryz.prog kD (Range.av y0 :: nk) (.bool u)) {r:Bool} (h:dB aa jb=some r):Pu Tryz.prog 86 [Tz aa,.func (.func kD) nk] (.bool r):=by
 unfold dB at h
 refine aY.ch Tryz.func86 J Tryz.ntmps86 Tryz.results86 J J ?_
 refine aT<|rA J J<|rN<|aT<|rM J J<|rM J J<|aU h fun v1 e1 h=>gb J (qq uH e1) (.cons (.co (.refl _)) (.cons (.co (.refl _)) .nil)) J J<|ae.qv (ri J J) J<|rA J J<|rN<|ab.ret<|?_
 cases h
 exact hP J J
theorem tJ [GI:ck] {aa:ar} {ai:Version} {r:Bool} (h:jd aa ai=some r):Pu Tryz.prog 67 [ar.av aa,Version.av ai] (.bool r):=by
 unfold jd at h
 refine aY.ch Tryz.func67 J Tryz.ntmps67 Tryz.results67 J J ?_
 refine aT<|eA J J J J fun b1=>eA J J J J fun b2=>rA J J<|rN<|aT<|rF J J J<|rL J J .p1 J J<|ae.qv (sN J) J<|aU h fun v3 e1 h=>gb J (o0 (fun e=>wD e) e1) (.cons (.co (.refl _)) (.cons (.Gm _ _ _ (.cons (.xB _ _ _ .p0 (.cons (.co (.refl _)) (.cons (.co (.refl _)) (.cons (.co (.refl _)) .nil)))) .nil)) .nil)) J J<|rA J J<|rN<|ab.ret<|?_
 cases h
 exact hP J J
theorem ve [GI:ck] {aa:ar} {r:Int} (h:eU aa=some r):Pu Tryz.prog 48 [ar.av aa] (I r):=by
 unfold eU at h
 refine aY.ch Tryz.func48 J Tryz.ntmps48 Tryz.results48 J J ?_
 refine aT<|eA J J J J fun b1=>rA J J<|rN<|tS<|aT<|rF J J J<|rL J J .p0 J J<|ae.qv (dm J) J<|ae.qv (jj J J) J<|rN<|cD h J (fun h=>?_) (fun h=>?_)
 ·refine aT<|rA J J<|rN<|ab.ret<|?_
  cases h
  exact hP J J
 ·refine tK<|tS<|aT<|rF J J J<|rL J J .p0 J J<|ae.qv (dm J) J<|rM J J<|rN<|ab.block<|ab.dR (fun x:Int=>cO aa x) (fun x aS=>aS=⟨57,[(1,.ptr b1 0),(10,Tz aa.cr),(11,I (aa.cr.length:Int)),(12,I x)],[(b1,.cells (He aa))]⟩) h ?_ ?_
  ·exact aq.lq [0] J J J
  ·intro n3 z1 aS J1 gS h mD gN
   obtain rfl:=gS
   replace h:cO aa n3=some z1:=h
   unfold cO at h
   refine aT<|ae.qv (cJ J J) J<|rN<|tS<|cD h J (fun h=>?_) (fun h=>?_)
   ·refine tK<|tS<|ab.block<|aT<|rM J J<|aU h fun v4 e1 h=>ae.qv (bS J J J e1 J J) J<|ae.qv (bw J J J) J<|bY J J J J fun b5=>rA J J<|aI J J J J .p0 J J<|rN<|ab.block<|tS<|ab.cut (fun aS=>∃ (c6:Bool),cN aa n3 v4 c6=some z1∧aS=⟨57,[(1,.ptr b1 0),(3,I n3),(4,.ptr b5 0),(10,Tz aa.cr),(11,I (aa.cr.length:Int)),(12,I n3),(17,.bool c6)],[(b1,.cells (He aa)),(b5,.cells (cE3 v4))]⟩) ?_ ?_
    ·refine tR<|rF J J J<|ae.qv (aP J J .p0 J J) J<|bl J (iN J) cR J<|ae.qv (dc J) J<|rM J J<|ae.guard J J J (fun hc=>?_) (fun hc=>?_)
     ·refine have h:=tD hc h;rF J J J<|rY J J J<|ae.qv (aP J J .p0 J J) J<|rY J J J<|bl J (iN J) cR J<|rY J J J<|ae.qv (dc J) J<|rE J J J<|rM J J<|ae.guard J J J (fun hc=>?_) (fun hc=>?_)
      ·exact have h:=tD hc h;rF J J J<|rY J J J<|ae.qv (aP J J .p0 J J) J<|rY J J J<|rF J J J<|rY J J J<|ae.qv (aP J J .p0 J J) J<|rY J J J<|aU h fun v7 e2 h=>bl J (kf e2) cR J<|rY J J J<|ae.qv (jj J J) J<|rE J J J<|rA J J<|rN<|ab.stop<|aq.lq [1,0] ⟨decide (0 < v7),h,J⟩ J J
      ·exact have h:=rk hc h;rG J J J J<|rG J J J J<|rG J J J J<|rG J J J J<|rG J J J J<|rT J J J<|rA J J<|rN<|ab.stop<|aq.lq [1,0] ⟨true,h,J⟩ J J
     ·exact have h:=rk hc h;rG J J J J<|rG J J J J<|rG J J J J<|rT J J J<|rM J J<|rG J J J J<|rG J J J J<|rG J J J J<|rG J J J J<|rG J J J J<|rG J J J J<|rT J J J<|rA J J<|rN<|ab.stop<|aq.lq [1,0] ⟨true,h,J⟩ J J
    ·rintro aS ⟨c6,h,rfl⟩
     unfold cN at h
     refine cB h J (fun h=>?_) (fun h=>?_)
     ·refine aT<|rA J J<|rN<|ab.ret<|have h:=cW h gN;?_
      cases h
      exact hP J J
     ·refine tS<|ab.cut (fun aS=>∃ (c8:Bool),dH n3 c8=some z1∧aS=⟨57,[(1,.ptr b1 0),(10,Tz aa.cr),(11,I (aa.cr.length:Int)),(12,I n3),(36,.bool c8)],[(b1,.cells (He aa))]⟩) ?_ ?_
      ·refine ab.di (id:=8) (A:=[0,1,3,7,15,7,39,7,135,487,999,2023,4095,8191,16383,32767]) 16 mixed J (by kernel_rfl) (by kernel_rfl)<|AM.qv (aX J) J<|AM.qv (jj J J) J<|AM.qv (aX J) J<|AM.dq J J J (fun hc=>?_) (fun hc=>?_)
       ·exact have h:=rk hc h;AM.qv (aB J J) J<|AM.aD J J J<|AM.qv (aP J J .p1 J J) J<|AM.aD J J J<|AM.qv (aB J J) J<|AM.aD J J J<|AM.qv (aJ J J .p0 J) J<|AM.aD J J J<|AM.qv (aX J) J<|AM.aD J J J<|AM.qv (iY J J) J<|AM.aD J J J<|aU h fun v9 e3 h=>AM.qv (bS J J J e3 J J) J<|AM.aD J J J<|AM.qv (bn J J) J<|AM.aD J J J<|AM.qv (bw J J J) J<|AM.aD J J J<|aU h fun v10 e4 h=>AM.kA J (kf e4) cR J<|AM.aD J J J<|AM.qv (sM J J) J<|AM.qv (gr J J) J<|AM.qv (bT J) J<|AM.nil<|rN<|ab.stop<|aq.lq [0] ⟨decide (v10≤0),h,J⟩ J J
       ·exact have h:=Be hc h;AM.az J J J J<|AM.az J J J J<|AM.az J J J J<|AM.az J J J J<|AM.az J J J J<|AM.az J J J J<|AM.az J J J J<|AM.az J J J J<|AM.az J J J J<|AM.az J J J J<|AM.qv (eQ J J) J<|AM.qv (bT J) J<|AM.nil<|rN<|ab.stop<|aq.lq [0] ⟨false,h,J⟩ J J
      ·rintro aS ⟨c8,h,rfl⟩
       unfold dH at h
       refine cB h J (fun h=>?_) (fun h=>?_)
       ·refine aT<|rA J J<|rN<|ab.ret<|have h:=cW h gN;?_
        cases h
        exact hP J J
       ·refine tK<|ab.dp<|ab.dp<|tR<|ae.qv (bQ J J) J<|rM J J<|rN<|ab.stop<|?_
        cases h
        exact mD _ _ J<|aq.lq [0] J J J
   ·refine ab.exit J<|have h:=cW h gN;?_
    unfold gh at h
    refine tS<|aT<|ae.qv (aH J J .p0 J) J<|rF J J J<|ae.qv (aP J J .p0 J J) J<|aU h fun v11 e5 h=>bl J (tJ e5) cR J<|rN<|cB h J (fun h=>?_) (fun h=>?_)
    ·refine aT<|rA J J<|rN<|ab.ret<|?_
     cases h
     exact hP J J
    ·refine tK<|aT<|rA J J<|rN<|ab.ret<|?_
     cases h
     exact hP J J
theorem pK [GI:ck] {aa:List ar} {r:Int} (h:cK aa=some r):Pu Tryz.prog 23 [tu aa] (I r):=by
 unfold cK at h
 refine aY.ch Tryz.func23 J Tryz.ntmps23 Tryz.results23 J J ?_
 refine aT<|rA J J<|rN<|tS<|aT<|rM J J<|ae.qv (dm J) J<|ae.qv (jj J J) J<|rN<|cD h J (fun h=>?_) (fun h=>?_)
 ·refine aT<|rA J J<|rN<|ab.ret<|?_
  cases h
  exact hP J J
 ·refine tK<|tS<|aT<|rM J J<|ae.qv (dm J) J<|rM J J<|rN<|ab.block<|ab.dR (fun x:Int=>eI aa x) (fun x aS=>aS=⟨81,[(0,tu aa),(11,tu aa),(12,I (aa.length:Int)),(13,I x)],[]⟩) h ?_ ?_
  ·exact aq.lq [] J J J
  ·intro n2 z1 aS J1 gS h mD gN
   obtain rfl:=gS
   replace h:eI aa n2=some z1:=h
   unfold eI at h
   refine aT<|ae.qv (cJ J J) J<|rN<|tS<|cD h J (fun h=>?_) (fun h=>?_)
   ·refine tK<|tS<|ab.block<|aT<|rM J J<|aU h fun v3 e1 h=>ae.qv (bS J J J e1 J J) J<|ae.qv (bw J J J) J<|bY J J J J fun b4=>rA J J<|aI J J J J .p0 J J<|rN<|tS<|ab.block<|aT<|rF J J J<|ae.qv (aP J J .p0 J J) J<|bl J (iN J) cR J<|ae.qv (dc J) J<|rA J J<|rN<|cB h J (fun h=>?_) (fun h=>?_)
    ·refine aT<|rA J J<|rN<|ab.ret<|have h:=cW h gN;?_
     cases h
     exact hP J J
    ·refine tS<|ab.cut (fun aS=>∃ (c5:Bool),db n2 v3 c5=some z1∧aS=⟨81,[(0,tu aa),(4,.ptr b4 0),(11,tu aa),(12,I (aa.length:Int)),(13,I n2),(23,.bool c5)],[(b4,.cells (He v3))]⟩) ?_ ?_
     ·refine ab.di (id:=8) (A:=[0,1,3,7,15,7,7,71,231,487,999,2047,4095,8191,16383]) 15 mixed J (by kernel_rfl) (by kernel_rfl)<|AM.qv (aX J) J<|AM.qv (jj J J) J<|AM.qv (aX J) J<|AM.dq J J J (fun hc=>?_) (fun hc=>?_)
      ·exact have h:=rk hc h;AM.qv (aB J J) J<|AM.aD J J J<|AM.qv (aP J J .p0 J J) J<|AM.aD J J J<|AM.qv (aX J) J<|AM.aD J J J<|AM.qv (aX J) J<|AM.aD J J J<|AM.qv (iY J J) J<|AM.aD J J J<|aU h fun v6 e2 h=>AM.qv (bS J J J e2 J J) J<|AM.aD J J J<|AM.qv (bn J J) J<|AM.aD J J J<|AM.qv (nD J J J J) J<|AM.aD J J J<|aU h fun v7 e3 h=>AM.kA J (kf e3) cR J<|AM.aD J J J<|AM.qv (sM J J) J<|AM.qv (gr J J) J<|AM.qv (bT J) J<|AM.nil<|rN<|ab.stop<|aq.lq [0] ⟨decide (v7≤0),h,J⟩ J J
      ·exact have h:=Be hc h;AM.az J J J J<|AM.az J J J J<|AM.az J J J J<|AM.az J J J J<|AM.az J J J J<|AM.az J J J J<|AM.az J J J J<|AM.az J J J J<|AM.az J J J J<|AM.qv (eQ J J) J<|AM.qv (bT J) J<|AM.nil<|rN<|ab.stop<|aq.lq [0] ⟨false,h,J⟩ J J
     ·rintro aS ⟨c5,h,rfl⟩
      unfold db at h
      refine cB h J (fun h=>?_) (fun h=>?_)
      ·refine aT<|rA J J<|rN<|ab.ret<|have h:=cW h gN;?_
       cases h
       exact hP J J
      ·refine aT<|rF J J J<|rL J J .p0 J J<|ae.qv (dm J) J<|ae.qv (fY J J) J<|rA J J<|rN<|cD h J (fun h=>?_) (fun h=>?_)
       ·refine aT<|rA J J<|rN<|ab.ret<|have h:=cW h gN;?_
        cases h
        exact hP J J
       ·refine aT<|rF J J J<|rL J J .p0 J J<|ae.qv (dm J) J<|ae.qv (jj J J) J<|rA J J<|rN<|cD h J (fun h=>?_) (fun h=>?_)
        ·refine aT<|rA J J<|rN<|ab.ret<|have h:=cW h gN;?_
         cases h
         exact hP J J
        ·refine tK<|ab.dp<|tS<|aT<|rF J J J<|rL J J .p0 J J<|ae.qv (dm J) J<|rM J J<|rN<|ab.block<|ab.dR (fun x:Int=>bV n2 v3 x) (fun x aS=>aS=⟨81,[(0,tu aa),(4,.ptr b4 0),(11,tu aa),(12,I (aa.length:Int)),(13,I n2),(49,y7 v3.jU),(50,I (v3.jU.length:Int)),(51,I x)],[(b4,.cells (He v3))]⟩) h ?_ ?_
         ·exact aq.lq [0] J J J
         ·intro n9 z2 aS J2 gS h DA AL
          obtain rfl:=gS
          replace h:bV n2 v3 n9=some z2:=h
          unfold bV at h
          refine aT<|ae.qv (cJ J J) J<|rN<|tS<|cD h J (fun h=>?_) (fun h=>?_)
          ·refine tK<|tS<|ab.block<|aT<|rM J J<|aU h fun v10 e4 h=>ae.qv (bS J J J e4 J J) J<|ae.qv (aR J J J) J<|rA J J<|rA J J<|rN<|tS<|aT<|rM J J<|aU h fun v11 e5 h=>bl J (lj e5) cR J<|ae.qv (dc J) J<|rN<|cB h J (fun h=>?_) (fun h=>?_)
           ·refine aT<|rA J J<|rN<|ab.ret<|have h:=cW h AL;have h:=cW h gN;?_
            cases h
            exact hP J J
           ·refine tK<|tS<|ab.cut (fun aS=>∃ (c12:Bool),cE n9 c12=some z2∧aS=⟨81,[(0,tu aa),(4,.ptr b4 0),(11,tu aa),(12,I (aa.length:Int)),(13,I n2),(49,y7 v3.jU),(50,I (v3.jU.length:Int)),(51,I n9),(70,.bool c12)],[(b4,.cells (He v3))]⟩) ?_ ?_
            ·refine tR<|rM J J<|ae.qv (jj J J) J<|rM J J<|gT h J J J (fun h=>?_) (fun h=>?_)
             ·exact rM J J<|rY J J J<|rF J J J<|rY J J J<|rL J J .p0 J J<|rY J J J<|rM J J<|rY J J J<|ae.qv (iY J J) J<|rY J J J<|aU h fun oZ e6 h=>ae.qv (bS J J J e6 J J) J<|rY J J J<|ae.qv (aR J J J) J<|rY J J J<|ae.qv (ME J J) J<|rT J J J<|rN<|ab.stop<|aq.lq [0] ⟨Op.bytesLess v10 oZ||v10==oZ,h,J⟩ J J
             ·exact rG J J J J<|rG J J J J<|rG J J J J<|rG J J J J<|rG J J J J<|rG J J J J<|rG J J J J<|rE J J J<|rN<|ab.stop<|aq.lq [0] ⟨false,h,J⟩ J J
            ·rintro aS ⟨c12,h,rfl⟩
             unfold cE at h
             refine cB h J (fun h=>?_) (fun h=>?_)
             ·refine aT<|rA J J<|rN<|ab.ret<|have h:=cW h AL;have h:=cW h gN;?_
              cases h
              exact hP J J
             ·refine tK<|ab.dp<|tR<|ae.qv (bQ J J) J<|rM J J<|rN<|ab.stop<|?_
              cases h
              exact DA _ _ J<|aq.lq [0] J J J
          ·refine ab.exit J<|have h:=cW h AL;?_
           unfold gi at h
           refine tS<|aT<|ae.qv (aH J J .p0 J) J<|aU h fun rq e7 h=>bl J (ve e7) cR J<|rA J J<|rN<|aT<|rM J J<|ae.qv (kr J J) J<|rN<|cD h J (fun h=>?_) (fun h=>?_)
           ·refine aT<|rM J J<|rA J J<|rN<|ab.ret<|have h:=cW h gN;?_
            cases h
            exact hP J J
           ·refine tK<|aT<|rF J J J<|rL J J .p0 J J<|bl J (ei J) cR J<|rN<|cB h J (fun h=>?_) (fun h=>?_)
            ·refine aT<|rA J J<|rN<|ab.ret<|have h:=cW h gN;?_
             cases h
             exact hP J J
            ·refine tK<|ab.dp<|tR<|ae.qv (bQ J J) J<|rM J J<|rN<|ab.stop<|?_
             cases h
             exact mD _ _ J<|aq.lq [] J J J
   ·refine ab.exit J<|have h:=cW h gN;aT<|rA J J<|rN<|ab.ret<|?_
    cases h
    exact hP J J
theorem ql [GI:ck] {aa:List DeviceS} {r:Int} (h:gH aa=some r):Pu Tryz.prog 24 [xP aa] (I r):=by
 unfold gH at h
 refine aY.ch Tryz.func24 J Tryz.ntmps24 Tryz.results24 J J ?_
 refine aT<|rA J J<|rN<|tS<|aT<|rM J J<|ae.qv (dm J) J<|ae.qv (jj J J) J<|rN<|cD h J (fun h=>?_) (fun h=>?_)
 ·refine aT<|rA J J<|rN<|ab.ret<|?_
  cases h
  exact hP J J
 ·refine tK<|tS<|aT<|rM J J<|ae.qv (dm J) J<|rM J J<|rN<|ab.block<|ab.dR (fun x:Int=>dw aa x) (fun x aS=>aS=⟨57,[(0,xP aa),(8,xP aa),(9,I (aa.length:Int)),(10,I x)],[]⟩) h ?_ ?_
  ·exact aq.lq [] J J J
  ·intro n2 z1 aS J1 gS h mD gN
   obtain rfl:=gS
   replace h:dw aa n2=some z1:=h
   unfold dw at h
   refine aT<|ae.qv (cJ J J) J<|rN<|tS<|cD h J (fun h=>?_) (fun h=>?_)
   ·refine tK<|tS<|ab.block<|aT<|rM J J<|aU h fun v3 e1 h=>ae.qv (bS J J J e1 J J) J<|ae.qv (bw J J J) J<|bY J J J J fun b4=>rA J J<|aI J J J J .p0 J J<|rN<|ab.block<|tS<|ab.cut (fun aS=>∃ (c5:Bool),ee aa n2 v3 c5=some z1∧aS=⟨57,[(0,xP aa),(3,I n2),(4,.ptr b4 0),(8,xP aa),(9,I (aa.length:Int)),(10,I n2),(15,.bool c5)],[(b4,.cells (Pg v3))]⟩) ?_ ?_
    ·refine tR<|rF J J J<|rL J J .p0 J J<|aU h fun v6 e2 h=>bl J (lj e2) cR J<|ae.qv (dc J) J<|rM J J<|ae.guard J J J (fun hc=>?_) (fun hc=>?_)
     ·refine have h:=tD hc h;rF J J J<|rY J J J<|rL J J .p0 J J<|rY J J J<|aU h fun v7 e3 h=>bl J (lj e3) cR J<|rY J J J<|ae.qv (dc J) J<|rE J J J<|rM J J<|ae.guard J J J (fun hc=>?_) (fun hc=>?_)
      ·exact have h:=tD hc h;rF J J J<|rY J J J<|rL J J .p0 J J<|rY J J J<|aU h fun v8 e4 h=>bl J (lj e4) cR J<|rY J J J<|ae.qv (dc J) J<|rE J J J<|rA J J<|rN<|ab.stop<|aq.lq [0] ⟨!v8,h,J⟩ J J
      ·exact have h:=rk hc h;rG J J J J<|rG J J J J<|rG J J J J<|rT J J J<|rA J J<|rN<|ab.stop<|aq.lq [0] ⟨true,h,J⟩ J J
     ·exact have h:=rk hc h;rG J J J J<|rG J J J J<|rG J J J J<|rT J J J<|rM J J<|rG J J J J<|rG J J J J<|rG J J J J<|rG J J J J<|rT J J J<|rA J J<|rN<|ab.stop<|aq.lq [0] ⟨true,h,J⟩ J J
    ·rintro aS ⟨c5,h,rfl⟩
     unfold ee at h
     refine cB h J (fun h=>?_) (fun h=>?_)
     ·refine aT<|rA J J<|rN<|ab.ret<|have h:=cW h gN;?_
      cases h
      exact hP J J
     ·refine tS<|ab.cut (fun aS=>∃ (c9:Bool),dv n2 v3 c9=some z1∧aS=⟨57,[(0,xP aa),(4,.ptr b4 0),(8,xP aa),(9,I (aa.length:Int)),(10,I n2),(32,.bool c9)],[(b4,.cells (Pg v3))]⟩) ?_ ?_
      ·refine ab.di (id:=8) (A:=[0,1,3,7,15,7,7,71,231,487,999,2047,4095,8191]) 14 mixed J (by kernel_rfl) (by kernel_rfl)<|AM.qv (aX J) J<|AM.qv (jj J J) J<|AM.qv (aX J) J<|AM.dq J J J (fun hc=>?_) (fun hc=>?_)
       ·exact have h:=rk hc h;AM.qv (aB J J) J<|AM.aD J J J<|AM.qv (aJ J J .p0 J) J<|AM.aD J J J<|AM.qv (aX J) J<|AM.aD J J J<|AM.qv (aX J) J<|AM.aD J J J<|AM.qv (iY J J) J<|AM.aD J J J<|aU h fun v10 e5 h=>AM.qv (bS J J J e5 J J) J<|AM.aD J J J<|AM.qv (bn J J) J<|AM.aD J J J<|AM.qv (aR J J J) J<|AM.aD J J J<|AM.qv (ME J J) J<|AM.qv (gr J J) J<|AM.qv (bT J) J<|AM.nil<|rN<|ab.stop<|aq.lq [0] ⟨Op.bytesLess v3.Key v10.Key||v3.Key==v10.Key,h,J⟩ J J
       ·exact have h:=Be hc h;AM.az J J J J<|AM.az J J J J<|AM.az J J J J<|AM.az J J J J<|AM.az J J J J<|AM.az J J J J<|AM.az J J J J<|AM.az J J J J<|AM.qv (eQ J J) J<|AM.qv (bT J) J<|AM.nil<|rN<|ab.stop<|aq.lq [0] ⟨false,h,J⟩ J J
      ·rintro aS ⟨c9,h,rfl⟩
       unfold dv at h
       refine cB h J (fun h=>?_) (fun h=>?_)
       ·refine aT<|rA J J<|rN<|ab.ret<|have h:=cW h gN;?_
        cases h
        exact hP J J
       ·refine aT<|rF J J J<|ae.qv (aP J J .p0 J J) J<|bl J (iN J) cR J<|ae.qv (dc J) J<|rA J J<|rN<|cB h J (fun h=>?_) (fun h=>?_)
        ·refine aT<|rA J J<|rN<|ab.ret<|have h:=cW h gN;?_
         cases h
         exact hP J J
        ·refine aT<|rF J J J<|rL J J .p0 J J<|ae.qv (dm J) J<|ae.qv (jj J J) J<|rA J J<|rN<|cD h J (fun h=>?_) (fun h=>?_)
         ·refine aT<|rA J J<|rN<|ab.ret<|have h:=cW h gN;?_
          cases h
          exact hP J J
         ·refine tK<|ab.dp<|ab.dp<|tR<|ae.qv (bQ J J) J<|rM J J<|rN<|ab.stop<|?_
          cases h
          exact mD _ _ J<|aq.lq [] J J J
   ·refine ab.exit J<|have h:=cW h gN;aT<|rA J J<|rN<|ab.ret<|?_
    cases h
    exact hP J J
theorem y9 [GI:ck] {aa:List Int} {r:Int} (h:qo aa=some r):Pu Tryz.prog 21 [mz aa] (I r):=by
 unfold qo at h
 refine aY.ch Tryz.func21 J Tryz.ntmps21 Tryz.results21 J J ?_
 refine aT<|rA J J<|rN<|tS<|aT<|rM J J<|ae.qv (dm J) J<|rM J J<|rN<|ab.block<|ab.dR (fun x:Int=>qN aa x) (fun x aS=>aS=⟨15,[(5,mz aa),(6,I (aa.length:Int)),(7,I x)],[]⟩) h ?_ ?_
 ·exact aq.lq [] J J J
 ·intro n2 z1 aS J1 gS h mD gN
  obtain rfl:=gS
  replace h:qN aa n2=some z1:=h
  unfold qN at h
  refine aT<|ae.qv (cJ J J) J<|rN<|tS<|cD h J (fun h=>?_) (fun h=>?_)
  ·refine tK<|tS<|ab.block<|aT<|aU h fun v3 e1 h=>ae.qv (bS J J J e1 J J) J<|ae.qv (aR J J J) J<|rA J J<|rN<|aT<|rM J J<|ae.qv (kr J J) J<|rN<|cD h J (fun h=>?_) (fun h=>?_)
   ·refine aT<|rM J J<|rA J J<|rN<|ab.ret<|have h:=cW h gN;?_
    cases h
    exact hP J J
   ·refine tK<|ab.dp<|tR<|ae.qv (bQ J J) J<|rM J J<|rN<|ab.stop<|?_
    cases h
    exact mD _ _ J<|aq.lq [] J J J
  ·refine ab.exit J<|have h:=cW h gN;aT<|rA J J<|rN<|ab.ret<|?_
   cases h
   exact hP J J
theorem DB [GI:ck] {aa:lF} {r:Bool} (h:ry aa=r):Pu Tryz.prog 26 [lF.av aa] (.bool r):=by
 unfold ry at h
 refine aY.ch Tryz.func26 J Tryz.ntmps26 Tryz.results26 J J ?_
 refine aT<|eA J J J J fun b1=>rA J J<|rN<|tS<|ab.cut (fun aS=>∃ (c2:Bool),pq c2=r∧aS=⟨14,[(2,.bool c2)],[]⟩) ?_ ?_
 ·refine tR<|rF J J J<|rL J J .p0 J J<|rF J J J<|rL J J .p0 J J<|bl J (ei J) cR J<|ae.qv (dc J) J<|rM J J<|ae.guard J J J (fun hc=>?_) (fun hc=>?_)
  ·rw [AE hc] at h
   exact rF J J J<|rY J J J<|rL J J .p0 J J<|rY J J J<|ae.qv (sM J J) J<|rT J J J<|rA J J<|rN<|ab.stop<|aq.lq [] ⟨decide (aa.To≤345686400000),h,J⟩ J J
  ·rw [AF hc] at h
   exact rG J J J J<|rG J J J J<|rE J J J<|rA J J<|rN<|ab.stop<|aq.lq [] ⟨false,h,J⟩ J J
 ·rintro aS ⟨c2,h,rfl⟩
  unfold pq at h
  refine ab.ret<|?_
  obtain rfl:=h
  exact hP J J
theorem Hh [GI:ck] {aa:List bq} {r:Int} (h:uF aa=some r):Pu Tryz.prog 77 [y7 aa] (.int .u64 r):=by
 unfold uF at h
 refine aY.ch Tryz.func77 J Tryz.ntmps77 Tryz.results77 J J ?_
 refine aT<|rA J J<|rN<|aT<|rA J J<|rN<|tS<|aT<|rM J J<|ae.qv (dm J) J<|rM J J<|rN<|ab.block<|ab.dR (fun x:Int×Int=>mj aa x.1 x.2) (fun x aS=>aS=⟨33,[(3,.int .u64 x.1),(7,y7 aa),(8,I (aa.length:Int)),(9,I x.2)],[]⟩) h ?_ ?_
 ·exact aq.lq [] J J J
 ·intro x z1 aS J1 gS h mD gN
  obtain ⟨n3,n4⟩:=x
  obtain rfl:=gS
  replace h:mj aa n3 n4=some z1:=h
  unfold mj at h
  refine aT<|ae.qv (cJ J J) J<|rN<|tS<|cD h J (fun h=>?_) (fun h=>?_)
  ·refine tK<|tS<|ab.block<|aT<|rM J J<|aU h fun v5 e1 h=>ae.qv (bS J J J e1 J J) J<|ae.qv (aR J J J) J<|rA J J<|rA J J<|rN<|tS<|aT<|rM J J<|ae.qv (jj J J) J<|rN<|ab.cut (fun aS=>∃ (n6:Int),nI n4 v5 n6=some z1∧aS=⟨33,[(3,.int .u64 n6),(5,.str v5),(7,y7 aa),(8,I (aa.length:Int)),(9,I n4)],[]⟩) ?_ ?_
   ·refine cD h J (fun h=>?_) (fun h=>?_)
    ·exact tR<|rM J J<|ae.qv (u4 J J) J<|rA J J<|rN<|ab.stop<|aq.lq [] ⟨IntKind.u64.wrap (n3 * 1099511628211),h,J⟩ J J
    ·exact tK<|ab.stop<|aq.lq [] ⟨n3,h,J⟩ J J
   ·rintro aS ⟨n6,h,rfl⟩
    unfold nI at h
    refine aT<|rM J J<|ae.qv (oS J) J<|rM J J<|rN<|ab.block<|ab.dR (fun x:Int×Int=>nH n4 v5 x.1 x.2) (fun x aS=>aS=⟨33,[(3,.int .u64 x.1),(5,.str v5),(7,y7 aa),(8,I (aa.length:Int)),(9,I n4),(19,I (v5.length:Int)),(20,I x.2)],[]⟩) h ?_ ?_
    ·exact aq.lq [] J J J
    ·intro x z2 aS J2 gS h DA AL
     obtain ⟨n9,n10⟩:=x
     obtain rfl:=gS
     replace h:nH n4 v5 n9 n10=some z2:=h
     unfold nH at h
     refine aT<|ae.qv (cJ J J) J<|rN<|tS<|cD h J (fun h=>?_) (fun h=>?_)
     ·refine tK<|tS<|ab.block<|aT<|rM J J<|rA J J<|rN<|tR<|rM J J<|rM J J<|rM J J<|aU h fun Dv e2 h=>ae.qv (nd J J e2) J<|ae.qv (jQ J) J<|ae.qv (RO J J) J<|ae.qv (u4 J J) J<|rA J J<|rN<|ab.dp<|tR<|ae.qv (bQ J J) J<|rM J J<|rN<|ab.stop<|?_
      cases h
      exact DA _ _ J<|aq.lq [] J J J
     ·refine ab.exit J<|have h:=cW h AL;ab.dp<|tR<|ae.qv (bQ J J) J<|rM J J<|rN<|ab.stop<|?_
      cases h
      exact mD _ _ J<|aq.lq [] J J J
  ·refine ab.exit J<|have h:=cW h gN;aT<|rM J J<|rA J J<|rN<|ab.ret<|?_
   cases h
   exact hP J J
theorem s9 [GI:ck] {aa:Campaign} {ai:bq} {r:Int} (h:ml aa ai=some r):Pu Tryz.prog 56 [.cw [.str aa.Key,I aa.Target.ax,I aa.Target.aA,I aa.Target.aC,I aa.At,nW aa.aG,I aa.bb.cr,I aa.bb.To,I aa.Room],.str ai] (I r):=by
 unfold ml at h
 refine aY.ch Tryz.func56 J Tryz.ntmps56 Tryz.results56 J J ?_
 refine aT<|rA J J<|rN<|aT<|rM J J<|ae.qv (bC J) J<|ae.qv (bn J J) J<|ae.qv (aR J J J) J<|rM J J<|bf (xs:=([aa.Key,ai]:List bq).map AV.str) J J J J J J<|aU h fun v1 e1 h=>bl J (Hh e1) cR J<|rA J J<|rN<|aT<|rM J J<|rM J J<|ae.qv (MF J J (by decide)) J<|ae.qv (RO J J) J<|ae.qv (DN J J (by decide)) J<|ae.qv (jQ J) J<|rA J J<|rN<|ab.ret<|?_
 cases h
 exact hP J J
theorem tL [GI:ck] {aa:Campaign} {ai:bq} {r:Int} (h:ff aa ai=some r):Pu Tryz.prog 34 [.cw [.str aa.Key,I aa.Target.ax,I aa.Target.aA,I aa.Target.aC,I aa.At,nW aa.aG,I aa.bb.cr,I aa.bb.To,I aa.Room],.str ai] (I r):=by
 unfold ff at h
 refine aY.ch Tryz.func34 J Tryz.ntmps34 Tryz.results34 J J ?_
 refine aT<|rA J J<|rN<|aT<|rM J J<|rM J J<|aU h fun v1 e1 h=>bl J (s9 e1) cR J<|rA J J<|rA J J<|rN<|tS<|aT<|rM J J<|ae.qv (bC J) J<|ae.qv (bn J J) J<|ae.qv (aR J J J) J<|ae.qv (dm J) J<|rM J J<|rN<|ab.block<|ab.dR (fun x:Int×Int=>iu aa v1 x.1 x.2) (fun x aS=>aS=⟨37,[(0,.cw [.str aa.Key,I aa.Target.ax,I aa.Target.aA,I aa.Target.aC,I aa.At,nW aa.aG,I aa.bb.cr,I aa.bb.To,I aa.Room]),(5,I v1),(6,I x.1),(15,nW aa.aG),(16,I (aa.aG.length:Int)),(17,I x.2)],[]⟩) h ?_ ?_
 ·exact aq.lq [] J J J
 ·intro x z1 aS J1 gS h mD gN
  obtain ⟨n4,n5⟩:=x
  obtain rfl:=gS
  replace h:iu aa v1 n4 n5=some z1:=h
  unfold iu at h
  refine aT<|ae.qv (cJ J J) J<|rN<|tS<|cD h J (fun h=>?_) (fun h=>?_)
  ·refine tK<|tS<|ab.block<|aT<|rM J J<|aU h fun v6 e2 h=>ae.qv (bS J J J e2 J J) J<|ae.qv (bw J J J) J<|bY J J J J fun b7=>rA J J<|aI J J J J .p0 J J<|rN<|aT<|rM J J<|rF J J J<|rL J J .p0 J J<|ae.qv (bQ J J) J<|rA J J<|rN<|aT<|rM J J<|rM J J<|ae.qv (cJ J J) J<|rN<|cD h J (fun h=>?_) (fun h=>?_)
   ·refine aT<|rM J J<|rA J J<|rN<|ab.ret<|have h:=cW h gN;?_
    cases h
    exact hP J J
   ·refine tK<|ab.dp<|tR<|ae.qv (bQ J J) J<|rM J J<|rN<|ab.stop<|?_
    cases h
    exact mD _ _ J<|aq.lq [] J J J
  ·refine ab.exit J<|have h:=cW h gN;aT<|rM J J<|ae.qv (bC J) J<|ae.qv (bn J J) J<|ae.qv (aR J J J) J<|ae.qv (dm J) J<|ae.qv (iY J J) J<|rA J J<|rN<|ab.ret<|?_
   cases h
   exact hP J J
theorem gE [GI:ck] {bW bX:Bk} {aa:ao} {ai:aj} {r:Bool} (h:bZ aa ai=r):Pu Tryz.prog 49 [.cw [.cw [.str aa.c_.Key,I aa.c_.Target.ax,I aa.c_.Target.aA,I aa.c_.Target.aC,I aa.c_.At,nW aa.c_.aG,I aa.c_.bb.cr,I aa.c_.bb.To,I aa.c_.Room],.bO bW,.bO bX,mz aa.open_,mz aa.ba,mz aa.aO,mz aa.aE,I aa.aQ,I aa.bM],.cw [I ai.ah.Kind,I ai.ah.Since,I ai.ah.Version.ax,I ai.ah.Version.aA,I ai.ah.Version.aC,I ai.ah.ct,I ai.aN.ax,I ai.aN.aA,I ai.aN.aC]] (.bool r):=by
 unfold bZ at h
 refine aY.ch Tryz.func49 J Tryz.ntmps49 Tryz.results49 J J ?_
 refine aT<|rA J J<|rN<|tS<|ab.di (id:=1) (A:=[0,1,3,7,15,0,32,96,224,480,992,2016,4095,8191]) 14 mixed J (by kernel_rfl) (by kernel_rfl)<|AM.qv (aX J) J<|AM.qv (bC J) J<|AM.qv (bn J J) J<|AM.qv (bn J J) J<|AM.qv (nD J J J J) J<|AM.qv (aX J) J<|AM.qv (bC J) J<|AM.qv (bn J J) J<|AM.qv (aR J J J) J<|AM.qv (bC J) J<|AM.qv (bn J J) J<|AM.qv (nD J J J J) J<|AM.qv (MD (g:=Version.av) (X:=ai.ah.Version) (Y:=aa.c_.Target) J J J J J) J<|AM.qv (bT J) J<|AM.nil<|rN<|ab.ret<|?_
 obtain rfl:=h
 exact hP J J
theorem nZ [GI:ck] {aa:Campaign} {ai:List DeviceS} {r:ao} (h:dM aa ai=some r):aY Tryz.prog 27 [.cw [.str aa.Key,I aa.Target.ax,I aa.Target.aA,I aa.Target.aC,I aa.At,nW aa.aG,I aa.bb.cr,I aa.bb.To,I aa.Room],xP ai] [] (T10 (fun oN Nx Ny Nz NA Cx NB R7 Jb NC=>[(oN,.cells [.cw [.str aa.Key,I aa.Target.ax,I aa.Target.aA,I aa.Target.aC,I aa.At,nW aa.aG,I aa.bb.cr,I aa.bb.To,I aa.Room],.bO Nx,.bO Ny,.sl 1 Nz 0 r.open_.length,.sl 1 NA 0 r.ba.length,.sl 1 Cx 0 r.aO.length,.sl 1 NB 0 r.aE.length,I r.aQ,I r.bM]),(Nx,.mp (r.kM.map (fun e=>(AV.str e.1,(pA Jb) e.2)))),(Ny,tq r.cj),(Nz,cI r.open_),(NA,cI r.ba),(Cx,cI r.aO),(NB,cI r.aE),(R7,.cC (fV pb Jb NC r.iA))]) (fun oN Nx Ny Nz NA Cx NB R7 Jb NC=>.ptr oN 0)):=by
 unfold dM at h
 refine aY.lD ?_
 refine aY.ch Tryz.func27 J Tryz.ntmps27 Tryz.results27 J J ?_
 refine ab.ghost (aq.Qi (kb:=pb) (fun b1 Wl bs3=>aq.here ?_))
 refine aT<|rA J J<|rN<|aT<|rM J J<|ae.qv (bC J) J<|ae.qv (bn J J) J<|ae.qv (aR J J J) J<|ae.qv (dm J) J<|rA J J<|rN<|tS<|aU h fun l6 e1 h=>aU h fun l8 e2 h=>aU h fun l10 e3 h=>ab.mh (id:=2) (A:=[0,0,0,0,8,0,32,0,128,0,512,1536,3584,8191,16383,32767]) (H0:=[]) (HH:=fun β=>[((β 1),.mp (([]:List (bq×Int)).map (fun e=>(AV.str e.1,(pA Wl) e.2)))),((β 2),tq []),((β 4),cI l6),((β 6),cI l8),((β 8),cI l10),(b1,.cC (fV pb Wl bs3 ([]:List aj)))]) 13 mixed J (by kernel_rfl) (by kernel_rfl) [⟨some 1,none,[],fun b=>(b,.mp (([]:List (bq×Int)).map (fun e=>(AV.str e.1,(pA Wl) e.2)))),none,[]⟩,⟨some 2,none,[],fun b=>(b,tq []),none,[]⟩,⟨some 4,none,[],fun b=>(b,cI l6),none,[]⟩,⟨some 6,none,[],fun b=>(b,cI l8),none,[]⟩,⟨some 8,none,[],fun b=>(b,cI l10),none,[]⟩] [1,2,4,6,8] J (by kernel_rfl) J .nil (fun _=>J)<|AT.am 1 J J<|AM.qv (aX J) J<|AM.nil<|AT.yO (V:=fun b=>.bO b) (Ti:=[]) (Pi:=fun b=>[(b,.mp (([]:List (bq×Int)).map (fun e=>(AV.str e.1,(pA Wl) e.2))))]) (fun _=>J) (fun _=>J) (fun _ _=>J) J (fun _=>J) J J J ?_ ?_
 ·exact xl J fun b4=>ae.nil ⟨b4,_,J,J⟩
 refine AT.yO (V:=fun b=>.bO b) (Ti:=[]) (Pi:=fun b=>[(b,tq [])]) (fun _=>J) (fun _=>J) (fun _ _=>J) J (fun _=>J) J J J ?_ ?_
 ·exact xl J fun b5=>ae.nil ⟨b5,_,J,J⟩
 refine AT.am 1 J J<|AM.qv (aX J) J<|AM.nil<|AT.yO (V:=fun b=>.sl 1 b 0 l6.length) (Ti:=[]) (Pi:=fun b=>[(b,cI l6)]) (fun _=>J) (fun _=>J) (fun _ _=>J) J (fun _=>J) J J J ?_ ?_
 ·exact wi (g:=I) (Z:=0) J J J J J J J J J e1 fun b7=>ae.nil ⟨b7,_,J,J⟩
 refine AT.am 1 J J<|AM.qv (aX J) J<|AM.nil<|AT.yO (V:=fun b=>.sl 1 b 0 l8.length) (Ti:=[]) (Pi:=fun b=>[(b,cI l8)]) (fun _=>J) (fun _=>J) (fun _ _=>J) J (fun _=>J) J J J ?_ ?_
 ·exact wi (g:=I) (Z:=0) J J J J J J J J J e2 fun b9=>ae.nil ⟨b9,_,J,J⟩
 refine AT.am 1 J J<|AM.qv (aX J) J<|AM.nil<|AT.yO (V:=fun b=>.sl 1 b 0 l10.length) (Ti:=[]) (Pi:=fun b=>[(b,cI l10)]) (fun _=>J) (fun _=>J) (fun _ _=>J) J (fun _=>J) J J J ?_ ?_
 ·exact wi (g:=I) (Z:=0) J J J J J J J J J e3 fun Fk=>ae.nil ⟨Fk,_,J,J⟩
 refine AT.am 4 J J<|AM.qv (aX J) J<|AM.qv (bC J) J<|AM.qv (bn J J) J<|AM.qv (aR J J J) J<|AM.nil<|AT.yd (fun _=>J) fun β=>?_
 generalize β 1=b4
 generalize β 2=b5
 generalize β 4=b7
 generalize β 6=b9
 generalize β 8=Fk
 clear β
 refine ae.qv (da J J J J J) J<|eA J J J J fun qd=>rA J J<|rN<|tS<|aT<|rM J J<|ae.qv (dm J) J<|rM J J<|rN<|ab.block<|ab.dR (fun x:(List aj)×(List (bq×Int))×(List (bq×Int))×(List Int)×Int=>gj aa ai l8 l10 x.1 x.2.1 x.2.2.1 x.2.2.2.1 x.2.2.2.2) (fun x aS=>∃ (QE:Nat→Bk) (TC:Nat→Nat→Bk),aS=⟨83,[(0,.cw [.str aa.Key,I aa.Target.ax,I aa.Target.aA,I aa.Target.aC,I aa.At,nW aa.aG,I aa.bb.cr,I aa.bb.To,I aa.Room]),(6,.ptr qd 0),(30,xP ai),(31,I (ai.length:Int)),(32,I x.2.2.2.2)],[(b1,.cC (fV pb QE TC x.1)),(qd,.cells [.cw [.str aa.Key,I aa.Target.ax,I aa.Target.aA,I aa.Target.aC,I aa.At,nW aa.aG,I aa.bb.cr,I aa.bb.To,I aa.Room],.bO b4,.bO b5,.sl 1 b7 0 x.2.2.2.1.length,.sl 1 b9 0 l8.length,.sl 1 Fk 0 l10.length,.nil,I (-1:Int),I aa.At]),(b4,.mp (x.2.1.map (fun e=>(AV.str e.1,(pA QE) e.2)))),(b5,tq x.2.2.1),(b7,cI x.2.2.2.1),(b9,cI l8),(Fk,cI l10)]⟩) h ?_ ?_
 ·exact aq.lq [6,0,0,0,0,0,0] ⟨Wl,bs3,J⟩ J J
 ·intro x z1 aS J1 gS h mD gN
  obtain ⟨ja,rO,AK,sJ,n26⟩:=x
  obtain ⟨QE,TC,rfl⟩:=gS
  replace h:gj aa ai l8 l10 ja rO AK sJ n26=some z1:=h
  unfold gj at h
  refine aT<|ae.qv (cJ J J) J<|rN<|tS<|cD h J (fun h=>?_) (fun h=>?_)
  ·refine tK<|tS<|ab.block<|aT<|aU h fun jV e4 h=>ae.qv (bS J J J e4 J J) J<|ae.qv (bw J J J) J<|bY J J J J fun Lo=>aI J J J J .p0 J J<|rN<|aT<|rF J J J<|ae.qv (aP J J .p0 J J) J<|ae.qv (da J J J J J) J<|ae.qv (da J J J J J) J<|eA J J J J fun b29=>rA J J<|rN<|tS<|aU h fun u30 e5 h=>ab.ghost (aq.Qo (kb:=pb) (v:=(⟨(⟨0,0,jV.bB,0⟩:ah),(⟨0,0,0⟩:Version)⟩:aj)) (s:=nbk []) (.cons .p0 .nil) J (fun _ _=>.p1) (fun vR QF ZG Wm=>aq.here ?_))
   refine ab.ghost<|aq.YN (V2 ZG e5) .p3<|aq.here<|ab.ghost<|aq.eqs (s:=40) (rf:=.ptr (vR (ja.length:Int).toNat) 0) J (Nn Wm _)<|aq.here<|ab.ghost<|aq.eqs (s:=9) (rf:=.ptr (vR (ja.length:Int).toNat) 0) J (Nn Wm _)<|aq.here<|aU h fun v33 e7 h=>ab.ghost (aq.RZ (k:=.str jV.Key) (fun _=>.p3) (fun TE=>aq.here ?_))
   refine ab.mh (id:=7) (A:=[0,1,3,7,0,16,0,64,192,448,0,1024,0,0,0,16384,57344,123903,254975,521215,1048575,2097151,4194303]) (H0:=[(b4,.EN (rO.map (fun e=>(AV.str e.1,(pA vR) e.2))) TE (.str jV.Key))]) (HH:=fun β=>[(b4,.mp ((dX rO jV.Key (ja.length:Int)).map (fun e=>(AV.str e.1,(pA vR) e.2)))),(Lo,.cells (Pg jV)),(b1,.cC (fV pb vR QF (ja++[(⟨(⟨0,0,jV.bB,0⟩:ah),(⟨0,0,0⟩:Version)⟩:aj)]))),(qd,.cells [.cw [.str aa.Key,I aa.Target.ax,I aa.Target.aA,I aa.Target.aC,I aa.At,nW aa.aG,I aa.bb.cr,I aa.bb.To,I aa.Room],.bO b4,.bO b5,.sl 1 b7 0 sJ.length,.sl 1 b9 0 l8.length,.sl 1 Fk 0 l10.length,.nil,I (-1:Int),I aa.At]),(b5,tq AK),(b7,cI sJ),(b9,cI l8),(Fk,cI l10)]) 20 mixed J (by kernel_rfl) (by kernel_rfl) [⟨none,some 17,[],fun _=>(b4,.EN (rO.map (fun e=>(AV.str e.1,(pA vR) e.2))) TE (.str jV.Key)),none,[]⟩,⟨some 17,some 19,[],fun _=>(b4,.EN ((dX (rn rO) jV.Key (bj rO jV.Key)).map fun e=>(AV.str e.1,pQ vR e.2)) TE (.str jV.Key)),none,[]⟩,⟨some 19,none,[],fun _=>(b4,.mp ((dX rO jV.Key (ja.length:Int)).map (fun e=>(AV.str e.1,(pA vR) e.2)))),none,[]⟩] [] J (by kernel_rfl) J (.cons .p3 .nil) (fun _=>J)<|AT.am 17 J J<|AM.qv (aX J) J<|AM.qv (ay J) J<|AM.qv (aB J J) J<|AM.qv (aJ J J .p2 J) J<|AM.qv (aB J J) J<|AM.qv (aJ J J .p0 J) J<|AM.qv (aX J) J<|AM.qv (ay J) J<|AM.qv (aB J J) J<|AM.qv (aJ J J .p2 J) J<|AM.qv (aB J J) J<|AM.qv (aJ J J .p0 J) J<|AM.qv (aX J) J<|AM.qv (aX J) J<|AM.qv (aB J J) J<|AM.qv (aJ J J .p0 J) J<|AM.kA J (tL e7) cR J<|AM.nil<|AT.ID (av:=.ma [pQ vR (bj rO jV.Key),I ((TE:Nat):Int)]) (Ti:=[(b4,.EN (rO.map (fun e=>(AV.str e.1,(pA vR) e.2))) TE (.str jV.Key))]) (Pi:=[(b4,.EN ((dX (rn rO) jV.Key (bj rO jV.Key)).map fun e=>(AV.str e.1,pQ vR e.2)) TE (.str jV.Key))]) (fun _=>J) (fun _=>J) (fun _=>J) J J J ?_ ?_
   ·exact G0 (gk:=AV.str) (bo:=vR) (M:=rO) (key:=jV.Key) J J J J .p0 J<|ae.nil ⟨_,J,J⟩
   refine AT.am 1 J J<|AM.qv (jH J J) J<|AM.nil<|AT.MP (Ti:=[(b4,.EN ((dX (rn rO) jV.Key (bj rO jV.Key)).map fun e=>(AV.str e.1,pQ vR e.2)) TE (.str jV.Key))]) (Pi:=[(b4,.mp ((dX rO jV.Key (ja.length:Int)).map (fun e=>(AV.str e.1,(pA vR) e.2))))]) (fun _=>J) (fun _=>J) (fun _=>J) J J ?_ ?_
   ·exact Dt (kt:=9) (gk:=AV.str) (bo:=vR) (M:=rO) (key:=jV.Key) (v':=(ja.length:Int)) J J J J .p0<|ae.nil ⟨_,J⟩
   refine AT.yd (fun _=>J) fun β=>ae.ghost<|aq.RZ (k:=.str jV.Key) (fun _=>.p4) fun ajC=>aq.here<|aU h fun J9 e9 h=>Cm (gk:=AV.str) (gv:=I) (M:=AK) (key:=jV.Key) (Z:=0) (v:=J9) J J J J J e9 .p4 J<|rX J J J<|yX (kt:=9) (gk:=AV.str) (gv:=I) (M:=AK) (key:=jV.Key) (v:=J9) (v':=v33) J J J J .p4<|rN<|aT<|rM J J<|rM J J<|gb J (gE (J:bZ (⟨aa,dX rO jV.Key (ja.length:Int),dX AK jV.Key v33,sJ,l8,l10,[],(-1:Int),aa.At,ja++[(⟨(⟨0,0,jV.bB,0⟩:ah),(⟨0,0,0⟩:Version)⟩:aj)]⟩:ao) (⟨(⟨0,0,jV.bB,0⟩:ah),(⟨0,0,0⟩:Version)⟩:aj)=_)) (.cons (.xB _ _ _ .p3 (.cons (.co (.refl _)) (.cons (.co (.refl _)) (.cons (.co (.refl _)) (.cons (ku.jS .p5) (.cons (ku.jS .p6) (.cons (ku.jS .p7) (.cons (.co (.nil _)) (.cons (.co (.refl _)) (.cons (.co (.refl _)) .nil)))))))))) (.cons (ku.AI (bp:=b1) (kb:=pb) (bs:=QF) (M:=(ja++[(⟨(⟨0,0,jV.bB,0⟩:ah),(⟨0,0,0⟩:Version)⟩:aj)])) R4 (Qp _ _) .p2) .nil)) J J<|ae.qv (dc J) J<|rN<|ab.cut (fun aS=>∃ (qh:List Int),iM ja rO AK n26 jV v33 qh=some z1∧aS=⟨83,[(0,.cw [.str aa.Key,I aa.Target.ax,I aa.Target.aA,I aa.Target.aC,I aa.At,nW aa.aG,I aa.bb.cr,I aa.bb.To,I aa.Room]),(6,.ptr qd 0),(30,xP ai),(31,I (ai.length:Int)),(32,I n26)],[(b1,.cC (fV pb vR QF (ja++[(⟨(⟨0,0,jV.bB,0⟩:ah),(⟨0,0,0⟩:Version)⟩:aj)]))),(qd,.cells [.cw [.str aa.Key,I aa.Target.ax,I aa.Target.aA,I aa.Target.aC,I aa.At,nW aa.aG,I aa.bb.cr,I aa.bb.To,I aa.Room],.bO b4,.bO b5,.sl 1 b7 0 qh.length,.sl 1 b9 0 l8.length,.sl 1 Fk 0 l10.length,.nil,I (-1:Int),I aa.At]),(b4,.mp ((dX rO jV.Key (ja.length:Int)).map (fun e=>(AV.str e.1,(pA vR) e.2)))),(b5,tq (dX AK jV.Key v33)),(b7,cI qh),(b9,cI l8),(Fk,cI l10)]⟩) ?_ ?_
   ·refine cB h J (fun h=>?_) (fun h=>?_)
    ·exact ab.di (id:=9) (A:=[0,1,3,7,0,16,48,112,0,256,1008,2047,4095,8191,16383,32767]) 15 mixed J (by kernel_rfl) (by kernel_rfl)<|AM.qv (aX J) J<|AM.qv (ay J) J<|AM.qv (aB J J) J<|AM.qv (aJ J J .p3 J) J<|AM.qv (aX J) J<|AM.qv (ay J) J<|AM.qv (aB J J) J<|AM.qv (aJ J J .p3 J) J<|AM.qv (aB J J) J<|AM.qv (aJ J J .p1 J) J<|aU h fun Qx Cy h=>AM.qv (yT (gk:=AV.str) (gv:=I) (M:=(dX AK jV.Key v33)) (key:=jV.Key) (Z:=0) J J .p4 J J J Cy J) J<|aU h fun v37 Hg h=>AM.qv (cm J J J Hg) J<|AM.qv (eS (g:=I) J J (.inl .p5) Hg J) J<|AM.qv (bQ J J) J<|aU h fun zG I9 h=>AM.qv (cm J J J I9) J<|AM.nil<|lg (g:=I) (H7:=bA (v37+1)) J J J J I9 J .p5 J<|ae.ghost<|aq.eqs (s:=69) (rf:=.sl 1 b7 0 (sJ.set Qx.toNat (bA (v37+1))).length) J (by rw [ac])<|aq.here<|ae.ghost<|aq.DW (j:=3) (rf:=.sl 1 b7 0 (sJ.set Qx.toNat (bA (v37+1))).length) .p3 J (by rw [ac]) J<|aq.here<|rN<|ab.stop<|aq.lq [2,2,0,1,1,1,1] ⟨sJ.set Qx.toNat (bA (v37+1)),h,J⟩ J J
    ·exact tK<|ab.stop<|aq.lq [2,2,0,1,1,1,1] ⟨sJ,h,J⟩ J J
   ·rintro aS ⟨qh,h,rfl⟩
    unfold iM at h
    refine ab.dp<|tR<|ae.qv (bQ J J) J<|rM J J<|rN<|ab.stop<|?_
    cases h
    exact mD _ _ J<|aq.lq [0,0,0,0,0,0,0] ⟨vR,QF,J⟩ J J
  ·refine ab.exit J<|have h:=cW h gN;aT<|rM J J<|rA J J<|rN<|ab.ret<|?_
   cases h
   exact aq.IF (j:=6) 1 (fun _=>.p1) J (fun _=>J) (fun _=>J) fun Ja=>aq.here ⟨_,.cons (.tmp _ _ J) .nil,_,.cons .p2 (.cons .p2 (.cons .p2 (.cons .p2 (.cons .p2 (.cons .p2 (.cons .p0 (.cons .p0 .nil))))))),⟨qd,b4,b5,b7,b9,Fk,Ja,b1,QE,TC,J,J⟩⟩
theorem gG [GI:ck] {cU bW bX bU bP ca cH:Bk} {aa:ao} {ai:Int} {r:ao} (h:bD aa ai=some r):aY Tryz.prog 28 [.ptr cU 0,I ai] [(cU,.cells [.cw [.str aa.c_.Key,I aa.c_.Target.ax,I aa.c_.Target.aA,I aa.c_.Target.aC,I aa.c_.At,nW aa.c_.aG,I aa.c_.bb.cr,I aa.c_.bb.To,I aa.c_.Room],.bO bW,.bO bX,.sl 1 bU 0 aa.open_.length,.sl 1 bP 0 aa.ba.length,.sl 1 ca 0 aa.aO.length,.sl 1 cH 0 aa.aE.length,I aa.aQ,I aa.bM]),(bU,cI aa.open_),(bP,cI aa.ba),(ca,cI aa.aO),(cH,cI aa.aE)] (T4 (fun wE wF wG wH=>[(cU,.cells [.cw [.str aa.c_.Key,I aa.c_.Target.ax,I aa.c_.Target.aA,I aa.c_.Target.aC,I aa.c_.At,nW aa.c_.aG,I aa.c_.bb.cr,I aa.c_.bb.To,I aa.c_.Room],.bO bW,.bO bX,.sl 1 wE 0 r.open_.length,.sl 1 wF 0 r.ba.length,.sl 1 wG 0 r.aO.length,.sl 1 wH 0 r.aE.length,I r.aQ,I r.bM]),(wE,cI r.open_),(wF,cI r.ba),(wG,cI r.aO),(wH,cI r.aE)]) (fun wE wF wG wH=>.ma [])):=by
 unfold bD at h
 refine aY.lD ?_
 refine aY.ch Tryz.func28 J Tryz.ntmps28 Tryz.results28 J J ?_
 refine ab.block<|ab.dR (fun x:(List Int)×Int=>bF aa ai x.1 x.2) (fun x aS=>∃ (b4:Bk),aS=⟨161,[(0,.ptr cU 0),(1,I ai)],[(cU,.cells [.cw [.str aa.c_.Key,I aa.c_.Target.ax,I aa.c_.Target.aA,I aa.c_.Target.aC,I aa.c_.At,nW aa.c_.aG,I aa.c_.bb.cr,I aa.c_.bb.To,I aa.c_.Room],.bO bW,.bO bX,.sl 1 bU 0 aa.open_.length,.sl 1 bP 0 aa.ba.length,.sl 1 ca 0 aa.aO.length,.sl 1 b4 0 x.1.length,I aa.aQ,I x.2]),(bU,cI aa.open_),(bP,cI aa.ba),(ca,cI aa.aO),(b4,cI x.1)]⟩) h ?_ ?_
 ·exact aq.lq [0,0,0,0,0] ⟨cH,J⟩ J J
 ·intro x z1 aS J1 gS h mD gN
  obtain ⟨l5,n6⟩:=x
  obtain ⟨b4,rfl⟩:=gS
  replace h:bF aa ai l5 n6=some z1:=h
  unfold bF at h
  refine ab.block<|aT<|rM J J<|ae.qv (ay J) J<|rF J J J<|rL J J .p0 J J<|ae.qv (iH J) J<|rA J J<|rN<|tS<|tS<|ab.cut (fun aS=>∃ (c7:Bool),bE aa ai l5 n6 c7=some z1∧aS=⟨161,[(0,.ptr cU 0),(1,I ai),(4,I (l5.length:Int)),(54,.bool c7)],[(cU,.cells [.cw [.str aa.c_.Key,I aa.c_.Target.ax,I aa.c_.Target.aA,I aa.c_.Target.aC,I aa.c_.At,nW aa.c_.aG,I aa.c_.bb.cr,I aa.c_.bb.To,I aa.c_.Room],.bO bW,.bO bX,.sl 1 bU 0 aa.open_.length,.sl 1 bP 0 aa.ba.length,.sl 1 ca 0 aa.aO.length,.sl 1 b4 0 l5.length,I aa.aQ,I n6]),(bU,cI aa.open_),(bP,cI aa.ba),(ca,cI aa.aO),(b4,cI l5)]⟩) ?_ ?_
  ·refine tR<|rM J J<|ae.qv (ay J) J<|rF J J J<|rL J J .p0 J J<|ae.qv (cJ J J) J<|rM J J<|gT h J J J (fun h=>?_) (fun h=>?_)
   ·refine rM J J<|rY J J J<|ae.qv (jj J J) J<|rT J J J<|rM J J<|gT h J J J (fun h=>?_) (fun h=>?_)
    ·refine rM J J<|rY J J J<|rM J J<|rY J J J<|ae.qv (ay J) J<|rY J J J<|rF J J J<|rY J J J<|rL J J .p0 J J<|rY J J J<|ae.qv (bC J) J<|rY J J J<|ae.qv (bn J J) J<|rY J J J<|ae.qv (aR J J J) J<|rY J J J<|ae.qv (dm J) J<|rY J J J<|ae.qv (cJ J J) J<|rT J J J<|rM J J<|gT h J J J (fun h=>?_) (fun h=>?_)
     ·refine rM J J<|rY J J J<|ae.qv (ay J) J<|rY J J J<|rF J J J<|rY J J J<|rL J J .p0 J J<|rY J J J<|rM J J<|rY J J J<|ae.qv (iY J J) J<|rY J J J<|aU h fun v8 e1 h=>ae.qv (cm J J J e1) J<|rY J J J<|ae.qv (eS (g:=I) J J (.inl .p1) e1 J) J<|rY J J J<|ae.qv (fY J J) J<|rT J J J<|rM J J<|gT h J J J (fun h=>?_) (fun h=>?_)
      ·exact rM J J<|rY J J J<|rM J J<|rY J J J<|ae.qv (ay J) J<|rY J J J<|rF J J J<|rY J J J<|rL J J .p0 J J<|rY J J J<|rM J J<|rY J J J<|ae.qv (iY J J) J<|rY J J J<|aU h fun v9 e2 h=>ae.qv (cm J J J e2) J<|rY J J J<|ae.qv (eS (g:=I) J J (.inl .p4) e2 J) J<|rY J J J<|ae.qv (ri J J) J<|rT J J J<|rN<|ab.stop<|aq.lq [0,0,0,0,0] ⟨decide (v9≤ai),h,J⟩ J J
      ·exact rG J J J J<|rG J J J J<|rG J J J J<|rG J J J J<|rG J J J J<|rG J J J J<|rG J J J J<|rG J J J J<|rG J J J J<|rE J J J<|rN<|ab.stop<|aq.lq [0,0,0,0,0] ⟨false,h,J⟩ J J
     ·exact rG J J J J<|rG J J J J<|rG J J J J<|rG J J J J<|rG J J J J<|rG J J J J<|rG J J J J<|rG J J J J<|rE J J J<|rM J J<|rG J J J J<|rG J J J J<|rG J J J J<|rG J J J J<|rG J J J J<|rG J J J J<|rG J J J J<|rG J J J J<|rG J J J J<|rG J J J J<|rE J J J<|rN<|ab.stop<|aq.lq [0,0,0,0,0] ⟨false,h,J⟩ J J
    ·exact rG J J J J<|rG J J J J<|rG J J J J<|rG J J J J<|rG J J J J<|rG J J J J<|rG J J J J<|rG J J J J<|rG J J J J<|rE J J J<|rM J J<|rG J J J J<|rG J J J J<|rG J J J J<|rG J J J J<|rG J J J J<|rG J J J J<|rG J J J J<|rG J J J J<|rG J J J J<|rE J J J<|rM J J<|rG J J J J<|rG J J J J<|rG J J J J<|rG J J J J<|rG J J J J<|rG J J J J<|rG J J J J<|rG J J J J<|rG J J J J<|rG J J J J<|rE J J J<|rN<|ab.stop<|aq.lq [0,0,0,0,0] ⟨false,h,J⟩ J J
   ·exact rG J J J J<|rE J J J<|rM J J<|rG J J J J<|rG J J J J<|rG J J J J<|rG J J J J<|rG J J J J<|rG J J J J<|rG J J J J<|rG J J J J<|rG J J J J<|rG J J J J<|rE J J J<|rM J J<|rG J J J J<|rG J J J J<|rG J J J J<|rG J J J J<|rG J J J J<|rG J J J J<|rG J J J J<|rG J J J J<|rG J J J J<|rE J J J<|rM J J<|rG J J J J<|rG J J J J<|rG J J J J<|rG J J J J<|rG J J J J<|rG J J J J<|rG J J J J<|rG J J J J<|rG J J J J<|rG J J J J<|rE J J J<|rN<|ab.stop<|aq.lq [0,0,0,0,0] ⟨false,h,J⟩ J J
  ·rintro aS ⟨c7,h,rfl⟩
   unfold bE at h
   refine ab.cut (fun aS=>∃ (n10:Int),bJ aa ai l5 n10=some z1∧aS=⟨161,[(0,.ptr cU 0),(1,I ai),(4,I (l5.length:Int))],[(cU,.cells [.cw [.str aa.c_.Key,I aa.c_.Target.ax,I aa.c_.Target.aA,I aa.c_.Target.aC,I aa.c_.At,nW aa.c_.aG,I aa.c_.bb.cr,I aa.c_.bb.To,I aa.c_.Room],.bO bW,.bO bX,.sl 1 bU 0 aa.open_.length,.sl 1 bP 0 aa.ba.length,.sl 1 ca 0 aa.aO.length,.sl 1 b4 0 l5.length,I aa.aQ,I n10]),(bU,cI aa.open_),(bP,cI aa.ba),(ca,cI aa.aO),(b4,cI l5)]⟩) ?_ ?_
   ·refine cB h J (fun h=>?_) (fun h=>?_)
    ·exact tR<|rM J J<|rM J J<|rM J J<|ae.qv (ay J) J<|rF J J J<|rL J J .p0 J J<|ae.qv (bC J) J<|ae.qv (bn J J) J<|ae.qv (aR J J J) J<|rM J J<|aU h fun v11 e3 h=>ae.qv (bS J J J e3 J J) J<|ae.qv (bn J J) J<|ae.qv (aR J J J) J<|ae.qv (bQ J J) J<|ae.qv (ay J) J<|rF J J J<|aI J J J J .p0 J J<|rN<|ab.stop<|aq.lq [0,0,0,0,0] ⟨bA (ai+v11.oo),h,J⟩ J J
    ·exact tK<|ab.stop<|aq.lq [0,0,0,0,0] ⟨n6,h,J⟩ J J
   ·rintro aS ⟨n10,h,rfl⟩
    unfold bJ at h
    refine tS<|tS<|ab.cut (fun aS=>∃ (c12:Bool),eJ aa l5 n10 c12=some z1∧aS=⟨161,[(0,.ptr cU 0),(1,I ai),(4,I (l5.length:Int)),(105,.bool c12)],[(cU,.cells [.cw [.str aa.c_.Key,I aa.c_.Target.ax,I aa.c_.Target.aA,I aa.c_.Target.aC,I aa.c_.At,nW aa.c_.aG,I aa.c_.bb.cr,I aa.c_.bb.To,I aa.c_.Room],.bO bW,.bO bX,.sl 1 bU 0 aa.open_.length,.sl 1 bP 0 aa.ba.length,.sl 1 ca 0 aa.aO.length,.sl 1 b4 0 l5.length,I aa.aQ,I n10]),(bU,cI aa.open_),(bP,cI aa.ba),(ca,cI aa.aO),(b4,cI l5)]⟩) ?_ ?_
    ·refine ab.di (id:=3) (A:=[0,1,3,7,15,31,63,127,255,511,63,2047,4095,8191,16383,32767,65535,131071,262143,524287,1048575,2097151,4194303,8388607,16777215,33554431,67108863,134217727,16777215,285212671,822083583,1895825407,4294967295,8589934591,17179869183]) 35 mixed J (by kernel_rfl) (by kernel_rfl)<|AM.qv (aX J) J<|AM.qv (ay J) J<|AM.qv (aB J J) J<|AM.qv (aJ J J .p0 J) J<|AM.qv (cJ J J) J<|AM.qv (aX J) J<|AM.ek J J J (fun hc=>?_) (fun hc=>?_)
     ·rw [yK hc] at h
      refine AM.qv (aX J) J<|AM.aD J J J<|AM.qv (ay J) J<|AM.aD J J J<|AM.qv (aB J J) J<|AM.aD J J J<|AM.qv (aJ J J .p0 J) J<|AM.aD J J J<|AM.qv (aX J) J<|AM.aD J J J<|AM.qv (jj J J) J<|AM.qv (eQ J J) J<|AM.qv (aX J) J<|AM.ek J J J (fun hc=>?_) (fun hc=>?_)
      ·rw [yK hc] at h
       refine AM.qv (aX J) J<|AM.aD J J J<|AM.qv (jj J J) J<|AM.aD J J J<|AM.qv (aX J) J<|AM.dq J J J (fun hc=>?_) (fun hc=>?_)
       ·rw [sR hc] at h
        refine AM.qv (aX J) J<|AM.aD J J J<|AM.qv (ay J) J<|AM.aD J J J<|AM.qv (aB J J) J<|AM.aD J J J<|AM.qv (aJ J J .p0 J) J<|AM.aD J J J<|AM.qv (ri J J) J<|AM.aD J J J<|AM.qv (gr J J) J<|AM.aD J J J<|AM.qv (aX J) J<|AM.dq J J J (fun hc=>?_) (fun hc=>?_)
        ·rw [sR hc] at h
         exact AM.qv (aX J) J<|AM.aD J J J<|AM.qv (ay J) J<|AM.aD J J J<|AM.qv (aB J J) J<|AM.aD J J J<|AM.qv (aJ J J .p0 J) J<|AM.aD J J J<|AM.qv (aX J) J<|AM.aD J J J<|AM.qv (ay J) J<|AM.aD J J J<|AM.qv (aB J J) J<|AM.aD J J J<|AM.qv (aJ J J .p0 J) J<|AM.aD J J J<|AM.qv (sM J J) J<|AM.aD J J J<|AM.qv (gr J J) J<|AM.qv (eQ J J) J<|AM.nil<|rN<|ab.stop<|aq.lq [0,0,0,0,0] ⟨decide (aa.aQ≤n10),h,J⟩ J J
        ·rw [sS hc] at h
         exact AM.az J J J J<|AM.az J J J J<|AM.az J J J J<|AM.az J J J J<|AM.az J J J J<|AM.az J J J J<|AM.az J J J J<|AM.az J J J J<|AM.aD J J J<|AM.qv (eQ J J) J<|AM.qv (eQ J J) J<|AM.nil<|rN<|ab.stop<|aq.lq [0,0,0,0,0] ⟨false,h,J⟩ J J
       ·rw [sS hc] at h
        exact AM.az J J J J<|AM.az J J J J<|AM.az J J J J<|AM.az J J J J<|AM.aD J J J<|AM.qv (eQ J J) J<|AM.aD J J J<|AM.qv (aX J) J<|AM.az J J J J<|AM.az J J J J<|AM.az J J J J<|AM.az J J J J<|AM.az J J J J<|AM.az J J J J<|AM.az J J J J<|AM.az J J J J<|AM.az J J J J<|AM.aD J J J<|AM.qv (eQ J J) J<|AM.qv (eQ J J) J<|AM.nil<|rN<|ab.stop<|aq.lq [0,0,0,0,0] ⟨false,h,J⟩ J J
      ·rw [yJ hc] at h
       exact AM.az J J J J<|AM.az J J J J<|AM.aV J J J<|AM.aV J J J<|AM.aV J J J<|AM.aV J J J<|AM.aV J J J<|AM.az J J J J<|AM.az J J J J<|AM.aV J J J<|AM.aV J J J<|AM.aV J J J<|AM.aV J J J<|AM.aV J J J<|AM.aV J J J<|AM.aV J J J<|AM.aV J J J<|AM.aV J J J<|AM.az J J J J<|AM.qv (gr J J) J<|AM.nil<|rN<|ab.stop<|aq.lq [0,0,0,0,0] ⟨true,h,J⟩ J J
     ·rw [yJ hc] at h
      exact AM.az J J J J<|AM.az J J J J<|AM.az J J J J<|AM.az J J J J<|AM.az J J J J<|AM.qv (gr J J) J<|AM.qv (aX J) J<|AM.az J J J J<|AM.az J J J J<|AM.az J J J J<|AM.aV J J J<|AM.aV J J J<|AM.aV J J J<|AM.aV J J J<|AM.aV J J J<|AM.az J J J J<|AM.az J J J J<|AM.aV J J J<|AM.aV J J J<|AM.aV J J J<|AM.aV J J J<|AM.aV J J J<|AM.aV J J J<|AM.aV J J J<|AM.aV J J J<|AM.aV J J J<|AM.az J J J J<|AM.qv (gr J J) J<|AM.nil<|rN<|ab.stop<|aq.lq [0,0,0,0,0] ⟨true,h,J⟩ J J
    ·rintro aS ⟨c12,h,rfl⟩
     unfold eJ at h
     refine cB h J (fun h=>?_) (fun h=>?_)
     ·refine ab.ret<|have h:=cW h gN;?_
      cases h
      exact aq.here ⟨_,.nil,_,.cons .p0 (.cons .p0 (.cons .p0 (.cons .p0 (.cons .p0 .nil)))),⟨bU,bP,ca,b4,J,J⟩⟩
     ·refine tK<|aT<|rM J J<|ae.qv (ay J) J<|rF J J J<|rL J J .p0 J J<|rA J J<|rN<|aT<|rM J J<|rM J J<|rM J J<|ae.qv (ay J) J<|rF J J J<|rL J J .p0 J J<|rM J J<|bf (xs:=([n10]:List Int).map I) J J J J J J<|aU h fun sb e4 h=>fO (g:=I) J J J J J J J J (.list _) e4 (fun _=>.p4) J fun F6=>ae.qv (ay J) J<|rF J J J<|aI J J J J .p0 J J<|ae.qv (ay J) J<|rF J J J<|aI J J J J .p0 J J<|rN<|tS<|ab.cut (fun aS=>∃ (V5:Bool),cG aa l5 n10 sb V5=some z1∧aS=⟨161,[(0,.ptr cU 0),(1,I ai),(4,I (l5.length:Int)),(5,I n10),(143,.bool V5)],[(cU,.cells [.cw [.str aa.c_.Key,I aa.c_.Target.ax,I aa.c_.Target.aA,I aa.c_.Target.aC,I aa.c_.At,nW aa.c_.aG,I aa.c_.bb.cr,I aa.c_.bb.To,I aa.c_.Room],.bO bW,.bO bX,.sl 1 bU 0 aa.open_.length,.sl 1 bP 0 aa.ba.length,.sl 1 ca 0 aa.aO.length,.sl 1 F6 0 sb.length,I aa.aQ,I (-1:Int)]),(bU,cI aa.open_),(bP,cI aa.ba),(ca,cI aa.aO),(F6,cI sb)]⟩) ?_ ?_
      ·refine tR<|rM J J<|ae.qv (bQ J J) J<|rM J J<|ae.qv (ay J) J<|rF J J J<|rL J J .p0 J J<|ae.qv (bC J) J<|ae.qv (bn J J) J<|ae.qv (aR J J J) J<|ae.qv (dm J) J<|ae.qv (cJ J J) J<|rM J J<|gT h J J J (fun h=>?_) (fun h=>?_)
       ·exact rM J J<|rY J J J<|ae.qv (ay J) J<|rY J J J<|rF J J J<|rY J J J<|rL J J .p0 J J<|rY J J J<|rM J J<|rY J J J<|aU h fun Cw e5 h=>ae.qv (cm J J J e5) J<|rY J J J<|ae.qv (eS (g:=I) J J (.inl .p1) e5 J) J<|rY J J J<|ae.qv (fY J J) J<|rT J J J<|rN<|ab.stop<|aq.lq [0,0,0,0,0] ⟨decide (Cw=0),h,J⟩ J J
       ·exact rG J J J J<|rG J J J J<|rG J J J J<|rG J J J J<|rG J J J J<|rG J J J J<|rG J J J J<|rE J J J<|rN<|ab.stop<|aq.lq [0,0,0,0,0] ⟨false,h,J⟩ J J
      ·rintro aS ⟨V5,h,rfl⟩
       unfold cG at h
       refine ab.cut (fun aS=>∃ (n17:Int),cF sb n17=some z1∧aS=⟨161,[(0,.ptr cU 0),(1,I ai)],[(cU,.cells [.cw [.str aa.c_.Key,I aa.c_.Target.ax,I aa.c_.Target.aA,I aa.c_.Target.aC,I aa.c_.At,nW aa.c_.aG,I aa.c_.bb.cr,I aa.c_.bb.To,I aa.c_.Room],.bO bW,.bO bX,.sl 1 bU 0 aa.open_.length,.sl 1 bP 0 aa.ba.length,.sl 1 ca 0 aa.aO.length,.sl 1 F6 0 sb.length,I aa.aQ,I n17]),(bU,cI aa.open_),(bP,cI aa.ba),(ca,cI aa.aO),(F6,cI sb)]⟩) ?_ ?_
       ·refine cB h J (fun h=>?_) (fun h=>?_)
        ·exact tR<|rM J J<|rM J J<|rM J J<|ae.qv (ay J) J<|rF J J J<|rL J J .p0 J J<|ae.qv (bC J) J<|ae.qv (bn J J) J<|ae.qv (aR J J J) J<|rM J J<|ae.qv (bQ J J) J<|aU h fun Lk e6 h=>ae.qv (bS J J J e6 J J) J<|ae.qv (bn J J) J<|ae.qv (aR J J J) J<|ae.qv (bQ J J) J<|ae.qv (ay J) J<|rF J J J<|aI J J J J .p0 J J<|rN<|ab.stop<|aq.lq [0,0,0,0,0] ⟨bA (n10+Lk.oo),h,J⟩ J J
        ·exact tK<|ab.stop<|aq.lq [0,0,0,0,0] ⟨(-1:Int),h,J⟩ J J
       ·rintro aS ⟨n17,h,rfl⟩
        unfold cF at h
        refine ab.dp<|ab.stop<|?_
        cases h
        exact mD _ _ J<|aq.lq [0,0,0,0,0] ⟨F6,J⟩ J J
theorem rV [GI:ck] {aa:List bq} {ai:bq} {r:Int} (h:eV aa ai=some r):Pu Tryz.prog 68 [y7 aa,.str ai] (I r):=by
 unfold eV at h
 refine aY.ch Tryz.func68 J Tryz.ntmps68 Tryz.results68 J J ?_
 refine aT<|rA J J<|rN<|tS<|aT<|rM J J<|ae.qv (dm J) J<|rM J J<|rN<|ab.block<|ab.dR (fun x:Int=>cu aa ai x) (fun x aS=>aS=⟨19,[(0,y7 aa),(1,.str ai),(7,I (aa.length:Int)),(8,I x)],[]⟩) h ?_ ?_
 ·exact aq.lq [] J J J
 ·intro n2 z1 aS J1 gS h mD gN
  obtain rfl:=gS
  replace h:cu aa ai n2=some z1:=h
  unfold cu at h
  refine aT<|ae.qv (cJ J J) J<|rN<|tS<|cD h J (fun h=>?_) (fun h=>?_)
  ·refine tK<|tS<|ab.block<|aT<|rM J J<|rA J J<|rN<|aT<|rM J J<|rM J J<|rM J J<|aU h fun v3 e1 h=>ae.qv (bS J J J e1 J J) J<|ae.qv (aR J J J) J<|ae.qv (Ge J J) J<|rN<|cD h J (fun h=>?_) (fun h=>?_)
   ·refine aT<|rM J J<|rA J J<|rN<|ab.ret<|have h:=cW h gN;?_
    cases h
    exact hP J J
   ·refine tK<|ab.dp<|tR<|ae.qv (bQ J J) J<|rM J J<|rN<|ab.stop<|?_
    cases h
    exact mD _ _ J<|aq.lq [] J J J
  ·refine ab.exit J<|have h:=cW h gN;aT<|rA J J<|rN<|ab.ret<|?_
   cases h
   exact hP J J
theorem gU [GI:ck] {aa:List bq} {ai:bq} {r:Bool} (h:bL aa ai=some r):Pu Tryz.prog 50 [y7 aa,.str ai] (.bool r):=by
 unfold bL at h
 refine aY.ch Tryz.func50 J Tryz.ntmps50 Tryz.results50 J J ?_
 refine aT<|rA J J<|rN<|aT<|rM J J<|rM J J<|aU h fun v1 e1 h=>bl J (rV e1) cR J<|ae.qv (ri J J) J<|rA J J<|rN<|ab.ret<|?_
 cases h
 exact hP J J
theorem ym [GI:ck] {aa:Campaign} {ai aL:Int} {r:Bool} (h:jJ aa ai aL=r):Pu Tryz.prog 69 [.cw [.str aa.Key,I aa.Target.ax,I aa.Target.aA,I aa.Target.aC,I aa.At,nW aa.aG,I aa.bb.cr,I aa.bb.To,I aa.Room],I ai,I aL] (.bool r):=by
 unfold jJ at h
 refine aY.ch Tryz.func69 J Tryz.ntmps69 Tryz.results69 J J ?_
 refine aT<|rA J J<|rN<|aT<|rM J J<|rM J J<|ae.qv (bQ J J) J<|ae.qv (DN J J (by decide)) J<|ae.qv (bQ J J) J<|ae.qv (DN J J (by decide)) J<|rA J J<|rN<|tS<|ab.di (id:=2) (A:=[0,1,3,7,15,0,32,96,224,480,31,2047]) 12 mixed J (by kernel_rfl) (by kernel_rfl)<|AM.qv (aX J) J<|AM.qv (bC J) J<|AM.qv (bn J J) J<|AM.qv (bn J J) J<|AM.qv (aR J J J) J<|AM.qv (aX J) J<|AM.qv (bC J) J<|AM.qv (bn J J) J<|AM.qv (bn J J) J<|AM.qv (aR J J J) J<|AM.qv (bT J) J<|AM.qv (bT J) J<|AM.nil<|rN<|tS<|ab.block<|aT<|rM J J<|rM J J<|ae.qv (cJ J J) J<|rA J J<|rN<|cD h J (fun h=>?_) (fun h=>?_)
 ·refine tS<|ab.cut (fun aS=>∃ (c1:Bool),lx c1=r∧aS=⟨50,[(6,.bool c1)],[]⟩) ?_ ?_
  ·refine tR<|rM J J<|rM J J<|ae.qv (sM J J) J<|rM J J<|ae.dq J J J (fun hc=>?_) (fun hc=>?_)
   ·rw [sR hc] at h
    exact rM J J<|rY J J J<|rM J J<|rY J J J<|ae.qv (cJ J J) J<|rT J J J<|rA J J<|rN<|ab.stop<|aq.lq [] ⟨decide (((bA (((bA (aL+ai)).tmod 86400000)+86400000)).tmod 86400000) < aa.bb.To),h,J⟩ J J
   ·rw [sS hc] at h
    exact rG J J J J<|rG J J J J<|rE J J J<|rA J J<|rN<|ab.stop<|aq.lq [] ⟨false,h,J⟩ J J
  ·rintro aS ⟨c1,h,rfl⟩
   unfold lx at h
   refine ab.ret<|?_
   obtain rfl:=h
   exact hP J J
 ·refine aT<|rM J J<|rM J J<|ae.qv (jj J J) J<|rA J J<|rN<|cD h J (fun h=>?_) (fun h=>?_)
  ·refine tS<|ab.cut (fun aS=>∃ (c2:Bool),ly c2=r∧aS=⟨50,[(6,.bool c2)],[]⟩) ?_ ?_
   ·refine tR<|rM J J<|rM J J<|ae.qv (ri J J) J<|rM J J<|ae.ek J J J (fun hc=>?_) (fun hc=>?_)
    ·rw [yK hc] at h
     exact rM J J<|rY J J J<|rM J J<|rY J J J<|ae.qv (cJ J J) J<|rE J J J<|rA J J<|rN<|ab.stop<|aq.lq [] ⟨decide (((bA (((bA (aL+ai)).tmod 86400000)+86400000)).tmod 86400000) < aa.bb.To),h,J⟩ J J
    ·rw [yJ hc] at h
     exact rG J J J J<|rG J J J J<|rT J J J<|rA J J<|rN<|ab.stop<|aq.lq [] ⟨true,h,J⟩ J J
   ·rintro aS ⟨c2,h,rfl⟩
    unfold ly at h
    refine ab.ret<|?_
    obtain rfl:=h
    exact hP J J
  ·refine tK<|ab.dp<|aT<|rA J J<|rN<|ab.ret<|?_
   obtain rfl:=h
   exact hP J J
theorem Bm [GI:ck] {aa:aj} {r:Bool} (h:ot aa=r):Pu Tryz.prog 70 [.cw [I aa.ah.Kind,I aa.ah.Since,I aa.ah.Version.ax,I aa.ah.Version.aA,I aa.ah.Version.aC,I aa.ah.ct,I aa.aN.ax,I aa.aN.aA,I aa.aN.aC]] (.bool r):=by
 unfold ot at h
 refine aY.ch Tryz.func70 J Tryz.ntmps70 Tryz.results70 J J ?_
 refine aT<|rA J J<|rN<|tS<|ab.cut (fun aS=>∃ (c1:Bool),nJ c1=r∧aS=⟨17,[(2,.bool c1)],[]⟩) ?_ ?_
 ·refine tR<|rM J J<|ae.qv (bC J) J<|ae.qv (bn J J) J<|ae.qv (bn J J) J<|ae.qv (aR J J J) J<|ae.qv (fY J J) J<|rM J J<|ae.ek J J J (fun hc=>?_) (fun hc=>?_)
  ·rw [yK hc] at h
   exact rM J J<|rY J J J<|ae.qv (bC J) J<|rY J J J<|ae.qv (bn J J) J<|rY J J J<|ae.qv (bn J J) J<|rY J J J<|ae.qv (aR J J J) J<|rY J J J<|ae.qv (fY J J) J<|rE J J J<|rA J J<|rN<|ab.stop<|aq.lq [] ⟨decide (aa.ah.Kind=2),h,J⟩ J J
  ·rw [yJ hc] at h
   exact rG J J J J<|rG J J J J<|rG J J J J<|rG J J J J<|rG J J J J<|rT J J J<|rA J J<|rN<|ab.stop<|aq.lq [] ⟨true,h,J⟩ J J
 ·rintro aS ⟨c1,h,rfl⟩
  unfold nJ at h
  refine ab.ret<|?_
  obtain rfl:=h
  exact hP J J
theorem nn [GI:ck] {bW bX:Bk} {aa:ao} {ai:aj} {r:Bool} (h:cQ aa ai=r):Pu Tryz.prog 54 [.cw [.cw [.str aa.c_.Key,I aa.c_.Target.ax,I aa.c_.Target.aA,I aa.c_.Target.aC,I aa.c_.At,nW aa.c_.aG,I aa.c_.bb.cr,I aa.c_.bb.To,I aa.c_.Room],.bO bW,.bO bX,mz aa.open_,mz aa.ba,mz aa.aO,mz aa.aE,I aa.aQ,I aa.bM],.cw [I ai.ah.Kind,I ai.ah.Since,I ai.ah.Version.ax,I ai.ah.Version.aA,I ai.ah.Version.aC,I ai.ah.ct,I ai.aN.ax,I ai.aN.aA,I ai.aN.aC]] (.bool r):=by
 unfold cQ at h
 refine aY.ch Tryz.func54 J Tryz.ntmps54 Tryz.results54 J J ?_
 refine aT<|rA J J<|rN<|tS<|ab.cut (fun aS=>∃ (c1:Bool),ki c1=r∧aS=⟨25,[(4,.bool c1)],[]⟩) ?_ ?_
 ·refine tR<|rM J J<|rM J J<|bl J (gE J) cR J<|ae.qv (dc J) J<|rM J J<|ae.guard J J J (fun hc=>?_) (fun hc=>?_)
  ·rw [AE hc] at h
   refine rM J J<|rY J J J<|ae.qv (bC J) J<|rY J J J<|ae.qv (bn J J) J<|rY J J J<|ae.qv (bn J J) J<|rY J J J<|ae.qv (aR J J J) J<|rY J J J<|ae.qv (ri J J) J<|rY J J J<|rM J J<|ae.ek J J J (fun hc=>?_) (fun hc=>?_)
   ·rw [yK hc] at h
    exact rM J J<|rY J J J<|ae.qv (bC J) J<|rY J J J<|ae.qv (bn J J) J<|rY J J J<|ae.qv (bn J J) J<|rY J J J<|ae.qv (aR J J J) J<|rY J J J<|ae.qv (fY J J) J<|rY J J J<|rE J J J<|rT J J J<|rA J J<|rN<|ab.stop<|aq.lq [] ⟨decide (ai.ah.Kind=5),h,J⟩ J J
   ·rw [yJ hc] at h
    exact rG J J J J<|rG J J J J<|rG J J J J<|rG J J J J<|rG J J J J<|rY J J J<|rT J J J<|rT J J J<|rA J J<|rN<|ab.stop<|aq.lq [] ⟨true,h,J⟩ J J
  ·rw [AF hc] at h
   exact rG J J J J<|rG J J J J<|rG J J J J<|rG J J J J<|rG J J J J<|rG J J J J<|ae.aV J J J<|ae.aV J J J<|ae.aV J J J<|ae.aV J J J<|ae.aV J J J<|ae.aV J J J<|rG J J J J<|rE J J J<|rA J J<|rN<|ab.stop<|aq.lq [] ⟨false,h,J⟩ J J
 ·rintro aS ⟨c1,h,rfl⟩
  unfold ki at h
  refine ab.ret<|?_
  obtain rfl:=h
  exact hP J J
theorem ta [GI:ck] {TF:Nat→Bk} {aa ai:DeviceS} {aL:ao} {r:Int} (h:cX aa ai aL=some r):Pu Tryz.prog 72 [DeviceS.av aa,DeviceS.av ai,.cw [.cw [.cw [.str aL.c_.Key,I aL.c_.Target.ax,I aL.c_.Target.aA,I aL.c_.Target.aC,I aL.c_.At,nW aL.c_.aG,I aL.c_.bb.cr,I aL.c_.bb.To,I aL.c_.Room],Eg AV.str (pA TF) aL.kM,Eg AV.str I aL.cj,mz aL.open_,mz aL.ba,mz aL.aO,mz aL.aE,I aL.aQ,I aL.bM]]] (I r):=by
 unfold cX at h
 refine aY.ch Tryz.func72 J Tryz.ntmps72 Tryz.results72 J J ?_
 refine aT<|eA J J J J fun b1=>eA J J J J fun b2=>rA J J<|rN<|tS<|ab.di (id:=1) (A:=[0,1,3,7,0,16,63,0,128,384,896,0,2048,8064,16383,0,32768,98304,229376,0,524288,2097151,0,4194304,12582912,29360128,0,67108864,268435455,536870911,0,1073741824,0,4294967296,17179869183,34359738367,68719476735,137438953471]) 38 mixed J (by kernel_rfl) (by kernel_rfl)<|AM.qv (aR J J J) J<|AM.qv (bC J) J<|AM.qv (bn J J) J<|AM.qv (aR J J J) J<|AM.qv (aB J J) J<|AM.qv (aJ J J .p1 J) J<|aU h fun v3 e1 h=>AM.qv (Eh (gk:=AV.str) (gv:=I) (M:=aL.cj) (key:=aa.Key) (Z:=0) J J J J J e1 J) J<|AM.qv (aR J J J) J<|AM.qv (bC J) J<|AM.qv (bn J J) J<|AM.qv (aR J J J) J<|AM.qv (aB J J) J<|AM.qv (aJ J J .p0 J) J<|aU h fun v4 e2 h=>AM.qv (Eh (gk:=AV.str) (gv:=I) (M:=aL.cj) (key:=ai.Key) (Z:=0) J J J J J e2 J) J<|AM.kA J (dN J) cR J<|AM.qv (aR J J J) J<|AM.qv (bC J) J<|AM.qv (bn J J) J<|AM.qv (aR J J J) J<|AM.qv (aB J J) J<|AM.qv (aJ J J .p1 J) J<|aU h fun v5 e3 h=>AM.kA J (s9 e3) cR J<|AM.qv (aR J J J) J<|AM.qv (bC J) J<|AM.qv (bn J J) J<|AM.qv (aR J J J) J<|AM.qv (aB J J) J<|AM.qv (aJ J J .p0 J) J<|aU h fun v6 e4 h=>AM.kA J (s9 e4) cR J<|AM.kA J (dN J) cR J<|AM.qv (aB J J) J<|AM.qv (aJ J J .p1 J) J<|AM.qv (aB J J) J<|AM.qv (aJ J J .p0 J) J<|AM.kA J (mT J) cR J<|AM.dt (xs:=([(cmp_Compare_int v3 v4),(cmp_Compare_int v5 v6),(Lib.compareBytes aa.Key ai.Key)]:List Int).map I) J J J J J J<|aU h fun v7 e5 h=>AM.kA J (pJ e5) cR J<|AM.qv (bT J) J<|AM.nil<|rN<|ab.ret<|?_
 cases h
 exact hP J J
theorem qe:GL Tryz.prog 71 7:=⟨fun enc hk h1 cf hO g cb dp off cap d w eg hc hH hb hs=>AnyQ.slices_SortFunc_eq Tryz.J7 7 Tryz.isAgg50 Tryz.sizeOf50 enc hk h1 cf hO g cb dp off cap d w eg hc hH hb hs,fun p cap fv w=>AnyF.slices_SortFunc_none Tryz.J7 p cap fv w⟩
theorem pL [GI:ck] {cU:Bk} {aa:List DeviceS} {jb:DeviceS→DeviceS→Option Int} {kD:FuncId} [cq Tryz.prog kD] {nk:List AV} (uH:∀ {y0 y1:_} {u:Int},jb y0 y1=some u→@Pu nB Tryz.prog kD (DeviceS.av y0 :: DeviceS.av y1 :: nk) (I u)) {r:(List DeviceS)} (h:fH aa jb=some r):IZ Tryz.prog 71 [.sl 7 cU 0 aa.length,.func (.func kD) nk] [(cU,.arr 7 (aa.map DeviceS.av))] [(cU,.arr 7 (r.map DeviceS.av))] (.ma []):=
 G1 (fn:=jb) qe J @uH (fun _=>J) h
theorem qs [GI:ck] {aa:List ar} {ai:bq} {aL:Version} {r:(List ar)} (h:j4 aa ai aL=some r):aY Tryz.prog 58 [tu aa,.str ai,Version.av aL] [] (T1 (fun oN=>[(oN,yB r)]) (fun oN=>.sl 6 oN 0 r.length)):=by
 unfold j4 at h
 refine aY.lD ?_
 refine aY.ch Tryz.func58 J Tryz.ntmps58 Tryz.results58 J J ?_
 refine aT<|eA J J J J fun b1=>rA J J<|rN<|aT<|rA J J<|rN<|tS<|aT<|rM J J<|ae.qv (dm J) J<|rM J J<|rN<|ab.block<|ab.dR (fun x:(List ar)×Int=>eC aa ai aL x.1 x.2) (fun x aS=>∃ (b5:Bk),aS=⟨31,[(1,.str ai),(5,.ptr b1 0),(7,.sl 6 b5 0 x.1.length),(10,tu aa),(11,I (aa.length:Int)),(12,I x.2)],[(b1,.cells [I aL.ax,I aL.aA,I aL.aC]),(b5,yB x.1)]⟩) h ?_ ?_
 ·exact aq.arr (s:=7) 6 J fun b8=>aq.lq [1,0] ⟨b8,J⟩ J J
 ·intro x z1 aS J1 gS h mD gN
  obtain ⟨l6,n7⟩:=x
  obtain ⟨b5,rfl⟩:=gS
  replace h:eC aa ai aL l6 n7=some z1:=h
  unfold eC at h
  refine aT<|ae.qv (cJ J J) J<|rN<|tS<|cD h J (fun h=>?_) (fun h=>?_)
  ·refine tK<|tS<|ab.block<|aT<|aU h fun v9 e1 h=>ae.qv (bS J J J e1 J J) J<|ae.qv (bw J J J) J<|bY J J J J fun tv=>aI J J J J .p0 J J<|rN<|tS<|ab.cut (fun aS=>∃ (Dv:Bool),iU l6 n7 v9 Dv=some z1∧aS=⟨31,[(1,.str ai),(5,.ptr b1 0),(7,.sl 6 b5 0 l6.length),(9,.ptr tv 0),(10,tu aa),(11,I (aa.length:Int)),(12,I n7),(24,.bool Dv)],[(b1,.cells [I aL.ax,I aL.aA,I aL.aC]),(b5,yB l6),(tv,.cells (He v9))]⟩) ?_ ?_
   ·refine tR<|rF J J J<|rL J J .p0 J J<|rM J J<|aU h fun v12 e2 h=>bl J (gU e2) cR J<|rM J J<|ae.guard J J J (fun hc=>?_) (fun hc=>?_)
    ·exact have h:=rk hc h;ae.qv (aH J J .p0 J) J<|rY J J J<|ae.qv (aH J J .p1 J) J<|rY J J J<|aU h fun oZ e3 h=>bl J (tJ e3) cR J<|rT J J J<|rN<|ab.stop<|aq.lq [1,1,0] ⟨oZ,h,J⟩ J J
    ·exact have h:=tD hc h;rG J J J J<|rG J J J J<|rE J J J<|rN<|ab.stop<|aq.lq [1,1,0] ⟨false,h,J⟩ J J
   ·rintro aS ⟨Dv,h,rfl⟩
    unfold iU at h
    refine ab.cut (fun aS=>∃ (F6:Bk) (BE:List ar),iT n7 BE=some z1∧aS=⟨31,[(1,.str ai),(5,.ptr b1 0),(7,.sl 6 F6 0 BE.length),(10,tu aa),(11,I (aa.length:Int)),(12,I n7)],[(b1,.cells [I aL.ax,I aL.aA,I aL.aC]),(F6,yB BE)]⟩) ?_ ?_
    ·refine cB h J (fun h=>?_) (fun h=>?_)
     ·exact tR<|rM J J<|ae.qv (aH J J .p2 J) J<|bf (xs:=([v9]:List ar).map ar.av) J J J J J J<|aU h fun BF e4 h=>fO (g:=ar.av) J J J J J J J J (.list _) e4 (fun _=>.p1) J fun qp=>rA J J<|rN<|ab.stop<|aq.lq [0,0] ⟨qp,BF,h,J⟩ J J
     ·exact tK<|ab.stop<|aq.lq [0,0] ⟨b5,l6,h,J⟩ J J
    ·rintro aS ⟨F6,BE,h,rfl⟩
     unfold iT at h
     refine ab.dp<|tR<|ae.qv (bQ J J) J<|rM J J<|rN<|ab.stop<|?_
     cases h
     exact mD _ _ J<|aq.lq [0,0] ⟨F6,J⟩ J J
  ·refine ab.exit J<|have h:=cW h gN;aT<|rM J J<|rA J J<|rN<|ab.ret<|?_
   cases h
   exact hH J [1] J ⟨b5,J,J⟩
theorem pM [GI:ck] {aa ai:ak} {r:Int} (h:je aa ai=some r):Pu Tryz.prog 59 [ak.av aa,ak.av ai] (I r):=by
 unfold je at h
 refine aY.ch Tryz.func59 J Tryz.ntmps59 Tryz.results59 J J ?_
 refine aT<|eA J J J J fun b1=>eA J J J J fun b2=>rA J J<|rN<|tS<|ab.di (id:=1) (A:=[0,1,0,4,15,0,32,0,128,511,1023,2047,4095]) 13 mixed J (by kernel_rfl) (by kernel_rfl)<|AM.qv (aB J J) J<|AM.qv (aJ J J .p1 J) J<|AM.qv (aB J J) J<|AM.qv (aJ J J .p0 J) J<|AM.kA J (dN J) cR J<|AM.qv (aB J J) J<|AM.qv (aJ J J .p1 J) J<|AM.qv (aB J J) J<|AM.qv (aJ J J .p0 J) J<|AM.kA J (dN J) cR J<|AM.dt (xs:=([(cmp_Compare_int aa.bR ai.bR),(cmp_Compare_int aa.bK ai.bK)]:List Int).map I) J J J J J J<|aU h fun v3 e1 h=>AM.kA J (pJ e1) cR J<|AM.qv (bT J) J<|AM.nil<|rN<|ab.ret<|?_
 cases h
 exact hP J J
theorem uI [GI:ck] {aa:List ar} {ai:bq} {aL:Version} {r:(List (Version×ak))} (h:lI aa ai aL=some r):aY Tryz.prog 37 [tu aa,.str ai,Version.av aL] [] (T1 (fun oN=>[(oN,vP r)]) (fun oN=>.bO oN)):=by
 unfold lI at h
 refine aY.lD ?_
 refine aY.ch Tryz.func37 J Tryz.ntmps37 Tryz.results37 J J ?_
 refine aT<|eA J J J J fun b1=>rA J J<|rN<|aT<|rA J J<|rN<|tS<|aT<|rM J J<|ae.qv (dm J) J<|rM J J<|rN<|ab.block<|ab.dR (fun x:(List ar)×Int=>eE aa ai aL x.1 x.2) (fun x aS=>∃ (b5:Bk),aS=⟨121,[(1,.str ai),(5,.ptr b1 0),(7,.sl 6 b5 0 x.1.length),(23,tu aa),(24,I (aa.length:Int)),(25,I x.2)],[(b1,.cells [I aL.ax,I aL.aA,I aL.aC]),(b5,yB x.1)]⟩) h ?_ ?_
 ·exact aq.arr (s:=7) 6 J fun b8=>aq.lq [1,0] ⟨b8,J⟩ J J
 ·intro x z1 aS J1 gS h mD gN
  obtain ⟨l6,n7⟩:=x
  obtain ⟨b5,rfl⟩:=gS
  replace h:eE aa ai aL l6 n7=some z1:=h
  unfold eE at h
  refine aT<|ae.qv (cJ J J) J<|rN<|tS<|cD h J (fun h=>?_) (fun h=>?_)
  ·refine tK<|tS<|ab.block<|aT<|aU h fun v9 e1 h=>ae.qv (bS J J J e1 J J) J<|ae.qv (bw J J J) J<|bY J J J J fun tv=>aI J J J J .p0 J J<|rN<|aT<|rF J J J<|rL J J .p0 J J<|rM J J<|aU h fun v11 e2 h=>bl J (gU e2) cR J<|rN<|ab.cut (fun aS=>∃ (qd:Bk) (sb:List ar),kQ n7 sb=some z1∧aS=⟨121,[(1,.str ai),(5,.ptr b1 0),(7,.sl 6 qd 0 sb.length),(23,tu aa),(24,I (aa.length:Int)),(25,I n7)],[(b1,.cells [I aL.ax,I aL.aA,I aL.aC]),(qd,yB sb)]⟩) ?_ ?_
   ·refine cB h J (fun h=>?_) (fun h=>?_)
    ·exact tR<|rM J J<|ae.qv (aH J J .p0 J) J<|bf (xs:=([v9]:List ar).map ar.av) J J J J J J<|aU h fun yk e3 h=>fO (g:=ar.av) J J J J J J J J (.list _) e3 (fun _=>.p2) J fun F7=>rA J J<|rN<|ab.stop<|aq.lq [1,1] ⟨F7,yk,h,J⟩ J J
    ·exact tK<|ab.stop<|aq.lq [1,1] ⟨b5,l6,h,J⟩ J J
   ·rintro aS ⟨qd,sb,h,rfl⟩
    unfold kQ at h
    refine ab.dp<|tR<|ae.qv (bQ J J) J<|rM J J<|rN<|ab.stop<|?_
    cases h
    exact mD _ _ J<|aq.lq [0,0] ⟨qd,J⟩ J J
  ·refine ab.exit J<|have h:=cW h gN;?_
   unfold kT at h
   refine aT<|rM J J<|ae.qv (iH J) J<|aU h fun BF e4 h=>Ff (g:=(K1 6 ar.av)) (Z:=([]:List ar)) J J J J J J J J J e4 fun qp=>rA J J<|rN<|tS<|aT<|rM J J<|ae.qv (iH J) J<|rM J J<|rN<|ab.block<|ab.dR (fun x:(List (List ar))×Int=>iW ai aL l6 x.1 x.2) (fun x aS=>aS=⟨121,[(1,.str ai),(5,.ptr b1 0),(7,.sl 6 b5 0 l6.length),(10,.sl 1 qp 0 x.1.length),(41,.sl 6 b5 0 l6.length),(42,I (l6.length:Int)),(43,I x.2)],[(b1,.cells [I aL.ax,I aL.aA,I aL.aC]),(b5,TA l6),(qp,TB x.1)]⟩) h ?_ ?_
   ·exact aq.freeze .p2<|aq.lq [1,1,0] J J J
   ·intro x z2 aS J2 gS h DA AL
    obtain ⟨ja,n21⟩:=x
    obtain rfl:=gS
    replace h:iW ai aL l6 ja n21=some z2:=h
    unfold iW at h
    refine aT<|ae.qv (cJ J J) J<|rN<|tS<|cD h J (fun h=>?_) (fun h=>?_)
    ·refine tK<|tS<|ab.block<|aT<|rM J J<|aU h fun v22 e5 h=>ae.qv (cm J J J e5) J<|ae.qv (gP (g:=ar.av) J J (.inr .p1) J e5 J) J<|bY J J J J fun Wk=>rA J J<|aI J J J J .p0 J J<|rN<|tR<|rM J J<|rM J J<|rM J J<|rM J J<|rF J J J<|ae.qv (aP J J .p0 J J) J<|aU h fun v24 e6 h=>kK J (qs e6) (.cons (Co.E5 .p2) (.cons (.refl _) (.cons (.refl _) .nil))) .nil (fun _=>J) J fun Ph=>aU h fun v26 e7 h=>ae.qv (cm J J J e7) J<|ae.ghost<|aq.freeze .p0<|aq.here<|ae.ghost<|aq.VH (s:=54) (rf:=tu v24) J (.co (Co.E5 .p0))<|aq.here<|lg (g:=(K1 6 ar.av)) (H7:=v24) J J J J e7 J .p4 J<|ae.ghost<|aq.eqs (s:=10) (rf:=.sl 1 qp 0 (ja.set n21.toNat v24).length) J (by rw [ac])<|aq.here<|ae.ghost<|aq.eqs (s:=48) (rf:=.sl 1 qp 0 (ja.set n21.toNat v24).length) J (by rw [ac])<|aq.here<|rN<|ab.dp<|tR<|ae.qv (bQ J J) J<|rM J J<|rN<|ab.stop<|?_
     cases h
     exact DA _ _ J<|aq.lq [2,2,2] J J J
    ·refine ab.exit J<|have h:=cW h AL;aT<|xl J fun Ie=>ae.qv (aH J J .p1 J) J<|ae.qv (da J J J J J) J<|M8 (gk:=Version.av) (gv:=ak.av) (M:=([]:List (Version×ak))) (key:=aL) (v:=(⟨0,0⟩:ak)) J J J J .p0<|rM J J<|rA J J<|rN<|tS<|aT<|rA J J<|rN<|ab.block<|ab.dR (fun x:(List (Version×ak))×Bool=>kS l6 ja x.1 x.2) (fun x aS=>aS=⟨121,[(7,.sl 6 b5 0 l6.length),(10,.sl 1 qp 0 ja.length),(13,.bO Ie),(14,.bool x.2)],[(b5,TA l6),(qp,TB ja),(Ie,vP x.1)]⟩) h ?_ ?_
     ·exact aq.lq [2,2,0] J J J
     ·intro x z3 aS J3 gS h hJ3 hA3
      obtain ⟨R3,c31⟩:=x
      obtain rfl:=gS
      replace h:kS l6 ja R3 c31=some z3:=h
      unfold kS at h
      refine tS<|aT<|rM J J<|rN<|cB h J (fun h=>?_) (fun h=>?_)
      ·refine tK<|ab.block<|aT<|rA J J<|rN<|aT<|rM J J<|ae.qv (iH J) J<|rM J J<|rN<|ab.block<|ab.dR (fun x:(List (Version×ak))×Bool×Int=>iV l6 ja x.1 x.2.1 x.2.2) (fun x aS=>aS=⟨121,[(7,.sl 6 b5 0 l6.length),(10,.sl 1 qp 0 ja.length),(13,.bO Ie),(14,.bool x.2.1),(62,.sl 6 b5 0 l6.length),(63,I (l6.length:Int)),(64,I x.2.2)],[(b5,TA l6),(qp,TB ja),(Ie,vP x.1)]⟩) h ?_ ?_
       ·exact aq.lq [0,0,0] J J J
       ·intro x z4 aS J4 gS h hJ4 hA4
        obtain ⟨qh,UP,n37⟩:=x
        obtain rfl:=gS
        replace h:iV l6 ja qh UP n37=some z4:=h
        unfold iV at h
        refine aT<|ae.qv (cJ J J) J<|rN<|tS<|cD h J (fun h=>?_) (fun h=>?_)
        ·refine tK<|tS<|ab.block<|aT<|rM J J<|aU h fun zG e8 h=>ae.qv (cm J J J e8) J<|ae.qv (gP (g:=ar.av) J J (.inr .p0) J e8 J) J<|bY J J J J fun Ja=>rA J J<|aI J J J J .p0 J J<|rN<|aT<|rM J J<|rF J J J<|ae.qv (aP J J .p0 J J) J<|aU h fun v40 e9 h=>ae.qv (zT (gk:=Version.av) (gv:=ak.av) (M:=qh) (key:=zG.Version) (Z:=(⟨0,0⟩:ak)) J J .p3 J J J e9 J) J<|rM J J<|rX J J J<|rX J J J<|bY J J J J fun UU=>aI J J J J .p0 J J<|rA J J<|rN<|tS<|aT<|rM J J<|rM J J<|aU h fun I5 Cy h=>ae.qv (cm J J J Cy) J<|ae.qv (eS (g:=(K1 6 ar.av)) J J (.inl .p3) Cy J) J<|ae.qv (dm J) J<|rM J J<|rN<|ab.block<|ab.dR (fun x:Bool×Int×Int×Bool×Int=>eD qh n37 zG I5 x.1 x.2.1 x.2.2.1 x.2.2.2.1 x.2.2.2.2) (fun x aS=>aS=⟨121,[(7,.sl 6 b5 0 l6.length),(10,.sl 1 qp 0 ja.length),(13,.bO Ie),(14,.bool x.1),(16,.ptr Ja 0),(17,.ptr UU 0),(18,.bool x.2.2.2.1),(62,.sl 6 b5 0 l6.length),(63,I (l6.length:Int)),(64,I n37),(79,tu I5),(80,I (I5.length:Int)),(81,I x.2.2.2.2)],[(b5,TA l6),(qp,TB ja),(Ie,vP qh),(Ja,.cells (He zG)),(UU,.cells [I x.2.1,I x.2.2.1])]⟩) h ?_ ?_
         ·exact aq.lq [2,2,2,1,0] J J J
         ·intro x z5 aS J5 gS h hJ5 hA5
          obtain ⟨Ei,n49,n50,c51,n52⟩:=x
          obtain rfl:=gS
          replace h:eD qh n37 zG I5 Ei n49 n50 c51 n52=some z5:=h
          unfold eD at h
          refine aT<|ae.qv (cJ J J) J<|rN<|tS<|cD h J (fun h=>?_) (fun h=>?_)
          ·refine tK<|tS<|ab.block<|aT<|aU h fun v53 Hg h=>ae.qv (bS J J J Hg J J) J<|ae.qv (bw J J J) J<|bY J J J J fun XV=>aI J J J J .p0 J J<|rN<|aT<|rM J J<|rF J J J<|ae.qv (aP J J .p0 J J) J<|aU h fun v55 I9 h=>ae.qv (zT (gk:=Version.av) (gv:=ak.av) (M:=qh) (key:=v53.Version) (Z:=(⟨0,0⟩:ak)) J J .p3 J J J I9 J) J<|rM J J<|rX J J J<|rX J J J<|bY J J J J fun Pl=>aI J J J J .p0 J J<|rA J J<|rN<|aT<|rF J J J<|rL J J .p0 J J<|ae.qv (bQ J J) J<|rF J J J<|rL J J .p0 J J<|rF J J J<|rL J J .p1 J J<|ae.qv (bQ J J) J<|ae.qv (da J J J J J) J<|aI J J J J .p0 J J<|rN<|tS<|ab.cut (fun aS=>∃ (V7:Bool),fI Ei n49 n50 c51 n52 v53 v55 V7=some z5∧aS=⟨121,[(7,.sl 6 b5 0 l6.length),(10,.sl 1 qp 0 ja.length),(13,.bO Ie),(14,.bool Ei),(16,.ptr Ja 0),(17,.ptr UU 0),(18,.bool c51),(21,.ptr Pl 0),(62,.sl 6 b5 0 l6.length),(63,I (l6.length:Int)),(64,I n37),(79,tu I5),(80,I (I5.length:Int)),(81,I n52),(111,.bool V7)],[(b5,TA l6),(qp,TB ja),(Ie,vP qh),(Ja,.cells (He zG)),(UU,.cells [I n49,I n50]),(Pl,.cells [I (bA (v55.1.bR+1)),I (bA (v55.1.bK+v53.ec))])]⟩) ?_ ?_
           ·refine tR<|rM J J<|rM J J<|ae.guard J J J (fun hc=>?_) (fun hc=>?_)
            ·refine have h:=rk hc h;rM J J<|rY J J J<|ae.qv (dc J) J<|rY J J J<|rM J J<|ae.guard J J J (fun hc=>?_) (fun hc=>?_)
             ·exact have h:=tD hc h;ae.qv (aH J J .p0 J) J<|rY J J J<|ae.qv (aH J J .p6 J) J<|rY J J J<|aU h fun v58 R5 h=>bl J (pM R5) cR J<|rY J J J<|ae.qv (cJ J J) J<|rY J J J<|rE J J J<|rT J J J<|rN<|ab.stop<|aq.lq [2,2,2,2,2,0] ⟨decide (v58 < 0),h,J⟩ J J
             ·exact have h:=rk hc h;rG J J J J<|rG J J J J<|rG J J J J<|rY J J J<|rT J J J<|rT J J J<|rN<|ab.stop<|aq.lq [2,2,2,2,2,0] ⟨true,h,J⟩ J J
            ·exact have h:=tD hc h;rG J J J J<|rG J J J J<|ae.aV J J J<|ae.aV J J J<|ae.aV J J J<|ae.aV J J J<|rG J J J J<|rE J J J<|rN<|ab.stop<|aq.lq [2,2,2,2,2,0] ⟨false,h,J⟩ J J
           ·rintro aS ⟨V7,h,rfl⟩
            unfold fI at h
            refine ab.cut (fun aS=>∃ (c59:Bool) (n60:Int) (n61:Int) (V6:Bool),gu n52 c59 n60 n61 V6=some z5∧aS=⟨121,[(7,.sl 6 b5 0 l6.length),(10,.sl 1 qp 0 ja.length),(13,.bO Ie),(14,.bool c59),(16,.ptr Ja 0),(17,.ptr UU 0),(18,.bool V6),(62,.sl 6 b5 0 l6.length),(63,I (l6.length:Int)),(64,I n37),(79,tu I5),(80,I (I5.length:Int)),(81,I n52)],[(b5,TA l6),(qp,TB ja),(Ie,vP qh),(Ja,.cells (He zG)),(UU,.cells [I n60,I n61])]⟩) ?_ ?_
            ·refine cB h J (fun h=>?_) (fun h=>?_)
             ·exact tR<|ae.qv (aH J J .p5 J) J<|aI J J J J .p4 J J<|rA J J<|rA J J<|rN<|ab.stop<|aq.lq [0,0,0,0,0] ⟨true,bA (v55.1.bR+1),bA (v55.1.bK+v53.ec),true,h,J⟩ J J
             ·exact tK<|ab.stop<|aq.lq [0,0,0,0,0] ⟨Ei,n49,n50,c51,h,J⟩ J J
            ·rintro aS ⟨c59,n60,n61,V6,h,rfl⟩
             unfold gu at h
             refine ab.dp<|tR<|ae.qv (bQ J J) J<|rM J J<|rN<|ab.stop<|?_
             cases h
             exact hJ5 _ _ J<|aq.lq [0,0,0,0,0] J J J
          ·refine ab.exit J<|have h:=cW h hA5;?_
           unfold mU at h
           refine aT<|rM J J<|rN<|ab.cut (fun aS=>∃ (Ej:List (Version×ak)),kR n37 Ei Ej=some z4∧aS=⟨121,[(7,.sl 6 b5 0 l6.length),(10,.sl 1 qp 0 ja.length),(13,.bO Ie),(14,.bool Ei),(62,.sl 6 b5 0 l6.length),(63,I (l6.length:Int)),(64,I n37)],[(b5,TA l6),(qp,TB ja),(Ie,vP Ej)]⟩) ?_ ?_
           ·refine cB h J (fun h=>?_) (fun h=>?_)
            ·exact tR<|rM J J<|rF J J J<|ae.qv (aP J J .p3 J J) J<|ae.qv (aH J J .p4 J) J<|wo (gk:=Version.av) (gv:=ak.av) (M:=qh) (key:=zG.Version) (v:=(⟨n49,n50⟩:ak)) J J J J .p2<|rN<|ab.stop<|aq.lq [0,0,0] ⟨dX qh zG.Version (⟨n49,n50⟩:ak),h,J⟩ J J
            ·exact tK<|ab.stop<|aq.lq [0,0,0] ⟨qh,h,J⟩ J J
           ·rintro aS ⟨Ej,h,rfl⟩
            unfold kR at h
            refine ab.dp<|tR<|ae.qv (bQ J J) J<|rM J J<|rN<|ab.stop<|?_
            cases h
            exact hJ4 _ _ J<|aq.lq [0,0,0] J J J
        ·refine ab.exit J<|have h:=cW h hA4;ab.dp<|ab.stop<|?_
         cases h
         exact hJ3 _ _ J<|aq.lq [0,0,0] J J J
      ·refine ab.exit J<|have h:=cW h hA3;aT<|rM J J<|rA J J<|rN<|ab.ret<|?_
       cases h
       exact hH J [2] J ⟨Ie,J,J⟩
theorem rC [GI:ck] {aa:List ar} {ai:bq} {aL bu:Version} {cA:List (Version×ak)} {r:(List Version)×Bool} (h:j6 aa ai aL bu cA=some r):Pu Tryz.prog 36 [tu aa,.str ai,Version.av aL,Version.av bu,Eg Version.av ak.av cA] (.ma [Bj r.1,.bool r.2]):=by
 unfold j6 at h
 refine aY.ch Tryz.func36 J Tryz.ntmps36 Tryz.results36 J J ?_
 refine aT<|eA J J J J fun b1=>eA J J J J fun b2=>rA J J<|rA J J<|rN<|aT<|rA J J<|rN<|tS<|aT<|ae.qv (aH J J .p1 J) J<|bY J J J J fun b3=>aI J J J J .p0 J J<|rN<|ab.block<|ab.dR (fun x:(List Version)×Int×Int×Int=>kp aa ai bu cA x.1 x.2.1 x.2.2.1 x.2.2.2) (fun x aS=>∃ (tv:Bk) (qd:Bk),aS=⟨74,[(0,tu aa),(1,.str ai),(4,Eg Version.av ak.av cA),(8,.ptr b2 0),(12,.sl 3 tv 0 x.1.length),(13,.ptr qd 0)],[(b2,.cells [I bu.ax,I bu.aA,I bu.aC]),(tv,lv x.1),(qd,.cells [I x.2.1,I x.2.2.1,I x.2.2.2])]⟩) h ?_ ?_
 ·exact aq.arr (s:=12) 3 J fun Di=>aq.lq [2,0,0] ⟨Di,b3,J⟩ J J
 ·intro x z1 aS J1 gS h mD gN
  obtain ⟨jM,n13,n14,n15⟩:=x
  obtain ⟨tv,qd,rfl⟩:=gS
  replace h:kp aa ai bu cA jM n13 n14 n15=some z1:=h
  unfold kp at h
  refine tS<|aT<|ae.qv (aH J J .p2 J) J<|ae.qv (aH J J .p0 J) J<|ae.qv (DX (g:=Version.av) (X:=(⟨n13,n14,n15⟩:Version)) (Y:=bu) J J J J J) J<|rN<|cD h J (fun h=>?_) (fun h=>?_)
  ·refine tK<|tS<|ab.block<|aT<|bY J J J J fun qp=>rN<|aT<|bY J J J J fun vD=>rN<|aT<|rA J J<|rN<|tS<|aT<|rM J J<|rM J J<|ae.qv (aH J J .p4 J) J<|aU h fun kG e1 h=>kK J (qs e1) cR .nil (fun _=>J) J fun za=>ae.qv (iH J) J<|rM J J<|rN<|ab.block<|ab.dR (fun x:Int×Int×Int×Int×Int×Bool×Int=>ko cA jM kG x.1 x.2.1 x.2.2.1 x.2.2.2.1 x.2.2.2.2.1 x.2.2.2.2.2.1 x.2.2.2.2.2.2) (fun x aS=>aS=⟨74,[(0,tu aa),(1,.str ai),(4,Eg Version.av ak.av cA),(8,.ptr b2 0),(12,.sl 3 tv 0 jM.length),(13,.ptr qd 0),(14,.ptr qp 0),(15,.ptr vD 0),(16,.bool x.2.2.2.2.2.1),(28,.sl 6 za 0 kG.length),(29,I (kG.length:Int)),(30,I x.2.2.2.2.2.2)],[(b2,.cells [I bu.ax,I bu.aA,I bu.aC]),(tv,lv jM),(qd,.cells [I n13,I n14,I n15]),(qp,.cells [I x.1,I x.2.1,I x.2.2.1]),(vD,.cells [I x.2.2.2.1,I x.2.2.2.2.1]),(za,yB kG)]⟩) h ?_ ?_
   ·exact aq.lq [3,3,3,2,1,0] J J J
   ·intro x z2 aS J2 gS h DA AL
    obtain ⟨n28,n29,n30,n31,n32,xF,n34⟩:=x
    obtain rfl:=gS
    replace h:ko cA jM kG n28 n29 n30 n31 n32 xF n34=some z2:=h
    unfold ko at h
    refine aT<|ae.qv (cJ J J) J<|rN<|tS<|cD h J (fun h=>?_) (fun h=>?_)
    ·refine tK<|tS<|ab.block<|aT<|aU h fun v35 e2 h=>ae.qv (cm J J J e2) J<|ae.qv (gP (g:=ar.av) J J (.inl .p5) J e2 J) J<|bY J J J J fun QG=>aI J J J J .p0 J J<|rN<|aT<|rM J J<|rF J J J<|ae.qv (aP J J .p0 J J) J<|aU h fun v37 e3 h=>ae.qv (I2 (gk:=Version.av) (gv:=ak.av) (M:=cA) (key:=v35.Version) (Z:=(⟨0,0⟩:ak)) J J J J J e3 J) J<|rM J J<|rX J J J<|rX J J J<|bY J J J J fun QH=>aI J J J J .p0 J J<|rA J J<|rN<|aT<|rF J J J<|rL J J .p0 J J<|ae.qv (bQ J J) J<|rF J J J<|rL J J .p0 J J<|rF J J J<|rL J J .p1 J J<|ae.qv (bQ J J) J<|ae.qv (da J J J J J) J<|aI J J J J .p0 J J<|rN<|tS<|ab.cut (fun aS=>∃ (Nv:Bool),il n28 n29 n30 n31 n32 xF n34 v35 v37 Nv=some z2∧aS=⟨74,[(0,tu aa),(1,.str ai),(4,Eg Version.av ak.av cA),(8,.ptr b2 0),(12,.sl 3 tv 0 jM.length),(13,.ptr qd 0),(14,.ptr qp 0),(15,.ptr vD 0),(16,.bool xF),(18,.ptr QG 0),(19,.ptr QH 0),(28,.sl 6 za 0 kG.length),(29,I (kG.length:Int)),(30,I n34),(60,.bool Nv)],[(b2,.cells [I bu.ax,I bu.aA,I bu.aC]),(tv,lv jM),(qd,.cells [I n13,I n14,I n15]),(qp,.cells [I n28,I n29,I n30]),(vD,.cells [I n31,I n32]),(QG,.cells (He v35)),(QH,.cells [I (bA (v37.1.bR+1)),I (bA (v37.1.bK+v35.ec))]),(za,yB kG)]⟩) ?_ ?_
     ·refine tR<|rM J J<|rM J J<|ae.guard J J J (fun hc=>?_) (fun hc=>?_)
      ·refine have h:=rk hc h;rM J J<|rY J J J<|ae.qv (dc J) J<|rY J J J<|rM J J<|ae.guard J J J (fun hc=>?_) (fun hc=>?_)
       ·exact have h:=tD hc h;ae.qv (aH J J .p0 J) J<|rY J J J<|ae.qv (aH J J .p6 J) J<|rY J J J<|aU h fun v40 e4 h=>bl J (pM e4) cR J<|rY J J J<|ae.qv (cJ J J) J<|rY J J J<|rE J J J<|rT J J J<|rN<|ab.stop<|aq.lq [2,2,2,2,2,1,0,0] ⟨decide (v40 < 0),h,J⟩ J J
       ·exact have h:=rk hc h;rG J J J J<|rG J J J J<|rG J J J J<|rY J J J<|rT J J J<|rT J J J<|rN<|ab.stop<|aq.lq [2,2,2,2,2,1,0,0] ⟨true,h,J⟩ J J
      ·exact have h:=tD hc h;rG J J J J<|rG J J J J<|ae.aV J J J<|ae.aV J J J<|ae.aV J J J<|ae.aV J J J<|rG J J J J<|rE J J J<|rN<|ab.stop<|aq.lq [2,2,2,2,2,1,0,0] ⟨false,h,J⟩ J J
     ·rintro aS ⟨Nv,h,rfl⟩
      unfold il at h
      refine ab.cut (fun aS=>∃ (n41:Int) (n42:Int) (n43:Int) (n44:Int) (n45:Int) (c46:Bool),kj n34 n41 n42 n43 n44 n45 c46=some z2∧aS=⟨74,[(0,tu aa),(1,.str ai),(4,Eg Version.av ak.av cA),(8,.ptr b2 0),(12,.sl 3 tv 0 jM.length),(13,.ptr qd 0),(14,.ptr qp 0),(15,.ptr vD 0),(16,.bool c46),(28,.sl 6 za 0 kG.length),(29,I (kG.length:Int)),(30,I n34)],[(b2,.cells [I bu.ax,I bu.aA,I bu.aC]),(tv,lv jM),(qd,.cells [I n13,I n14,I n15]),(qp,.cells [I n41,I n42,I n43]),(vD,.cells [I n44,I n45]),(za,yB kG)]⟩) ?_ ?_
      ·refine cB h J (fun h=>?_) (fun h=>?_)
       ·refine ab.mh (id:=13) (A:=[0,1,0,3,15,31]) (H0:=[(qp,.cells [I n28,I n29,I n30])]) (HH:=fun β=>[(qp,.cells [I v35.Version.ax,I v35.Version.aA,I v35.Version.aC]),(b2,.cells [I bu.ax,I bu.aA,I bu.aC]),(tv,lv jM),(qd,.cells [I n13,I n14,I n15]),(vD,.cells [I n31,I n32]),(QG,.cells (He v35)),(QH,.cells [I (bA (v37.1.bR+1)),I (bA (v37.1.bK+v35.ec))]),(za,yB kG)]) 4 mixed J (by kernel_rfl) (by kernel_rfl) [⟨none,some 3,[],fun _=>(qp,.cells [I n28,I n29,I n30]),none,[]⟩,⟨some 3,none,[],fun _=>(qp,.cells [I v35.Version.ax,I v35.Version.aA,I v35.Version.aC]),none,[]⟩] [] J (by kernel_rfl) J (.cons .p3 .nil) (fun _=>J)<|AT.am 3 J J<|AM.qv (aB J J) J<|AM.qv (aP J J .p4 J J) J<|AM.qv (aH J J .p5 J) J<|AM.nil<|AT.MP (Ti:=[(qp,.cells [I n28,I n29,I n30])]) (Pi:=[(qp,.cells [I v35.Version.ax,I v35.Version.aA,I v35.Version.aC])]) (fun _=>J) (fun _=>J) (fun _=>J) J J ?_ ?_
        ·exact aI J J J J .p0 J J<|ae.nil ⟨_,J⟩
        exact AT.yd (fun _=>J) fun β=>aI J J J J .p4 J J<|rA J J<|rN<|ab.stop<|aq.lq [1,1,1,0,0,2] ⟨v35.Version.ax,v35.Version.aA,v35.Version.aC,bA (v37.1.bR+1),bA (v37.1.bK+v35.ec),true,h,J⟩ J J
       ·exact tK<|ab.stop<|aq.lq [0,0,0,0,0,2] ⟨n28,n29,n30,n31,n32,xF,h,J⟩ J J
      ·rintro aS ⟨n41,n42,n43,n44,n45,c46,h,rfl⟩
       unfold kj at h
       refine ab.dp<|tR<|ae.qv (bQ J J) J<|rM J J<|rN<|ab.stop<|?_
       cases h
       exact DA _ _ J<|aq.lq [0,0,0,0,0,0] J J J
    ·refine ab.exit J<|have h:=cW h AL;?_
     unfold qk at h
     refine tS<|aT<|rM J J<|ae.qv (dc J) J<|rN<|cB h J (fun h=>?_) (fun h=>?_)
     ·refine aT<|rA J J<|rA J J<|rN<|ab.ret<|have h:=cW h gN;?_
      cases h
      exact aq.co (s:=10) J (.nil 3)<|aq.here ⟨_,.cons (.tmp _ _ J) (.cons (.tmp _ _ J) .nil),J⟩
     ·refine tK<|aU h fun Pf e5 h=>ab.mh (id:=17) (A:=[0,0,2,7,0,15,63]) (H0:=[(tv,lv jM)]) (HH:=fun β=>[((β 5),lv Pf),(b2,.cells [I bu.ax,I bu.aA,I bu.aC]),(qd,.cells [I n13,I n14,I n15]),(qp,.cells [I n28,I n29,I n30]),(vD,.cells [I n31,I n32]),(za,yB kG)]) 6 mixed J (by kernel_rfl) (by kernel_rfl) [⟨none,some 3,[],fun _=>(tv,lv jM),none,[]⟩,⟨some 3,some 5,[],fun b=>(b,lv Pf),none,[]⟩,⟨some 5,none,[],fun b=>(b,lv Pf),none,[]⟩] [3,5] J (by kernel_rfl) J (.cons .p1 .nil) (fun _=>J)<|AT.am 3 J J<|AM.qv (aX J) J<|AM.qv (aH J J .p2 J) J<|AM.dt (xs:=([(⟨n28,n29,n30⟩:Version)]).map Version.av) J J J J J J<|AM.nil<|AT.yO (V:=fun b=>.sl 3 b 0 Pf.length) (Ti:=[(tv,lv jM)]) (Pi:=fun b=>[(b,lv Pf)]) (fun _=>J) (fun _=>J) (fun _ _=>J) J (fun _=>J) J J J ?_ ?_
      ·exact fO (g:=Version.av) J J J J J J J J (.list _) e5 (fun _=>.p0) J fun US=>ae.nil ⟨US,_,J,J⟩
      refine AT.am 1 J J<|AM.qv (aH J J .p2 J) J<|AM.nil<|AT.Ld (V:=fun b=>.sl 3 b 0 Pf.length) (Ti:=fun β=>[(β 3,lv Pf)]) (Pi:=fun b=>[(b,lv Pf)]) (fun _=>J) (fun _=>J) (fun _ _=>J) (fun _=>J) (fun _=>J) J J J (fun β=>?_) ?_
      ·generalize β 3=US
       exact rA J J<|ae.nil ⟨US,_,J,J⟩
      refine AT.yd (fun _=>J) fun β=>?_
      generalize β 3=US
      generalize β 5=UW
      clear β
      refine aI J J J J .p2 J J<|rN<|ab.dp<|aT<|ae.qv (aH J J .p2 J) J<|rN<|tR<|bY J J J J fun Wn=>aI J J J J .p0 J J<|rN<|ab.stop<|?_
      cases h
      exact mD _ _ J<|aq.lq [2,1,0] ⟨UW,Wn,J⟩ J J
  ·refine ab.exit J<|have h:=cW h gN;aT<|rM J J<|rA J J<|rA J J<|rN<|ab.ret<|?_
   cases h
   exact aq.freeze .p1<|aq.co (s:=10) J (Co.E5 .p1)<|aq.here ⟨_,.cons (.tmp _ _ J) (.cons (.tmp _ _ J) .nil),J⟩
end Go.Proofs.YtipbfaojbmendaaGreatDoor
