/- The code computes the plain functions: proofs written by shal.py. -/
import Derived.Test.YthamhifbccpcpaaGreatDoorRcoP
import Derived.Test.YthamhifbccpcpaaGreatDoorLib
set_option maxHeartbeats 4000000
set_option maxRecDepth 100000
set_option linter.unusedVariables false
set_option linter.unusedSimpArgs false
namespace Go.Proofs.YthamhifbccpcpaaGreatDoor
open Go Go.Eng Go.Proofs Go.Beacon
attribute [local irreducible] ai ab AQ QV aM ak RX AM
instance af9:JR Tryz.prog 70:=⟨by kernel_rfl⟩
instance afA:wY Tryz.prog 70 2 ah.av:=⟨fun x y w S v u hv hu=>by
 obtain ⟨vs,rfl,hl,ha⟩:=At.qX hv
 obtain ⟨us,rfl,x5,JB⟩:=At.qX hu
 obtain ⟨v0,p0,q0⟩:=mS.get hl ha (off:=0) rfl
 obtain ⟨u0,Wn,Wo⟩:=mS.get x5 JB (off:=0) rfl
 obtain ⟨v1,p1,q1⟩:=mS.get hl ha (off:=1) rfl
 obtain ⟨u1,Wp,Wq⟩:=mS.get x5 JB (off:=1) rfl
 obtain ⟨v2,p2,q2⟩:=mS.get hl ha (off:=2) rfl
 obtain ⟨u2,p2',q2'⟩:=mS.get x5 JB (off:=2) rfl
 obtain ⟨v3,p3,q3⟩:=mS.get hl ha (off:=3) rfl
 obtain ⟨u3,p3',q3'⟩:=mS.get x5 JB (off:=3) rfl
 refine CM.cast (CM.struct Tryz.underlying70 (by kernel_rfl) (.cons (by decide) (jm J p0) (jm J Wn) (CM.up (wY.h (g:=AV.str) x.Device y.Device w S _ _ q0 Wo) 0) (.cons (by decide) (jm J p1) (jm J Wp) (CM.up (wY.h (g:=AV.str) x.aG y.aG w S _ _ q1 Wq) 0) (.cons (by decide) (jm J p2) (jm J p2') (CM.up (wY.h (g:=I) x.aT y.aT w S _ _ q2 q2') 0) (.cons (by decide) (jm J p3) (jm J p3') (CM.up (wY.h (g:=I) x.To y.To w S _ _ q3 q3') 0) .nil))))) ?_
 obtain ⟨_,_,_,_⟩:=x
 obtain ⟨_,_,_,_⟩:=y
 rw [Bool.eq_iff_iff];simp [and_assoc]⟩
instance afB:JR Tryz.prog 76:=⟨by kernel_rfl⟩
instance afC:wY Tryz.prog 76 2 Fraction.av:=⟨fun x y w S v u hv hu=>by
 obtain ⟨vs,rfl,hl,ha⟩:=At.qX hv
 obtain ⟨us,rfl,x5,JB⟩:=At.qX hu
 obtain ⟨v0,p0,q0⟩:=mS.get hl ha (off:=0) rfl
 obtain ⟨u0,Wn,Wo⟩:=mS.get x5 JB (off:=0) rfl
 obtain ⟨v1,p1,q1⟩:=mS.get hl ha (off:=1) rfl
 obtain ⟨u1,Wp,Wq⟩:=mS.get x5 JB (off:=1) rfl
 refine CM.cast (CM.struct Tryz.underlying76 (by kernel_rfl) (.cons (by decide) (jm J p0) (jm J Wn) (CM.up (wY.h (g:=I) x.Mi y.Mi w S _ _ q0 Wo) 0) (.cons (by decide) (jm J p1) (jm J Wp) (CM.up (wY.h (g:=I) x.Den y.Den w S _ _ q1 Wq) 0) .nil))) ?_
 obtain ⟨_,_⟩:=x
 obtain ⟨_,_⟩:=y
 rw [Bool.eq_iff_iff];simp [and_assoc]⟩
instance ZI:JR Tryz.prog 215:=⟨by kernel_rfl⟩
instance ZJ:wY Tryz.prog 215 2 ae.av:=⟨fun x y w S v u hv hu=>by
 obtain ⟨vs,rfl,hl,ha⟩:=At.qX hv
 obtain ⟨us,rfl,x5,JB⟩:=At.qX hu
 obtain ⟨v0,p0,q0⟩:=mS.get hl ha (off:=0) rfl
 obtain ⟨u0,Wn,Wo⟩:=mS.get x5 JB (off:=0) rfl
 obtain ⟨v1,p1,q1⟩:=mS.get hl ha (off:=1) rfl
 obtain ⟨u1,Wp,Wq⟩:=mS.get x5 JB (off:=1) rfl
 refine CM.cast (CM.struct Tryz.underlying215 (by kernel_rfl) (.cons (by decide) (jm J p0) (jm J Wn) (CM.up (wY.h (g:=I) x.at_ y.at_ w S _ _ q0 Wo) 0) (.cons (by decide) (jm J p1) (jm J Wp) (CM.up (wY.h (g:=I) x.bU y.bU w S _ _ q1 Wq) 0) .nil))) ?_
 obtain ⟨_,_⟩:=x
 obtain ⟨_,_⟩:=y
 rw [Bool.eq_iff_iff];simp [and_assoc]⟩
abbrev nu (xs:List Int):AV:=.list 1 (xs.map I)
abbrev ET (xs:List aO):AV:=.list 1 (xs.map AV.str)
abbrev Q3 (xs:List aG):Ob:=.arr 10 (xs.map aG.av)
abbrev zh (xs:List ao):Ob:=.arr 4 (xs.map ao.av)
abbrev wQ (xs:List aG):AV:=.list 10 (xs.map aG.av)
abbrev w6 (x:aG):List AV:=[.str x.Key,.str x.ax,I x.eI,I x.bh,.bool x.bj,I x.On,I x.eJ,I x.bR,I x.Rest,I x.Empty]
abbrev Oq (x:ao):List AV:=[.str x.Device,.str x.ax,I x.At,I x.Value]
abbrev lB (xs:List ao):AV:=.list 4 (xs.map ao.av)
abbrev dC (xs:List ae):Ob:=.arr 2 (xs.map ae.av)
abbrev yy (xs:List aO):Ob:=.arr 1 (xs.map AV.str)
abbrev Mn (xs:List aZ):Ob:=.arr 2 (xs.map aZ.av)
abbrev lE4 (xs:List ae):AV:=.list 2 (xs.map ae.av)
abbrev dQ (xs:List ah):Ob:=.arr 4 (xs.map ah.av)
abbrev uA (xs:List ah):AV:=.list 4 (xs.map ah.av)
abbrev Vf (xs:List aq):Ob:=.arr 3 (xs.map aq.av)
abbrev xC (xs:List (List ah)):AV:=.list 1 (xs.map (Gp 4 ah.av))
abbrev mE9 (xs:List (aO×(List aq))):Ob:=.mp (xs.map (fun e=>(AV.str e.1,(Gp 3 aq.av) e.2)))
abbrev X9:=(fun (e:aO×(List aq))=>(AV.str e.1,(Gp 3 aq.av) e.2))
abbrev M7 (xs:List aq):AV:=.list 3 (xs.map aq.av)
abbrev vf (xs:List Int):Ob:=.arr 1 (xs.map I)
abbrev Mo (xs:List aX):Ob:=.arr 3 (xs.map aX.av)
abbrev TL (xs:List aX):AV:=.list 3 (xs.map aX.av)
abbrev IJ (xs:List aE):Ob:=.arr 2 (xs.map aE.av)
abbrev aE8 (xs:List (List ah)):Ob:=.arr 1 (xs.map (Gp 4 ah.av))
abbrev Wr (xs:List (aO×Int)):Ob:=.mp (xs.map (fun e=>(AV.str e.1,I e.2)))
abbrev Ws:=(fun (e:aO×Int)=>(AV.str e.1,I e.2))
theorem GJ [GI:bI] {aa:Int} {aj:Int} {r:Int} (h:Below aa aj=some r):Pu Tryz.prog 116 [I aa,I aj] (I r):=by
 unfold Below at h
 refine aM.bt Tryz.func116 J Tryz.ntmps116 Tryz.results116 J J ?_
 refine aN<|rA J J<|rN<|tS<|aN<|rM J J<|ai.qv (bB J J) J<|rN<|cD h J (fun h=>?_) (fun h=>?_)
 ·refine aN<|rA J J<|rN<|ab.ret<|?_
  cases h
  exact hP J J
 ·refine tK<|aN<|rM J J<|rM J J<|aF h fun n1 e1 h=>ai.qv (Gn J J e1) J<|rA J J<|rN<|tS<|aN<|rM J J<|ai.qv (bB J J) J<|rN<|ab.cut (fun aL=>∃ (n2:Int),xv n2=some r∧aL=⟨16,[(0,I n2)],[]⟩) ?_ ?_
  ·refine cD h J (fun h=>?_) (fun h=>?_)
   ·exact tR<|rM J J<|rM J J<|ai.qv (a8 J J) J<|rA J J<|rN<|ab.stop<|ak.lq [] ⟨aU (n1+aj),h,J⟩ J J
   ·exact tK<|ab.stop<|ak.lq [] ⟨n1,h,J⟩ J J
  ·rintro aL ⟨n2,h,rfl⟩
   unfold xv at h
   refine aN<|rM J J<|rA J J<|rN<|ab.ret<|?_
   cases h
   exact hP J J
theorem kW [GI:bI] {bc:Bk} {aa:an} {aj:Int} {r:Int×an} (h:gR aa aj=some r):aM Tryz.prog 42 [.ptr bc 0,I aj] [(bc,.cells [nu aa.L,I aa.at_])] (T0 ([(bc,.cells [nu r.2.L,I r.2.at_])]) (I r.1)):=by
 unfold gR at h
 refine aM.dx ?_
 refine aM.bt Tryz.func42 J Tryz.ntmps42 Tryz.results42 J J ?_
 refine aN<|rA J J<|rN<|aN<|rM J J<|ai.qv (aH J) J<|rF J J J<|rL J J .p0 J J<|ai.qv (a8 J J) J<|ai.qv (aH J) J<|rF J J J<|aD J J J J .p0 J J<|rN<|tS<|aN<|rM J J<|ai.qv (aH J) J<|rF J J J<|rL J J .p0 J J<|ai.qv (db J) J<|ai.qv (dw J J) J<|rN<|cD h J (fun h=>?_) (fun h=>?_)
 ·refine aN<|rM J J<|ai.qv (aH J) J<|rF J J J<|rL J J .p0 J J<|ai.qv (u4 J J) J<|rM J J<|aF h fun v1 e1 h=>bb J (GJ e1) cR J<|rA J J<|rN<|ab.ret<|?_
  cases h
  exact hH J [0] J ⟨J,J⟩
 ·refine tK<|tS<|ab.bM (id:=4) (A:=[0,1,3,7,15,0,32,96,224,480,1023,2047]) 12 mixed J (by kernel_rfl) (by kernel_rfl)<|AM.qv (ay J) J<|AM.qv (aH J) J<|AM.qv (aC J J) J<|AM.qv (aJ J J .p0 J) J<|AM.qv (bT J J) J<|AM.qv (ay J) J<|AM.qv (aH J) J<|AM.qv (aC J J) J<|AM.qv (aJ J J .p0 J) J<|AM.qv (db J) J<|aF h fun n2 e2 h=>AM.qv (Gn J J e2) J<|AM.qv (bY J) J<|AM.nil<|rN<|tS<|ab.bM (id:=5) (A:=[0,1,3,7,15,0,32,96,224,480,1023,2047]) 12 mixed J (by kernel_rfl) (by kernel_rfl)<|AM.qv (ay J) J<|AM.qv (aH J) J<|AM.qv (aC J J) J<|AM.qv (aJ J J .p0 J) J<|AM.qv (bT J J) J<|AM.qv (ay J) J<|AM.qv (aH J) J<|AM.qv (aC J J) J<|AM.qv (aJ J J .p0 J) J<|AM.qv (db J) J<|aF h fun n3 e3 h=>AM.qv (Dx J J e3) J<|AM.qv (bY J) J<|AM.nil<|rN<|aN<|rM J J<|ai.qv (aH J) J<|rF J J J<|rL J J .p0 J J<|rM J J<|aF h fun v4 e4 h=>ai.qv (bz J J J e4 J J) J<|ai.qv (aW J J J) J<|aF h fun v5 e5 h=>bb J (GJ e5) cR J<|rM J J<|rM J J<|ai.qv (a8 J J) J<|ai.qv (u4 J J) J<|ai.qv (a8 J J) J<|rM J J<|aF h fun v6 e6 h=>bb J (GJ e6) cR J<|rA J J<|rN<|ab.ret<|?_
  cases h
  exact hH J [0] J ⟨J,J⟩
theorem jA [GI:bI] {bc:Bk} {aa:an} {aj:Int} {r:Bool×an} (h:gh aa aj=some r):aM Tryz.prog 45 [.ptr bc 0,I aj] [(bc,.cells [nu aa.L,I aa.at_])] (T0 ([(bc,.cells [nu r.2.L,I r.2.at_])]) (.bool r.1)):=by
 unfold gh at h
 refine aM.dx ?_
 refine aM.bt Tryz.func45 J Tryz.ntmps45 Tryz.results45 J J ?_
 refine aN<|rA J J<|rN<|aN<|rM J J<|rM J J<|aF h fun v1 e1 h=>bd J (kW e1) cR (.cons .p0 .nil) J J<|ai.qv (dw J J) J<|rA J J<|rN<|ab.ret<|?_
 cases h
 exact hH J [0] J ⟨J,J⟩
theorem kX [GI:bI] {bc:Bk} {aa:an} {aj:List aO} {r:aO×an} (h:gS aa aj=some r):aM Tryz.prog 24 [.ptr bc 0,ET aj] [(bc,.cells [nu aa.L,I aa.at_])] (T0 ([(bc,.cells [nu r.2.L,I r.2.at_])]) (.str r.1)):=by
 unfold gS at h
 refine aM.dx ?_
 refine aM.bt Tryz.func24 J Tryz.ntmps24 Tryz.results24 J J ?_
 refine aN<|rA J J<|rN<|aN<|rM J J<|rM J J<|rM J J<|ai.qv (db J) J<|aF h fun v1 e1 h=>bd J (kW e1) cR (.cons .p0 .nil) J J<|aF h fun v2 e2 h=>ai.qv (bz J J J e2 J J) J<|ai.qv (aW J J J) J<|rA J J<|rN<|ab.ret<|?_
 cases h
 exact hH J [0] J ⟨J,J⟩
theorem uc [GI:bI] {bc:Bk} {aa:an} {aj:Int} {ar:Int} {r:Int×an} (h:kC aa aj ar=some r):aM Tryz.prog 6 [.ptr bc 0,I aj,I ar] [(bc,.cells [nu aa.L,I aa.at_])] (T0 ([(bc,.cells [nu r.2.L,I r.2.at_])]) (I r.1)):=by
 unfold kC at h
 refine aM.dx ?_
 refine aM.bt Tryz.func6 J Tryz.ntmps6 Tryz.results6 J J ?_
 refine aN<|rA J J<|rN<|tS<|aN<|rM J J<|rM J J<|ai.qv (bB J J) J<|rN<|cD h J (fun h=>?_) (fun h=>?_)
 ·refine aN<|rM J J<|rA J J<|rN<|ab.ret<|?_
  cases h
  exact hH J [0] J ⟨J,J⟩
 ·refine tK<|aN<|rM J J<|rM J J<|rM J J<|rM J J<|ai.qv (bT J J) J<|ai.qv (a8 J J) J<|aF h fun v1 e1 h=>bd J (kW e1) cR (.cons .p0 .nil) J J<|ai.qv (a8 J J) J<|rA J J<|rN<|ab.ret<|?_
  cases h
  exact hH J [0] J ⟨J,J⟩
theorem cP [GI:bI] {bc:Bk} {aa:an} {aj:List Int} {r:Int×an} (h:cF aa aj=some r):aM Tryz.prog 25 [.ptr bc 0,nu aj] [(bc,.cells [nu aa.L,I aa.at_])] (T0 ([(bc,.cells [nu r.2.L,I r.2.at_])]) (I r.1)):=by
 unfold cF at h
 refine aM.dx ?_
 refine aM.bt Tryz.func25 J Tryz.ntmps25 Tryz.results25 J J ?_
 refine aN<|rA J J<|rN<|aN<|rM J J<|rM J J<|rM J J<|ai.qv (db J) J<|aF h fun v1 e1 h=>bd J (kW e1) cR (.cons .p0 .nil) J J<|aF h fun v2 e2 h=>ai.qv (bz J J J e2 J J) J<|ai.qv (aW J J J) J<|rA J J<|rN<|ab.ret<|?_
 cases h
 exact hH J [0] J ⟨J,J⟩
theorem o6 [GI:bI] {bc:Bk} {aa:an} {aj:aO} {r:aG×an} (h:iq aa aj=some r):aM Tryz.prog 81 [.ptr bc 0,.str aj] [(bc,.cells [nu aa.L,I aa.at_])] (T0 ([(bc,.cells [nu r.2.L,I r.2.at_])]) (aG.av r.1)):=by
 unfold iq at h
 refine aM.dx ?_
 refine aM.bt Tryz.func81 J Tryz.ntmps81 Tryz.results81 J J ?_
 refine aN<|bH J J J J fun b1=>rN<|aN<|rM J J<|rM J J<|aQ (xs:=([([116]:aO),([116]:aO),([117]:aO)]).map AV.str) J J J J J J<|aF h fun v2 e1 h=>bd J (kX e1) cR (.cons .p1 .nil) J J<|rM J J<|aF h fun v3 e2 h=>bd J (uc e2) cR (.cons .p0 .nil) J J<|rM J J<|aQ (xs:=([(5:Int),(20:Int),(50:Int),(100:Int)]).map I) J J J J J J<|aF h fun v4 e3 h=>bd J (cP e3) cR (.cons .p0 .nil) J J<|rM J J<|aF h fun v5 e4 h=>bd J (jA e4) cR (.cons .p0 .nil) J J<|rM J J<|aQ (xs:=([(0:Int),(2:Int),(5:Int),(8:Int)]).map I) J J J J J J<|aF h fun v6 e5 h=>bd J (cP e5) cR (.cons .p0 .nil) J J<|rM J J<|aQ (xs:=([(0:Int),(0:Int),(5:Int),(15:Int)]).map I) J J J J J J<|aF h fun v7 e6 h=>bd J (cP e6) cR (.cons .p0 .nil) J J<|rM J J<|aQ (xs:=([(0:Int),(0:Int),(5:Int),(15:Int)]).map I) J J J J J J<|aF h fun v8 e7 h=>bd J (cP e7) cR (.cons .p0 .nil) J J<|rM J J<|aQ (xs:=([(0:Int),(0:Int),(1:Int),(2:Int)]).map I) J J J J J J<|aF h fun v9 e8 h=>bd J (cP e8) cR (.cons .p0 .nil) J J<|ai.qv (cq J J J J J) J<|bH J J J J fun ja=>aD J J J J .p0 J J<|rN<|tS<|aF h fun v11 e9 h=>ab.gj (id:=2) (A:=[0,1,0,0,12,31,63,127]) (H0:=[(bc,.cells [nu v9.2.L,I v9.2.at_])]) (HH:=fun β=>[(bc,.cells [nu v11.2.L,I v11.2.at_]),(ja,.cells [.str aj,.str v2.1,I v3.1,I v4.1,.bool v5.1,I v6.1,I (0:Int),I v7.1,I v8.1,I v9.1]),(b1,.cells [.str [],.str [],I (0:Int),I (0:Int),.bool false,I (0:Int),I (0:Int),I (0:Int),I (0:Int),I (0:Int)])]) 5 mixed J (by kernel_rfl) (by kernel_rfl) [⟨none,some 4,[],fun _=>(bc,.cells [nu v9.2.L,I v9.2.at_]),none,[]⟩,⟨some 4,none,[],fun _=>(bc,.cells [nu v11.2.L,I v11.2.at_]),none,[]⟩] [] J (by kernel_rfl) J (.cons .p1 .nil) (fun _=>J)<|AT.am 4 J J<|AM.qv (aC J J) J<|AM.qv (aJ J J .p0 J) J<|AM.qv (ay J) J<|AM.bZ (xs:=([(0:Int),(0:Int),(2:Int),(4:Int)]).map I) J J J J J J<|AM.nil<|AT.LY (av:=I v11.1) (Ti:=[(bc,.cells [nu v9.2.L,I v9.2.at_])]) (Pi:=[(bc,.cells [nu v11.2.L,I v11.2.at_])]) (fun _=>J) (fun _=>J) (fun _=>J) J J J ?_ ?_
 ·exact bd J (cP e9) cR (.cons .p0 .nil) J J<|ai.nil ⟨_,J,J⟩
 refine AT.sY (fun _=>J) fun β=>ai.qv (bT J J) J<|rF J J J<|aD J J J J .p1 J J<|rN<|tS<|aN<|rF J J J<|rL J J .p1 J J<|ai.qv (cL J) J<|rN<|ab.cut (fun aL=>∃ (n12:Int),jn aj v2 v3 v4 v5 v6 v7 v8 v9 v11 n12=some r∧aL=⟨48,[(4,.ptr b1 0),(5,.ptr ja 0)],[(bc,.cells [nu v11.2.L,I v11.2.at_]),(b1,.cells [.str [],.str [],I (0:Int),I (0:Int),.bool false,I (0:Int),I (0:Int),I (0:Int),I (0:Int),I (0:Int)]),(ja,.cells [.str aj,.str v2.1,I v3.1,I v4.1,.bool v5.1,I v6.1,I n12,I v7.1,I v8.1,I v9.1])]⟩) ?_ ?_
 ·refine cB h J (fun h=>?_) (fun h=>?_)
  ·exact tR<|rF J J J<|rL J J .p1 J J<|ai.qv (u4 J J) J<|rF J J J<|rL J J .p1 J J<|ai.qv (bT J J) J<|rF J J J<|aD J J J J .p1 J J<|rN<|ab.stop<|ak.lq [0,1,0] ⟨aU ((aU ((2:Int) * v6.1)) - (aU (v6.1 - v11.1))),h,J⟩ J J
  ·exact tK<|ab.stop<|ak.lq [0,1,0] ⟨aU (v6.1 - v11.1),h,J⟩ J J
 ·rintro aL ⟨n12,h,rfl⟩
  unfold jn at h
  refine aN<|ai.qv (aA J J .p2 J) J<|aD J J J J .p1 J J<|rN<|ab.ret<|?_
  cases h
  exact ak.here ⟨_,.cons (.all _ _ _ _ _ _ J .p1 aR.h bf.h J J) .nil,_,.cons .p0 .nil,⟨J,J⟩⟩
theorem iR [GI:bI] {bc:Bk} {aa:an} {aj:Int} {ar:Int} {r:Int×an} (h:fV aa aj ar=some r):aM Tryz.prog 48 [.ptr bc 0,I aj,I ar] [(bc,.cells [nu aa.L,I aa.at_])] (T0 ([(bc,.cells [nu r.2.L,I r.2.at_])]) (I r.1)):=by
 unfold fV at h
 refine aM.dx ?_
 refine aM.bt Tryz.func48 J Tryz.ntmps48 Tryz.results48 J J ?_
 refine aN<|rA J J<|rN<|tS<|aN<|rM J J<|aF h fun v1 e1 h=>bd J (jA e1) cR (.cons .p0 .nil) J J<|rN<|cB h J (fun h=>?_) (fun h=>?_)
 ·refine aN<|rM J J<|rM J J<|ai.qv (bT J J) J<|rM J J<|ai.qv (a8 J J) J<|rM J J<|rM J J<|aQ (xs:=([aU (aj - (1:Int)),aU (ar+(1:Int)),aj,ar,(-1099511627776:Int),(1099511627776:Int)]).map I) J J J J J J<|aF h fun v2 e2 h=>bd J (cP e2) cR (.cons .p0 .nil) J J<|rA J J<|rN<|ab.ret<|?_
  cases h
  exact hH J [0] J ⟨J,J⟩
 ·refine tK<|aN<|rM J J<|rM J J<|rM J J<|aF h fun v3 e3 h=>bd J (uc e3) cR (.cons .p0 .nil) J J<|rA J J<|rN<|ab.ret<|?_
  cases h
  exact hH J [0] J ⟨J,J⟩
theorem DV [GI:bI] {bc:Bk} {aa:an} {r:(List aG)×an} (h:pK aa=some r):aM Tryz.prog 21 [.ptr bc 0] [(bc,.cells [nu aa.L,I aa.at_])] (T1 (fun gr=>[(bc,.cells [nu r.2.L,I r.2.at_]),(gr,Q3 r.1)]) (fun gr=>.sl 10 gr 0 r.1.length)):=by
 unfold pK at h
 refine aM.dx ?_
 refine aM.bt Tryz.func21 J Tryz.ntmps21 Tryz.results21 J J ?_
 refine aN<|rA J J<|rN<|aN<|rA J J<|rN<|tS<|aN<|aQ (xs:=([([114,97]:aO),([114,98]:aO),([114,99]:aO)]).map AV.str) J J J J J J<|ai.qv (db J) J<|rM J J<|rN<|ab.block<|ab.bV (fun x:(List Int)×Int×(List aG)×Int=>mf x.1 x.2.1 x.2.2.1 x.2.2.2) (fun x aL=>∃ (b8:Bk),aL=⟨67,[(0,.ptr bc 0),(3,.sl 10 b8 0 x.2.2.1.length),(7,ET [([114,97]:aO),([114,98]:aO),([114,99]:aO)]),(8,I ([([114,97]:aO),([114,98]:aO),([114,99]:aO)].length:Int)),(9,I x.2.2.2)],[(bc,.cells [nu x.1,I x.2.1]),(b8,Q3 x.2.2.1)]⟩) h ?_ ?_
 ·exact ak.arr (s:=3) 10 J fun kh=>ak.lq [1,0] ⟨kh,J⟩ J J
 ·intro x z1 aL J1 cT h im fw
  obtain ⟨l6,n7,l9,n10⟩:=x
  obtain ⟨b8,rfl⟩:=cT
  replace h:mf l6 n7 l9 n10=some z1:=h
  unfold mf at h
  refine aN<|ai.qv (bB J J) J<|rN<|tS<|cD h J (fun h=>?_) (fun h=>?_)
  ·refine tK<|tS<|ab.block<|aN<|aF h fun v12 e1 h=>ai.qv (bz J J J e1 J J) J<|ai.qv (aW J J J) J<|rA J J<|rN<|aN<|rM J J<|aF h fun k9 e2 h=>bd J (jA e2) cR (.cons .p0 .nil) J J<|rN<|ab.cut (fun aL=>∃ (A9:Bk) (tL:List Int) (n15:Int) (xw:List aG),ma n10 tL n15 xw=some z1∧aL=⟨67,[(0,.ptr bc 0),(3,.sl 10 A9 0 xw.length),(7,ET [([114,97]:aO),([114,98]:aO),([114,99]:aO)]),(8,I ([([114,97]:aO),([114,98]:aO),([114,99]:aO)].length:Int)),(9,I n10)],[(bc,.cells [nu tL,I n15]),(A9,Q3 xw)]⟩) ?_ ?_
   ·refine cB h J (fun h=>?_) (fun h=>?_)
    ·exact tR<|rM J J<|rM J J<|rM J J<|aF h fun lL e3 h=>bd J (o6 e3) cR (.cons .p0 .nil) J J<|aQ (xs:=([lL.1]:List aG).map aG.av) J J J J J J<|aF h fun lU e4 h=>cA (g:=aG.av) J J J J J J J J (.list _) e4 (fun _=>.p1) J fun Q4=>rA J J<|rN<|ab.stop<|ak.lq [0,0] ⟨Q4,lL.2.L,lL.2.at_,lU,h,J⟩ J J
    ·exact tK<|ab.stop<|ak.lq [0,0] ⟨b8,k9.2.L,k9.2.at_,l9,h,J⟩ J J
   ·rintro aL ⟨A9,tL,n15,xw,h,rfl⟩
    unfold ma at h
    refine ab.cd<|tR<|ai.qv (a8 J J) J<|rM J J<|rN<|ab.stop<|?_
    cases h
    exact im _ _ J<|ak.lq [0,0] ⟨A9,J⟩ J J
  ·refine ab.exit J<|have h:=cr h fw;?_
   unfold sD at h
   refine tS<|aN<|rM J J<|aF h fun v21 e5 h=>bd J (jA e5) cR (.cons .p0 .nil) J J<|rN<|ab.cut (fun aL=>∃ (IK:Bk) (va:List Int) (n23:Int) (U0:List aG),ko va n23 U0=some r∧aL=⟨67,[(3,.sl 10 IK 0 U0.length)],[(bc,.cells [nu va,I n23]),(IK,Q3 U0)]⟩) ?_ ?_
   ·refine cB h J (fun h=>?_) (fun h=>?_)
    ·refine aN<|rM J J<|rM J J<|aQ (xs:=([([]:aO),([114,97]:aO),([114,122]:aO)]).map AV.str) J J J J J J<|aF h fun v26 e6 h=>bd J (kX e6) cR (.cons .p0 .nil) J J<|aF h fun cx e7 h=>bd J (o6 e7) cR (.cons .p0 .nil) J J<|bH J J J J fun JC=>aD J J J J .p0 J J<|rN<|tS<|aN<|rM J J<|aF h fun pn e8 h=>bd J (kW e8) cR (.cons .p1 .nil) J J<|rN<|ab.block<|aN<|ai.qv (dw J J) J<|rA J J<|rN<|ab.cut (fun aL=>∃ (fx:List Int) (n31:Int) (U3:aO) (n33:Int) (n34:Int) (n35:Int) (n36:Int) (n37:Int) (n38:Int) (n39:Int),mb l9 cx fx n31 U3 n33 n34 n35 n36 n37 n38 n39=some r∧aL=⟨67,[(3,.sl 10 b8 0 l9.length),(6,.ptr JC 0)],[(bc,.cells [nu fx,I n31]),(b8,Q3 l9),(JC,.cells [.str cx.1.Key,.str U3,I n33,I n34,.bool cx.1.bj,I n35,I n36,I n37,I n38,I n39])]⟩) ?_ ?_
     ·refine cD h J (fun h=>?_) (fun h=>?_)
      ·exact tR<|rM J J<|aF h fun v40 e9 h=>bd J (iR e9) cR (.cons .p0 .nil) J J<|rM J J<|aF h fun v41 Ba h=>bd J (iR Ba) cR (.cons .p0 .nil) J J<|rF J J J<|aD J J J J .p1 J J<|rF J J J<|aD J J J J .p1 J J<|rN<|ab.stop<|ak.lq [0,1,0] ⟨v41.2.L,v41.2.at_,cx.1.ax,v40.1,cx.1.bh,cx.1.On,cx.1.eJ,cx.1.bR,cx.1.Rest,v41.1,h,J⟩ J J
      ·refine aN<|ai.qv (dw J J) J<|rA J J<|rN<|ab.cut (fun aL=>∃ (U4:List Int) (n43:Int) (U5:aO) (n45:Int) (n46:Int) (n47:Int) (n48:Int) (n49:Int),mc l9 cx U4 n43 U5 n45 n46 n47 n48 n49=some r∧aL=⟨67,[(3,.sl 10 b8 0 l9.length),(6,.ptr JC 0)],[(bc,.cells [nu U4,I n43]),(b8,Q3 l9),(JC,.cells [.str cx.1.Key,.str U5,I cx.1.eI,I n45,.bool cx.1.bj,I n46,I n47,I n48,I n49,I cx.1.Empty])]⟩) ?_ ?_
       ·refine cD h J (fun h=>?_) (fun h=>?_)
        ·exact tR<|rM J J<|aF h fun v50 HB h=>bd J (iR HB) cR (.cons .p0 .nil) J J<|rM J J<|aF h fun v51 EH h=>bd J (iR EH) cR (.cons .p0 .nil) J J<|rM J J<|aF h fun P1 K4 h=>bd J (iR K4) cR (.cons .p0 .nil) J J<|rF J J J<|aD J J J J .p1 J J<|rF J J J<|aD J J J J .p1 J J<|rF J J J<|aD J J J J .p1 J J<|rN<|ab.stop<|ak.lq [0,1,0] ⟨P1.2.L,P1.2.at_,cx.1.ax,v50.1,cx.1.On,cx.1.eJ,v51.1,P1.1,h,J⟩ J J
        ·refine aN<|ai.qv (dw J J) J<|rA J J<|rN<|ab.cut (fun aL=>∃ (M5:List Int) (U6:Int) (U7:aO) (U8:Int) (n57:Int),me l9 cx M5 U6 U7 U8 n57=some r∧aL=⟨67,[(3,.sl 10 b8 0 l9.length),(6,.ptr JC 0)],[(bc,.cells [nu M5,I U6]),(b8,Q3 l9),(JC,.cells [.str cx.1.Key,.str U7,I cx.1.eI,I cx.1.bh,.bool cx.1.bj,I U8,I n57,I cx.1.bR,I cx.1.Rest,I cx.1.Empty])]⟩) ?_ ?_
         ·refine cD h J (fun h=>?_) (fun h=>?_)
          ·exact tR<|rM J J<|aF h fun v58 P3 h=>bd J (iR P3) cR (.cons .p0 .nil) J J<|rM J J<|aF h fun v59 M8 h=>bd J (iR M8) cR (.cons .p0 .nil) J J<|rF J J J<|aD J J J J .p1 J J<|rF J J J<|aD J J J J .p1 J J<|rN<|ab.stop<|ak.lq [0,1,0] ⟨v59.2.L,v59.2.at_,cx.1.ax,v58.1,v59.1,h,J⟩ J J
          ·exact tR<|rM J J<|aQ (xs:=([([]:aO),([65]:aO),([116]:aO)]).map AV.str) J J J J J J<|aF h fun v60 P4 h=>bd J (kX P4) cR (.cons .p0 .nil) J J<|rF J J J<|aD J J J J .p1 J J<|rN<|ab.stop<|ak.lq [0,1,0] ⟨v60.2.L,v60.2.at_,v60.1,cx.1.On,cx.1.eJ,h,J⟩ J J
         ·rintro aL ⟨M5,U6,U7,U8,n57,h,rfl⟩
          unfold me at h
          exact ab.stop<|ak.lq [0,0,0] ⟨M5,U6,U7,cx.1.bh,U8,n57,cx.1.bR,cx.1.Rest,h,J⟩ J J
       ·rintro aL ⟨U4,n43,U5,n45,n46,n47,n48,n49,h,rfl⟩
        unfold mc at h
        exact ab.stop<|ak.lq [0,0,0] ⟨U4,n43,U5,cx.1.eI,n45,n46,n47,n48,n49,cx.1.Empty,h,J⟩ J J
     ·rintro aL ⟨fx,n31,U3,n33,n34,n35,n36,n37,n38,n39,h,rfl⟩
      unfold mb at h
      exact ab.cd<|tR<|rM J J<|ai.qv (aA J J .p2 J) J<|aQ (xs:=([(⟨cx.1.Key,U3,n33,n34,cx.1.bj,n35,n36,n37,n38,n39⟩:aG)]).map aG.av) J J J J J J<|aF h fun ZG Q5 h=>cA (g:=aG.av) J J J J J J J J (.list _) Q5 (fun _=>.p1) J fun b62=>rA J J<|rN<|ab.stop<|ak.lq [0,0] ⟨b62,fx,n31,ZG,h,J⟩ J J
    ·exact tK<|ab.stop<|ak.lq [0,0] ⟨b8,v21.2.L,v21.2.at_,l9,h,J⟩ J J
   ·rintro aL ⟨IK,va,n23,U0,h,rfl⟩
    unfold ko at h
    refine aN<|rM J J<|rA J J<|rN<|ab.ret<|?_
    cases h
    exact hH J [0,0] J ⟨IK,J,J⟩
theorem B2 [GI:bI] {bc:Bk} {aa:an} {r:aG×an} (h:tv aa=some r):aM Tryz.prog 22 [.ptr bc 0] [(bc,.cells [nu aa.L,I aa.at_])] (T0 ([(bc,.cells [nu r.2.L,I r.2.at_])]) (aG.av r.1)):=by
 unfold tv at h
 refine aM.dx ?_
 refine aM.bt Tryz.func22 J Tryz.ntmps22 Tryz.results22 J J ?_
 refine aN<|bH J J J J fun b1=>rN<|aN<|rM J J<|rM J J<|aQ (xs:=([([114,97]:aO),([114,97]:aO),([114,98]:aO)]).map AV.str) J J J J J J<|aF h fun v2 e1 h=>bd J (kX e1) cR (.cons .p1 .nil) J J<|aF h fun v3 e2 h=>bd J (o6 e2) cR (.cons .p0 .nil) J J<|bH J J J J fun b4=>aD J J J J .p0 J J<|rN<|tS<|aN<|rM J J<|aF h fun v5 e3 h=>bd J (jA e3) cR (.cons .p1 .nil) J J<|rN<|ab.cut (fun aL=>∃ (l6:List Int) (n7:Int) (q8:aO) (n9:Int) (n10:Int),pL v3 l6 n7 q8 n9 n10=some r∧aL=⟨22,[(2,.ptr b1 0),(3,.ptr b4 0)],[(bc,.cells [nu l6,I n7]),(b1,.cells [.str [],.str [],I (0:Int),I (0:Int),.bool false,I (0:Int),I (0:Int),I (0:Int),I (0:Int),I (0:Int)]),(b4,.cells [.str q8,.str v3.1.ax,I n9,I n10,.bool v3.1.bj,I v3.1.On,I v3.1.eJ,I v3.1.bR,I v3.1.Rest,I v3.1.Empty])]⟩) ?_ ?_
 ·refine cB h J (fun h=>?_) (fun h=>?_)
  ·exact tR<|rM J J<|aQ (xs:=([([]:aO),([114,97]:aO)]).map AV.str) J J J J J J<|aF h fun v11 e4 h=>bd J (kX e4) cR (.cons .p0 .nil) J J<|rM J J<|aF h fun v12 e5 h=>bd J (iR e5) cR (.cons .p0 .nil) J J<|rM J J<|aF h fun k9 e6 h=>bd J (iR e6) cR (.cons .p0 .nil) J J<|rF J J J<|aD J J J J .p1 J J<|rF J J J<|aD J J J J .p1 J J<|rF J J J<|aD J J J J .p1 J J<|rN<|ab.stop<|ak.lq [0,1,0] ⟨k9.2.L,k9.2.at_,v11.1,v12.1,k9.1,h,J⟩ J J
  ·exact tK<|ab.stop<|ak.lq [0,1,0] ⟨v5.2.L,v5.2.at_,v3.1.Key,v3.1.eI,v3.1.bh,h,J⟩ J J
 ·rintro aL ⟨l6,n7,q8,n9,n10,h,rfl⟩
  unfold pL at h
  refine aN<|ai.qv (aA J J .p2 J) J<|aD J J J J .p1 J J<|rN<|ab.ret<|?_
  cases h
  exact ak.here ⟨_,.cons (.all _ _ _ _ _ _ J .p1 aR.h bf.h J J) .nil,_,.cons .p0 .nil,⟨J,J⟩⟩
theorem z8 [GI:bI] {bc:Bk} {aa:an} {aj:Int} {r:(List ao)×an} (h:mg aa aj=some r):aM Tryz.prog 23 [.ptr bc 0,I aj] [(bc,.cells [nu aa.L,I aa.at_])] (T1 (fun gr=>[(bc,.cells [nu r.2.L,I r.2.at_]),(gr,zh r.1)]) (fun gr=>.sl 4 gr 0 r.1.length)):=by
 unfold mg at h
 refine aM.dx ?_
 refine aM.bt Tryz.func23 J Tryz.ntmps23 Tryz.results23 J J ?_
 refine aN<|rA J J<|rN<|aN<|rA J J<|rN<|aN<|rM J J<|aF h fun v1 e1 h=>bd J (kW e1) cR (.cons .p0 .nil) J J<|rA J J<|rN<|tS<|aN<|rM J J<|rM J J<|rN<|ab.block<|ab.bV (fun x:(List Int)×Int×(List ao)×Int×Int=>jR aj x.1 x.2.1 x.2.2.1 x.2.2.2.1 x.2.2.2.2) (fun x aL=>∃ (ja:Bk),aL=⟨88,[(0,.ptr bc 0),(5,.sl 4 ja 0 x.2.2.1.length),(6,I x.2.2.2.1),(14,I aj),(15,I x.2.2.2.2)],[(bc,.cells [nu x.1,I x.2.1]),(ja,zh x.2.2.1)]⟩) h ?_ ?_
 ·exact ak.arr (s:=5) 4 J fun EU=>ak.lq [1,0] ⟨EU,J⟩ J J
 ·intro x z1 aL J1 cT h im fw
  obtain ⟨l8,n9,jE,n12,n13⟩:=x
  obtain ⟨ja,rfl⟩:=cT
  replace h:jR aj l8 n9 jE n12 n13=some z1:=h
  unfold jR at h
  refine aN<|ai.qv (bB J J) J<|rN<|tS<|cD h J (fun h=>?_) (fun h=>?_)
  ·refine tK<|tS<|ab.block<|tS<|aN<|aQ (xs:=([([100,97]:aO),([100,98]:aO)]).map AV.str) J J J J J J<|ai.qv (db J) J<|rM J J<|rN<|ab.block<|ab.bV (fun x:(List Int)×Int×(List ao)×Int=>jP n12 n13 x.1 x.2.1 x.2.2.1 x.2.2.2) (fun x aL=>∃ (uO:Bk),aL=⟨88,[(0,.ptr bc 0),(5,.sl 4 uO 0 x.2.2.1.length),(6,I n12),(14,I aj),(15,I n13),(17,ET [([100,97]:aO),([100,98]:aO)]),(18,I ([([100,97]:aO),([100,98]:aO)].length:Int)),(19,I x.2.2.2)],[(bc,.cells [nu x.1,I x.2.1]),(uO,zh x.2.2.1)]⟩) h ?_ ?_
   ·exact ak.lq [0,0] ⟨ja,J⟩ J J
   ·intro x z2 aL J2 cT h wb wR
    obtain ⟨vZ,n21,od,n24⟩:=x
    obtain ⟨uO,rfl⟩:=cT
    replace h:jP n12 n13 vZ n21 od n24=some z2:=h
    unfold jP at h
    refine aN<|ai.qv (bB J J) J<|rN<|tS<|cD h J (fun h=>?_) (fun h=>?_)
    ·refine tK<|tS<|ab.block<|aN<|aF h fun v25 e2 h=>ai.qv (bz J J J e2 J J) J<|ai.qv (aW J J J) J<|rA J J<|rN<|aN<|aQ (xs:=([([116]:aO),([117]:aO)]).map AV.str) J J J J J J<|ai.qv (db J) J<|rM J J<|rN<|ab.block<|ab.bV (fun x:(List Int)×Int×(List ao)×Int=>jO n12 n24 v25 x.1 x.2.1 x.2.2.1 x.2.2.2) (fun x aL=>∃ (K5:Bk),aL=⟨88,[(0,.ptr bc 0),(5,.sl 4 K5 0 x.2.2.1.length),(6,I n12),(8,.str v25),(14,I aj),(15,I n13),(17,ET [([100,97]:aO),([100,98]:aO)]),(18,I ([([100,97]:aO),([100,98]:aO)].length:Int)),(19,I n24),(23,ET [([116]:aO),([117]:aO)]),(24,I ([([116]:aO),([117]:aO)].length:Int)),(25,I x.2.2.2)],[(bc,.cells [nu x.1,I x.2.1]),(K5,zh x.2.2.1)]⟩) h ?_ ?_
     ·exact ak.lq [0,0] ⟨uO,J⟩ J J
     ·intro x z3 aL J3 cT h IL JD
      obtain ⟨Q2,n32,GF,n35⟩:=x
      obtain ⟨K5,rfl⟩:=cT
      replace h:jO n12 n24 v25 Q2 n32 GF n35=some z3:=h
      unfold jO at h
      refine aN<|ai.qv (bB J J) J<|rN<|tS<|cD h J (fun h=>?_) (fun h=>?_)
      ·refine tK<|tS<|ab.block<|aN<|aF h fun AP e3 h=>ai.qv (bz J J J e3 J J) J<|ai.qv (aW J J J) J<|rA J J<|rN<|aN<|rM J J<|aF h fun v37 e4 h=>bd J (jA e4) cR (.cons .p0 .nil) J J<|rN<|ab.cut (fun aL=>∃ (Sq:Bk) (Wj:List Int) (n39:Int) (U9:List ao),jN n35 Wj n39 U9=some z3∧aL=⟨88,[(0,.ptr bc 0),(5,.sl 4 Sq 0 U9.length),(6,I n12),(8,.str v25),(14,I aj),(15,I n13),(17,ET [([100,97]:aO),([100,98]:aO)]),(18,I ([([100,97]:aO),([100,98]:aO)].length:Int)),(19,I n24),(23,ET [([116]:aO),([117]:aO)]),(24,I ([([116]:aO),([117]:aO)].length:Int)),(25,I n35)],[(bc,.cells [nu Wj,I n39]),(Sq,zh U9)]⟩) ?_ ?_
       ·refine cB h J (fun h=>?_) (fun h=>?_)
        ·exact tR<|rM J J<|rM J J<|rM J J<|rM J J<|rM J J<|aQ (xs:=([(0:Int),(1:Int),(2:Int),(4:Int),(5:Int),(6:Int),(8:Int),(9:Int),(-3:Int)]).map I) J J J J J J<|aF h fun A8 e5 h=>bd J (cP e5) cR (.cons .p0 .nil) J J<|ai.qv (cq J J J J J) J<|aQ (xs:=([(⟨v25,AP,n12,A8.1⟩:ao)]).map ao.av) J J J J J J<|aF h fun ZH e6 h=>cA (g:=ao.av) J J J J J J J J (.list _) e6 (fun _=>.p1) J fun Q6=>rA J J<|rN<|ab.stop<|ak.lq [0,0] ⟨Q6,A8.2.L,A8.2.at_,ZH,h,J⟩ J J
        ·exact tK<|ab.stop<|ak.lq [0,0] ⟨K5,v37.2.L,v37.2.at_,GF,h,J⟩ J J
       ·rintro aL ⟨Sq,Wj,n39,U9,h,rfl⟩
        unfold jN at h
        refine ab.cd<|tR<|ai.qv (a8 J J) J<|rM J J<|rN<|ab.stop<|?_
        cases h
        exact IL _ _ J<|ak.lq [0,0] ⟨Sq,J⟩ J J
      ·refine ab.exit J<|have h:=cr h JD;ab.cd<|tR<|ai.qv (a8 J J) J<|rM J J<|rN<|ab.stop<|?_
       cases h
       exact wb _ _ J<|ak.lq [0,0] ⟨K5,J⟩ J J
    ·refine ab.exit J<|have h:=cr h wR;?_
     unfold oZ at h
     refine tR<|rM J J<|rM J J<|aQ (xs:=([(1:Int),(3:Int),(5:Int),(10:Int),(40:Int)]).map I) J J J J J J<|aF h fun v45 e7 h=>bd J (cP e7) cR (.cons .p0 .nil) J J<|ai.qv (a8 J J) J<|rA J J<|rN<|ab.cd<|tR<|ai.qv (a8 J J) J<|rM J J<|rN<|ab.stop<|?_
     cases h
     exact im _ _ J<|ak.lq [0,0] ⟨uO,J⟩ J J
  ·refine ab.exit J<|have h:=cr h fw;?_
   unfold o0 at h
   refine tS<|tS<|ab.cut (fun aL=>∃ (IH:List Int) (n47:Int) (Om:Bool),ir jE IH n47 Om=some r∧aL=⟨88,[(0,.ptr bc 0),(5,.sl 4 ja 0 jE.length),(55,.bool Om)],[(bc,.cells [nu IH,I n47]),(ja,zh jE)]⟩) ?_ ?_
   ·refine tR<|rM J J<|ai.qv (cE J) J<|ai.qv (jl J J) J<|rM J J<|gT h J J J (fun h=>?_) (fun h=>?_)
    ·exact rM J J<|rY J J J<|aF h fun v49 e8 h=>bd J (jA e8) cR (.cons .p0 .nil) J J<|rT J J J<|rN<|ab.stop<|ak.lq [0,0] ⟨v49.2.L,v49.2.at_,v49.1,h,J⟩ J J
    ·exact rG J J J J<|rE J J J<|rN<|ab.stop<|ak.lq [0,0] ⟨l8,n9,false,h,J⟩ J J
   ·rintro aL ⟨IH,n47,Om,h,rfl⟩
    unfold ir at h
    refine ab.cut (fun aL=>∃ (BV:List Int) (n51:Int) (Va:List ao),jQ BV n51 Va=some r∧aL=⟨88,[(5,.sl 4 ja 0 Va.length)],[(bc,.cells [nu BV,I n51]),(ja,zh Va)]⟩) ?_ ?_
    ·refine cB h J (fun h=>?_) (fun h=>?_)
     ·refine aN<|rM J J<|rM J J<|rM J J<|ai.qv (cE J) J<|aF h fun v53 e9 h=>bd J (kW e9) cR (.cons .p0 .nil) J J<|aF h fun v54 Ba h=>ai.qv (aV J J J Ba) J<|rA J J<|rN<|aF h fun v55 HB h=>aF h fun yD EH h=>aF h fun Hz K4 h=>ab.gj (id:=19) (A:=[0,0,0,0,0,16,48,112,240,504,0,0,2048,6144,14336,30720,65528,0,262136,524281,1048569,2097145,4194299,8388603,16777211,33554431,67108863,134217727]) (H0:=[(bc,.cells [nu v53.2.L,I v53.2.at_]),(ja,zh jE)]) (HH:=fun β=>[(bc,.cells [nu Hz.2.L,I Hz.2.at_]),(ja,zh ((jE.set v53.1.toNat (⟨v54.Device,v54.ax,v55.1,v54.Value⟩:ao)).set v53.1.toNat (⟨yD.1,v54.ax,v55.1,v54.Value⟩:ao)))]) 25 mixed J (by kernel_rfl) (by kernel_rfl) [⟨none,some 9,[],fun _=>(bc,.cells [nu v53.2.L,I v53.2.at_]),none,[]⟩,⟨none,some 21,[7,14],fun _=>(ja,zh jE),none,[]⟩,⟨some 9,some 16,[],fun _=>(bc,.cells [nu v55.2.L,I v55.2.at_]),none,[]⟩,⟨some 16,some 18,[],fun _=>(bc,.cells [nu yD.2.L,I yD.2.at_]),none,[]⟩,⟨some 18,none,[],fun _=>(bc,.cells [nu Hz.2.L,I Hz.2.at_]),none,[]⟩,⟨some 21,some 24,[],fun _=>(ja,zh (jE.set v53.1.toNat (⟨v54.Device,v54.ax,v55.1,v54.Value⟩:ao))),none,[]⟩,⟨some 24,none,[],fun _=>(ja,zh ((jE.set v53.1.toNat (⟨v54.Device,v54.ax,v55.1,v54.Value⟩:ao)).set v53.1.toNat (⟨yD.1,v54.ax,v55.1,v54.Value⟩:ao))),none,[]⟩] [] J (by kernel_rfl) J (.cons .p0 (.cons .p0 .nil)) (fun _=>J)<|AT.am 7 J J<|AM.qv (ay J) J<|AM.qv (ay J) J<|AM.qv (ay J) J<|AM.qv (ay J) J<|AM.qv (ay J) J<|AM.qv (lX J) J<|AM.qv (bC J J) J<|AM.nil<|AT.rd (Rs:=[(ja,zh jE)]) (fun _=>J) J (fun _=>J) (fun _=>J) (bg (g:=ao.av) J J (.inl .p0) Ba J) J<|AT.am 1 J J<|AM.bZ (xs:=([v54.At,(-1:Int),(0:Int),(345686400000:Int)]).map I) J J J J J J<|AM.nil<|AT.LY (av:=I v55.1) (Ti:=[(bc,.cells [nu v53.2.L,I v53.2.at_])]) (Pi:=[(bc,.cells [nu v55.2.L,I v55.2.at_])]) (fun _=>J) (fun _=>J) (fun _=>J) J J J ?_ ?_
      ·exact bd J (cP HB) cR (.cons .p0 .nil) J J<|ai.nil ⟨_,J,J⟩
      refine AT.am 4 J J<|AM.qv (ay J) J<|AM.qv (ay J) J<|AM.qv (lX J) J<|AM.qv (bC J J) J<|AM.nil<|AT.rd (Rs:=[(ja,zh jE)]) (fun _=>J) J (fun _=>J) (fun _=>J) (bg (g:=ao.av) J J (.inl .p0) Ba J) J<|AT.am 1 J J<|AM.bZ (xs:=([v54.Device,([]:aO),([65]:aO)]).map AV.str) J J J J J J<|AM.nil<|AT.LY (av:=.str yD.1) (Ti:=[(bc,.cells [nu v55.2.L,I v55.2.at_])]) (Pi:=[(bc,.cells [nu yD.2.L,I yD.2.at_])]) (fun _=>J) (fun _=>J) (fun _=>J) J J J ?_ ?_
      ·exact bd J (kX EH) cR (.cons .p0 .nil) J J<|ai.nil ⟨_,J,J⟩
      refine AT.am 1 J J<|AM.qv (ay J) J<|AM.nil<|AT.LY (av:=I Hz.1) (Ti:=[(bc,.cells [nu yD.2.L,I yD.2.at_])]) (Pi:=[(bc,.cells [nu Hz.2.L,I Hz.2.at_])]) (fun _=>J) (fun _=>J) (fun _=>J) J J J ?_ ?_
      ·exact bd J (iR K4) cR (.cons .p0 .nil) J J<|ai.nil ⟨_,J,J⟩
      refine AT.am 2 J J<|AM.qv (lX J) J<|AM.qv (bC J J) J<|AM.nil<|AT.Gt (Ti:=[(ja,zh jE)]) (Pi:=[(ja,zh (jE.set v53.1.toNat (⟨v54.Device,v54.ax,v55.1,v54.Value⟩:ao)))]) (fun _=>J) (fun _=>J) (fun _=>J) J J ?_ ?_
      ·exact bX (g:=ao.av) (za:=(⟨v54.Device,v54.ax,v55.1,v54.Value⟩:ao)) J J J J Ba J .p0 J<|ai.nil ⟨_,J⟩
      refine AT.am 2 J J<|AM.qv (lX J) J<|AM.qv (bC J J) J<|AM.nil<|AT.Gt (Ti:=[(ja,zh (jE.set v53.1.toNat (⟨v54.Device,v54.ax,v55.1,v54.Value⟩:ao)))]) (Pi:=[(ja,zh ((jE.set v53.1.toNat (⟨v54.Device,v54.ax,v55.1,v54.Value⟩:ao)).set v53.1.toNat (⟨yD.1,v54.ax,v55.1,v54.Value⟩:ao)))]) (fun _=>J) (fun _=>J) (fun _=>J) J J ?_ ?_
      ·exact bX (g:=ao.av) (za:=(⟨yD.1,v54.ax,v55.1,v54.Value⟩:ao)) J J J J (vR (v:=(⟨v54.Device,v54.ax,v55.1,v54.Value⟩:ao)) Ba) J .p0 J<|ai.nil ⟨_,J⟩
      exact AT.sY (fun _=>J) fun β=>ai.ghost<|ak.eqs (s:=5) (dF:=.sl 4 ja 0 ((jE.set v53.1.toNat (⟨v54.Device,v54.ax,v55.1,v54.Value⟩:ao)).set v53.1.toNat (⟨yD.1,v54.ax,v55.1,v54.Value⟩:ao)).length) J (by simp)<|ak.here<|ai.ghost<|ak.eqs (s:=56) (dF:=.sl 4 ja 0 ((jE.set v53.1.toNat (⟨v54.Device,v54.ax,v55.1,v54.Value⟩:ao)).set v53.1.toNat (⟨yD.1,v54.ax,v55.1,v54.Value⟩:ao)).length) J (by simp)<|ak.here<|ai.ghost<|ak.eqs (s:=58) (dF:=.sl 4 ja 0 ((jE.set v53.1.toNat (⟨v54.Device,v54.ax,v55.1,v54.Value⟩:ao)).set v53.1.toNat (⟨yD.1,v54.ax,v55.1,v54.Value⟩:ao)).length) J (by simp)<|ak.here<|ai.qv (lX J) J<|ai.qv (bC J J) J<|bX (g:=ao.av) (za:=(⟨yD.1,v54.ax,v55.1,Hz.1⟩:ao)) J J J J (vR (v:=(⟨yD.1,v54.ax,v55.1,v54.Value⟩:ao)) (vR (v:=(⟨v54.Device,v54.ax,v55.1,v54.Value⟩:ao)) Ba)) J .p1 J<|ai.ghost<|ak.eqs (s:=5) (dF:=.sl 4 ja 0 (((jE.set v53.1.toNat (⟨v54.Device,v54.ax,v55.1,v54.Value⟩:ao)).set v53.1.toNat (⟨yD.1,v54.ax,v55.1,v54.Value⟩:ao)).set v53.1.toNat (⟨yD.1,v54.ax,v55.1,Hz.1⟩:ao)).length) J (by rw [List.length_set])<|ak.here<|ai.ghost<|ak.eqs (s:=56) (dF:=.sl 4 ja 0 (((jE.set v53.1.toNat (⟨v54.Device,v54.ax,v55.1,v54.Value⟩:ao)).set v53.1.toNat (⟨yD.1,v54.ax,v55.1,v54.Value⟩:ao)).set v53.1.toNat (⟨yD.1,v54.ax,v55.1,Hz.1⟩:ao)).length) J (by rw [List.length_set])<|ak.here<|ai.ghost<|ak.eqs (s:=58) (dF:=.sl 4 ja 0 (((jE.set v53.1.toNat (⟨v54.Device,v54.ax,v55.1,v54.Value⟩:ao)).set v53.1.toNat (⟨yD.1,v54.ax,v55.1,v54.Value⟩:ao)).set v53.1.toNat (⟨yD.1,v54.ax,v55.1,Hz.1⟩:ao)).length) J (by rw [List.length_set])<|ak.here<|rN<|ab.stop<|ak.lq [0,0] ⟨Hz.2.L,Hz.2.at_,((jE.set v53.1.toNat (⟨v54.Device,v54.ax,v55.1,v54.Value⟩:ao)).set v53.1.toNat (⟨yD.1,v54.ax,v55.1,v54.Value⟩:ao)).set v53.1.toNat (⟨yD.1,v54.ax,v55.1,Hz.1⟩:ao),h,J⟩ J J
     ·exact tK<|ab.stop<|ak.lq [0,0] ⟨IH,n47,jE,h,J⟩ J J
    ·rintro aL ⟨BV,n51,Va,h,rfl⟩
     unfold jQ at h
     refine aN<|rM J J<|rA J J<|rN<|ab.ret<|?_
     cases h
     exact hH J [0,0] J ⟨ja,J,J⟩
theorem EV [GI:bI] {bc:Bk} {aa:an} {r:aE×an} (h:rQ aa=some r):aM Tryz.prog 7 [.ptr bc 0] [(bc,.cells [nu aa.L,I aa.at_])] (T0 ([(bc,.cells [nu r.2.L,I r.2.at_])]) (aE.av r.1)):=by
 unfold rQ at h
 refine aM.dx ?_
 refine aM.bt Tryz.func7 J Tryz.ntmps7 Tryz.results7 J J ?_
 refine aN<|bH J J J J fun b1=>rN<|aN<|rM J J<|aQ (xs:=([(0:Int),(5:Int),(30:Int),(100:Int)]).map I) J J J J J J<|aF h fun v2 e1 h=>bd J (cP e1) cR (.cons .p1 .nil) J J<|rM J J<|aQ (xs:=([(30:Int),(100:Int),(250:Int),(1000:Int),(345686400000:Int)]).map I) J J J J J J<|aF h fun v3 e2 h=>bd J (cP e2) cR (.cons .p0 .nil) J J<|ai.qv (cq J J J J J) J<|bH J J J J fun b4=>aD J J J J .p0 J J<|rN<|tS<|aN<|rM J J<|aF h fun v5 e3 h=>bd J (jA e3) cR (.cons .p1 .nil) J J<|rN<|ab.cut (fun aL=>∃ (l6:List Int) (n7:Int) (n8:Int) (n9:Int),mX l6 n7 n8 n9=some r∧aL=⟨21,[(2,.ptr b1 0),(3,.ptr b4 0)],[(bc,.cells [nu l6,I n7]),(b1,.cells [I (0:Int),I (0:Int)]),(b4,.cells [I n8,I n9])]⟩) ?_ ?_
 ·refine cB h J (fun h=>?_) (fun h=>?_)
  ·exact tR<|rM J J<|aQ (xs:=([(-1:Int),(10:Int)]).map I) J J J J J J<|aF h fun v10 e4 h=>bd J (cP e4) cR (.cons .p0 .nil) J J<|rM J J<|aQ (xs:=([(9:Int),(345686400001:Int)]).map I) J J J J J J<|aF h fun v11 e5 h=>bd J (cP e5) cR (.cons .p0 .nil) J J<|ai.qv (cq J J J J J) J<|aD J J J J .p1 J J<|rN<|ab.stop<|ak.lq [0,1,0] ⟨v11.2.L,v11.2.at_,v10.1,v11.1,h,J⟩ J J
  ·exact tK<|ab.stop<|ak.lq [0,1,0] ⟨v5.2.L,v5.2.at_,v2.1,v3.1,h,J⟩ J J
 ·rintro aL ⟨l6,n7,n8,n9,h,rfl⟩
  unfold mX at h
  refine aN<|ai.qv (aA J J .p2 J) J<|aD J J J J .p1 J J<|rN<|ab.ret<|?_
  cases h
  exact ak.here ⟨_,.cons (.all _ _ _ _ _ _ J .p1 aR.h bf.h J J) .nil,_,.cons .p0 .nil,⟨J,J⟩⟩
theorem nw [GI:bI] {aa:Int} {aj:Int} {ar:Int} {r:Bool} (h:nD aa aj ar=r):Pu Tryz.prog 51 [I aa,I aj,I ar] (.bool r):=by
 unfold nD at h
 refine aM.bt Tryz.func51 J Tryz.ntmps51 Tryz.results51 J J ?_
 refine aN<|rA J J<|rN<|tS<|ab.cut (fun aL=>∃ (c1:Bool),GG c1=r∧aL=⟨15,[(6,.bool c1)],[]⟩) ?_ ?_
 ·refine tR<|rM J J<|rM J J<|ai.qv (vn J J) J<|rM J J<|ai.ct J J J (fun hc=>?_) (fun hc=>?_)
  ·rw [tG hc] at h
   exact rM J J<|rY J J J<|rM J J<|rY J J J<|ai.qv (vn J J) J<|rT J J J<|rA J J<|rN<|ab.stop<|ak.lq [] ⟨decide (aa≤ar),h,J⟩ J J
  ·rw [tH hc] at h
   exact rG J J J J<|rG J J J J<|rE J J J<|rA J J<|rN<|ab.stop<|ak.lq [] ⟨false,h,J⟩ J J
 ·rintro aL ⟨c1,h,rfl⟩
  unfold GG at h
  refine ab.ret<|?_
  obtain rfl:=h
  exact hP J J
theorem Aa {aa:aO} {r:Bool} (h:zX aa=some r):Pu Tryz.prog 50 [.str aa] (.bool r):=by
 unfold zX at h
 refine aM.bt Tryz.func50 J Tryz.ntmps50 Tryz.results50 J J ?_
 refine aN<|rA J J<|rN<|tS<|ab.cut (fun aL=>∃ (c1:Bool),vx c1=some r∧aL=⟨17,[(2,.bool c1)],[]⟩) ?_ ?_
 ·refine tR<|rM J J<|ai.qv (AW J) J<|bb J (nw J) cR J<|rM J J<|ai.guard J J J (fun hc=>?_) (fun hc=>?_)
  ·refine have h:=sC hc h;rM J J<|rY J J J<|aF h fun v2 e1 h=>bb J (DT e1) cR J<|rY J J J<|ai.qv (nN J J) J<|rT J J J<|rM J J<|gT h J J J (fun h=>?_) (fun h=>?_)
   ·exact rM J J<|rY J J J<|aF h fun c3 e2 h=>ai.qv (uH J J e2) J<|rY J J J<|bb J (yx J) cR J<|rY J J J<|ai.qv (rD J J) J<|rT J J J<|rA J J<|rN<|ab.stop<|ak.lq [] ⟨decide ((0:Int)≤(vY ([97,98,99,100,101,102,103,104,105,106,107,108,109,110,111,112,113,114,115,116,117,118,119,120,121,122]:aO) (c3.toNat:Int))),h,J⟩ J J
   ·exact rG J J J J<|rG J J J J<|rG J J J J<|rE J J J<|rA J J<|rN<|ab.stop<|ak.lq [] ⟨false,h,J⟩ J J
  ·exact have h:=H6 hc h;rG J J J J<|rG J J J J<|rE J J J<|rM J J<|rG J J J J<|rG J J J J<|rG J J J J<|rG J J J J<|rE J J J<|rA J J<|rN<|ab.stop<|ak.lq [] ⟨false,h,J⟩ J J
 ·rintro aL ⟨c1,h,rfl⟩
  unfold vx at h
  refine ab.ret<|?_
  cases h
  exact hP J J
theorem uP [GI:bI] {aa:Int} {r:Bool} (h:ji aa=r):Pu Tryz.prog 82 [I aa] (.bool r):=by
 unfold ji at h
 refine aM.bt Tryz.func82 J Tryz.ntmps82 Tryz.results82 J J ?_
 refine aN<|rA J J<|rN<|aN<|rM J J<|bb J (nw J) cR J<|rA J J<|rN<|ab.ret<|?_
 obtain rfl:=h
 exact hP J J
theorem ud {aa:List aG} {r:Int} (h:lM aa=some r):Pu Tryz.prog 26 [wQ aa] (I r):=by
 unfold lM at h
 refine aM.bt Tryz.func26 J Tryz.ntmps26 Tryz.results26 J J ?_
 refine aN<|rA J J<|rN<|tS<|aN<|rM J J<|ai.qv (db J) J<|ai.qv (jl J J) J<|rN<|cD h J (fun h=>?_) (fun h=>?_)
 ·refine aN<|rA J J<|rN<|ab.ret<|?_
  cases h
  exact hP J J
 ·refine tK<|aN<|rA J J<|rN<|tS<|aN<|rM J J<|ai.qv (db J) J<|rM J J<|rN<|ab.block<|ab.bV (fun x:Int=>gU aa x) (fun x aL=>aL=⟨105,[(0,wQ aa),(3,.func (.func 82) []),(9,wQ aa),(10,I (aa.length:Int)),(11,I x)],[]⟩) h ?_ ?_
  ·exact ak.lq [] J J J
  ·intro n2 z1 aL J1 cT h im fw
   obtain rfl:=cT
   replace h:gU aa n2=some z1:=h
   unfold gU at h
   refine aN<|ai.qv (bB J J) J<|rN<|tS<|cD h J (fun h=>?_) (fun h=>?_)
   ·refine tK<|tS<|ab.block<|aN<|rM J J<|aF h fun v3 e1 h=>ai.qv (bz J J J e1 J J) J<|ai.qv (bu J J J) J<|bH J J J J fun b4=>rA J J<|aD J J J J .p0 J J<|rN<|ab.block<|aN<|rF J J J<|rL J J .p0 J J<|aF h fun v5 e2 h=>bb J (Aa e2) cR J<|ai.qv (cL J) J<|rA J J<|rN<|cB h J (fun h=>?_) (fun h=>?_)
    ·refine aN<|rA J J<|rN<|ab.ret<|have h:=cr h fw;?_
     cases h
     exact hP J J
    ·refine tS<|ab.cut (fun aL=>∃ (c6:Bool),kq n2 v3 c6=some z1∧aL=⟨105,[(0,wQ aa),(3,.func (.func 82) []),(5,.ptr b4 0),(9,wQ aa),(10,I (aa.length:Int)),(11,I n2),(21,.bool c6)],[(b4,.cells (w6 v3))]⟩) ?_ ?_
     ·refine ab.bM (id:=9) (A:=[0,1,3,7,15,7,7,71,231,487,999,2047,4095,8191]) 14 mixed J (by kernel_rfl) (by kernel_rfl)<|AM.qv (ay J) J<|AM.qv (jl J J) J<|AM.qv (ay J) J<|AM.ct J J J (fun hc=>?_) (fun hc=>?_)
      ·exact have h:=sC hc h;AM.qv (aC J J) J<|AM.aB J J J<|AM.qv (aJ J J .p0 J) J<|AM.aB J J J<|AM.qv (ay J) J<|AM.aB J J J<|AM.qv (ay J) J<|AM.aB J J J<|AM.qv (bT J J) J<|AM.aB J J J<|aF h fun v7 e3 h=>AM.qv (bz J J J e3 J J) J<|AM.aB J J J<|AM.qv (bl J J) J<|AM.aB J J J<|AM.qv (aW J J J) J<|AM.aB J J J<|AM.qv (NK J J) J<|AM.qv (il J J) J<|AM.qv (bY J) J<|AM.nil<|rN<|ab.stop<|ak.lq [0] ⟨Op.bytesLess v3.Key v7.Key||v3.Key==v7.Key,h,J⟩ J J
      ·exact have h:=vq hc h;AM.az J J J J<|AM.az J J J J<|AM.az J J J J<|AM.az J J J J<|AM.az J J J J<|AM.az J J J J<|AM.az J J J J<|AM.az J J J J<|AM.qv (dR J J) J<|AM.qv (bY J) J<|AM.nil<|rN<|ab.stop<|ak.lq [0] ⟨false,h,J⟩ J J
     ·rintro aL ⟨c6,h,rfl⟩
      unfold kq at h
      refine cB h J (fun h=>?_) (fun h=>?_)
      ·refine aN<|rA J J<|rN<|ab.ret<|have h:=cr h fw;?_
       cases h
       exact hP J J
      ·refine aN<|rF J J J<|rL J J .p0 J J<|aF h fun v8 e4 h=>bb J (Aa e4) cR J<|ai.qv (cL J) J<|rA J J<|rN<|cB h J (fun h=>?_) (fun h=>?_)
       ·refine aN<|rA J J<|rN<|ab.ret<|have h:=cr h fw;?_
        cases h
        exact hP J J
       ·refine aN<|rF J J J<|rL J J .p0 J J<|bb J (nw J) cR J<|ai.qv (cL J) J<|rA J J<|rN<|cB h J (fun h=>?_) (fun h=>?_)
        ·refine aN<|rA J J<|rN<|ab.ret<|have h:=cr h fw;?_
         cases h
         exact hP J J
        ·refine tS<|ab.cut (fun aL=>∃ (c9:Bool),mh n2 v3 c9=some z1∧aL=⟨105,[(0,wQ aa),(3,.func (.func 82) []),(5,.ptr b4 0),(9,wQ aa),(10,I (aa.length:Int)),(11,I n2),(45,.bool c9)],[(b4,.cells (w6 v3))]⟩) ?_ ?_
         ·refine tR<|rF J J J<|rL J J .p0 J J<|bb J (nw J) cR J<|ai.qv (cL J) J<|rM J J<|ai.guard J J J (fun hc=>?_) (fun hc=>?_)
          ·rw [Cl hc] at h
           refine rM J J<|rY J J J<|rF J J J<|rY J J J<|rL J J .p0 J J<|rY J J J<|rO J J (uP J) cR J<|rY J J J<|ai.qv (cL J) J<|rE J J J<|rM J J<|ai.guard J J J (fun hc=>?_) (fun hc=>?_)
           ·rw [Cl hc] at h
            refine rM J J<|rY J J J<|rF J J J<|rY J J J<|rL J J .p0 J J<|rY J J J<|rO J J (uP J) cR J<|rY J J J<|ai.qv (cL J) J<|rE J J J<|rM J J<|ai.guard J J J (fun hc=>?_) (fun hc=>?_)
            ·rw [Cl hc] at h
             refine rF J J J<|rY J J J<|rL J J .p0 J J<|rY J J J<|rM J J<|ai.guard J J J (fun hc=>?_) (fun hc=>?_)
             ·rw [if_pos hc] at h
              refine rF J J J<|rY J J J<|rL J J .p0 J J<|rY J J J<|rF J J J<|rY J J J<|rL J J .p0 J J<|rY J J J<|ai.qv (jl J J) J<|rY J J J<|rT J J J<|rE J J J<|rM J J<|ai.jK J J J (fun hc=>?_) (fun hc=>?_)
              ·rw [NJ hc] at h
               refine rF J J J<|rY J J J<|rL J J .p0 J J<|rY J J J<|ai.qv (cL J) J<|rY J J J<|rM J J<|ai.guard J J J (fun hc=>?_) (fun hc=>?_)
               ·rw [if_pos hc] at h
                refine rF J J J<|rY J J J<|rL J J .p0 J J<|rY J J J<|rF J J J<|rY J J J<|rL J J .p0 J J<|rY J J J<|ai.qv (bB J J) J<|rY J J J<|rT J J J<|rE J J J<|rM J J<|ai.jK J J J (fun hc=>?_) (fun hc=>?_)
                ·rw [NJ hc] at h
                 refine rF J J J<|rY J J J<|rL J J .p0 J J<|rY J J J<|bb J (nw J) cR J<|rY J J J<|ai.qv (cL J) J<|rE J J J<|rM J J<|ai.guard J J J (fun hc=>?_) (fun hc=>?_)
                 ·rw [Cl hc] at h
                  exact rF J J J<|rY J J J<|rL J J .p0 J J<|rY J J J<|bb J (nw J) cR J<|rY J J J<|ai.qv (cL J) J<|rE J J J<|rA J J<|rN<|ab.stop<|ak.lq [0] ⟨!(nD v3.Rest (0:Int) (2592000000:Int)),h,J⟩ J J
                 ·rw [Ck hc] at h
                  exact rG J J J J<|rG J J J J<|rG J J J J<|rT J J J<|rA J J<|rN<|ab.stop<|ak.lq [0] ⟨true,h,J⟩ J J
                ·rw [NI hc] at h
                 exact rG J J J J<|rG J J J J<|rG J J J J<|rT J J J<|rM J J<|rG J J J J<|rG J J J J<|rG J J J J<|rG J J J J<|rT J J J<|rA J J<|rN<|ab.stop<|ak.lq [0] ⟨true,h,J⟩ J J
               ·rw [if_neg (by simp [hc]:¬ (_=true))] at h
                refine rG J J J J<|rG J J J J<|rG J J J J<|rG J J J J<|rY J J J<|rE J J J<|rE J J J<|rM J J<|rY J J J<|rF J J J<|rY J J J<|rL J J .p0 J J<|rY J J J<|bb J (nw J) cR J<|rY J J J<|ai.qv (cL J) J<|rE J J J<|rM J J<|ai.guard J J J (fun hc=>?_) (fun hc=>?_)
                ·rw [Cl hc] at h
                 exact rF J J J<|rY J J J<|rL J J .p0 J J<|rY J J J<|bb J (nw J) cR J<|rY J J J<|ai.qv (cL J) J<|rE J J J<|rA J J<|rN<|ab.stop<|ak.lq [0] ⟨!(nD v3.Rest (0:Int) (2592000000:Int)),h,J⟩ J J
                ·rw [Ck hc] at h
                 exact rG J J J J<|rG J J J J<|rG J J J J<|rT J J J<|rA J J<|rN<|ab.stop<|ak.lq [0] ⟨true,h,J⟩ J J
              ·rw [NI hc] at h
               exact rG J J J J<|rG J J J J<|rG J J J J<|ai.aY J J J<|ai.aY J J J<|ai.aY J J J<|ai.aY J J J<|ai.aY J J J<|rG J J J J<|rT J J J<|rM J J<|rG J J J J<|rG J J J J<|rG J J J J<|rG J J J J<|rT J J J<|rM J J<|rG J J J J<|rG J J J J<|rG J J J J<|rG J J J J<|rT J J J<|rA J J<|rN<|ab.stop<|ak.lq [0] ⟨true,h,J⟩ J J
             ·rw [if_neg (by simp [hc]:¬ (_=true))] at h
              refine rG J J J J<|rG J J J J<|rG J J J J<|rG J J J J<|rY J J J<|rE J J J<|rE J J J<|rM J J<|rY J J J<|rF J J J<|rY J J J<|rL J J .p0 J J<|rY J J J<|ai.qv (cL J) J<|rY J J J<|rM J J<|ai.guard J J J (fun hc=>?_) (fun hc=>?_)
              ·rw [if_pos hc] at h
               refine rF J J J<|rY J J J<|rL J J .p0 J J<|rY J J J<|rF J J J<|rY J J J<|rL J J .p0 J J<|rY J J J<|ai.qv (bB J J) J<|rY J J J<|rT J J J<|rE J J J<|rM J J<|ai.jK J J J (fun hc=>?_) (fun hc=>?_)
               ·rw [NJ hc] at h
                refine rF J J J<|rY J J J<|rL J J .p0 J J<|rY J J J<|bb J (nw J) cR J<|rY J J J<|ai.qv (cL J) J<|rE J J J<|rM J J<|ai.guard J J J (fun hc=>?_) (fun hc=>?_)
                ·rw [Cl hc] at h
                 exact rF J J J<|rY J J J<|rL J J .p0 J J<|rY J J J<|bb J (nw J) cR J<|rY J J J<|ai.qv (cL J) J<|rE J J J<|rA J J<|rN<|ab.stop<|ak.lq [0] ⟨!(nD v3.Rest (0:Int) (2592000000:Int)),h,J⟩ J J
                ·rw [Ck hc] at h
                 exact rG J J J J<|rG J J J J<|rG J J J J<|rT J J J<|rA J J<|rN<|ab.stop<|ak.lq [0] ⟨true,h,J⟩ J J
               ·rw [NI hc] at h
                exact rG J J J J<|rG J J J J<|rG J J J J<|rT J J J<|rM J J<|rG J J J J<|rG J J J J<|rG J J J J<|rG J J J J<|rT J J J<|rA J J<|rN<|ab.stop<|ak.lq [0] ⟨true,h,J⟩ J J
              ·rw [if_neg (by simp [hc]:¬ (_=true))] at h
               refine rG J J J J<|rG J J J J<|rG J J J J<|rG J J J J<|rY J J J<|rE J J J<|rE J J J<|rM J J<|rY J J J<|rF J J J<|rY J J J<|rL J J .p0 J J<|rY J J J<|bb J (nw J) cR J<|rY J J J<|ai.qv (cL J) J<|rE J J J<|rM J J<|ai.guard J J J (fun hc=>?_) (fun hc=>?_)
               ·rw [Cl hc] at h
                exact rF J J J<|rY J J J<|rL J J .p0 J J<|rY J J J<|bb J (nw J) cR J<|rY J J J<|ai.qv (cL J) J<|rE J J J<|rA J J<|rN<|ab.stop<|ak.lq [0] ⟨!(nD v3.Rest (0:Int) (2592000000:Int)),h,J⟩ J J
               ·rw [Ck hc] at h
                exact rG J J J J<|rG J J J J<|rG J J J J<|rT J J J<|rA J J<|rN<|ab.stop<|ak.lq [0] ⟨true,h,J⟩ J J
            ·rw [Ck hc] at h
             exact rG J J J J<|rG J J J J<|ai.aY J J J<|ai.aY J J J<|ai.aY J J J<|ai.aY J J J<|ai.aY J J J<|rG J J J J<|rT J J J<|rM J J<|rG J J J J<|rG J J J J<|rG J J J J<|rG J J J J<|ai.aY J J J<|ai.aY J J J<|ai.aY J J J<|ai.aY J J J<|ai.aY J J J<|rG J J J J<|rT J J J<|rM J J<|rG J J J J<|rG J J J J<|rG J J J J<|rG J J J J<|rT J J J<|rM J J<|rG J J J J<|rG J J J J<|rG J J J J<|rG J J J J<|rT J J J<|rA J J<|rN<|ab.stop<|ak.lq [0] ⟨true,h,J⟩ J J
           ·rw [Ck hc] at h
            exact rG J J J J<|rG J J J J<|rG J J J J<|rG J J J J<|rT J J J<|rM J J<|rG J J J J<|rG J J J J<|rG J J J J<|ai.aY J J J<|ai.aY J J J<|ai.aY J J J<|ai.aY J J J<|ai.aY J J J<|rG J J J J<|rT J J J<|rM J J<|rG J J J J<|rG J J J J<|rG J J J J<|rG J J J J<|ai.aY J J J<|ai.aY J J J<|ai.aY J J J<|ai.aY J J J<|ai.aY J J J<|rG J J J J<|rT J J J<|rM J J<|rG J J J J<|rG J J J J<|rG J J J J<|rG J J J J<|rT J J J<|rM J J<|rG J J J J<|rG J J J J<|rG J J J J<|rG J J J J<|rT J J J<|rA J J<|rN<|ab.stop<|ak.lq [0] ⟨true,h,J⟩ J J
          ·rw [Ck hc] at h
           exact rG J J J J<|rG J J J J<|rG J J J J<|rG J J J J<|rT J J J<|rM J J<|rG J J J J<|rG J J J J<|rG J J J J<|rG J J J J<|rG J J J J<|rT J J J<|rM J J<|rG J J J J<|rG J J J J<|rG J J J J<|ai.aY J J J<|ai.aY J J J<|ai.aY J J J<|ai.aY J J J<|ai.aY J J J<|rG J J J J<|rT J J J<|rM J J<|rG J J J J<|rG J J J J<|rG J J J J<|rG J J J J<|ai.aY J J J<|ai.aY J J J<|ai.aY J J J<|ai.aY J J J<|ai.aY J J J<|rG J J J J<|rT J J J<|rM J J<|rG J J J J<|rG J J J J<|rG J J J J<|rG J J J J<|rT J J J<|rM J J<|rG J J J J<|rG J J J J<|rG J J J J<|rG J J J J<|rT J J J<|rA J J<|rN<|ab.stop<|ak.lq [0] ⟨true,h,J⟩ J J
         ·rintro aL ⟨c9,h,rfl⟩
          unfold mh at h
          refine cB h J (fun h=>?_) (fun h=>?_)
          ·refine aN<|rA J J<|rN<|ab.ret<|have h:=cr h fw;?_
           cases h
           exact hP J J
          ·refine aN<|rF J J J<|rL J J .p0 J J<|bb J (nw J) cR J<|ai.qv (cL J) J<|rA J J<|rN<|cB h J (fun h=>?_) (fun h=>?_)
           ·refine aN<|rA J J<|rN<|ab.ret<|have h:=cr h fw;?_
            cases h
            exact hP J J
           ·refine tK<|ab.cd<|ab.cd<|tR<|ai.qv (a8 J J) J<|rM J J<|rN<|ab.stop<|?_
            cases h
            exact im _ _ J<|ak.lq [] J J J
   ·refine ab.exit J<|have h:=cr h fw;aN<|rA J J<|rN<|ab.ret<|?_
    cases h
    exact hP J J
theorem Cu [GI:bI] {aa:Int} {r:Int} (h:om aa=r):Pu Tryz.prog 49 [I aa] (I r):=by
 unfold om at h
 refine aM.bt Tryz.func49 J Tryz.ntmps49 Tryz.results49 J J ?_
 refine aN<|rA J J<|rN<|tS<|aN<|rM J J<|bb J (nw J) cR J<|ai.qv (cL J) J<|rN<|cB h J (fun h=>?_) (fun h=>?_)
 ·refine aN<|rA J J<|rN<|ab.ret<|?_
  obtain rfl:=h
  exact hP J J
 ·refine tK<|aN<|rA J J<|rN<|ab.ret<|?_
  obtain rfl:=h
  exact hP J J
theorem Cv {aa:ao} {r:Int} (h:oo aa=some r):Pu Tryz.prog 83 [ao.av aa] (I r):=by
 unfold oo at h
 refine aM.bt Tryz.func83 J Tryz.ntmps83 Tryz.results83 J J ?_
 refine aN<|df J J J J fun b1=>rA J J<|rN<|tS<|ab.block<|aN<|rF J J J<|rL J J .p0 J J<|bb J (Cu J) cR J<|ai.qv (lW J J) J<|rA J J<|rN<|cD h J (fun h=>?_) (fun h=>?_)
 ·refine aN<|rA J J<|rN<|ab.ret<|?_
  cases h
  exact hP J J
 ·refine tS<|ab.cut (fun aL=>∃ (c2:Bool),jF aa c2=some r∧aL=⟨24,[(1,.ptr b1 0),(8,.bool c2)],[(b1,.cells (Oq aa))]⟩) ?_ ?_
  ·refine tR<|rF J J J<|rL J J .p0 J J<|aF h fun v3 e1 h=>bb J (Aa e1) cR J<|ai.qv (cL J) J<|rM J J<|ai.guard J J J (fun hc=>?_) (fun hc=>?_)
   ·exact have h:=H6 hc h;rF J J J<|rY J J J<|rL J J .p0 J J<|rY J J J<|aF h fun v4 e2 h=>bb J (Aa e2) cR J<|rY J J J<|ai.qv (cL J) J<|rE J J J<|rA J J<|rN<|ab.stop<|ak.lq [0] ⟨!v4,h,J⟩ J J
   ·exact have h:=sC hc h;rG J J J J<|rG J J J J<|rG J J J J<|rT J J J<|rA J J<|rN<|ab.stop<|ak.lq [0] ⟨true,h,J⟩ J J
  ·rintro aL ⟨c2,h,rfl⟩
   unfold jF at h
   refine cB h J (fun h=>?_) (fun h=>?_)
   ·refine aN<|rA J J<|rN<|ab.ret<|?_
    cases h
    exact hP J J
   ·refine aN<|rF J J J<|rL J J .p0 J J<|bb J (nw J) cR J<|ai.qv (cL J) J<|rA J J<|rN<|cB h J (fun h=>?_) (fun h=>?_)
    ·refine aN<|rA J J<|rN<|ab.ret<|?_
     cases h
     exact hP J J
    ·refine tK<|ab.cd<|aN<|rA J J<|rN<|ab.ret<|?_
     cases h
     exact hP J J
theorem wS [GI:bI] {aa:Int} {r:Bool} (h:cmp_isNaN_int aa=r):Pu Tryz.prog 172 [I aa] (.bool r):=by
 unfold cmp_isNaN_int at h
 refine aM.bt Tryz.func172 J Tryz.ntmps172 Tryz.results172 J J ?_
 refine aN<|rA J J<|rN<|aN<|rM J J<|rM J J<|ai.qv (lW J J) J<|rA J J<|rN<|ab.ret<|?_
 obtain rfl:=h
 exact hP J J
theorem fK [GI:bI] {aa:Int} {aj:Int} {r:Int} (h:cmp_Compare_int aa aj=r):Pu Tryz.prog 119 [I aa,I aj] (I r):=by
 unfold cmp_Compare_int at h
 refine aM.bt Tryz.func119 J Tryz.ntmps119 Tryz.results119 J J ?_
 refine aN<|rA J J<|rN<|aN<|rM J J<|bb J (wS J) cR J<|rA J J<|rN<|aN<|rM J J<|bb J (wS J) cR J<|rA J J<|rN<|tS<|aN<|rM J J<|rN<|cB h J (fun h=>?_) (fun h=>?_)
 ·refine tS<|aN<|rM J J<|rN<|cB h J (fun h=>?_) (fun h=>?_)
  ·refine aN<|rA J J<|rN<|ab.ret<|?_
   obtain rfl:=h
   exact hP J J
  ·refine tK<|aN<|rA J J<|rN<|ab.ret<|?_
   obtain rfl:=h
   exact hP J J
 ·refine tK<|tS<|aN<|rM J J<|rN<|cB h J (fun h=>?_) (fun h=>?_)
  ·refine aN<|rA J J<|rN<|ab.ret<|?_
   obtain rfl:=h
   exact hP J J
  ·refine tK<|tS<|aN<|rM J J<|rM J J<|ai.qv (bB J J) J<|rN<|cD h J (fun h=>?_) (fun h=>?_)
   ·refine aN<|rA J J<|rN<|ab.ret<|?_
    obtain rfl:=h
    exact hP J J
   ·refine tK<|tS<|aN<|rM J J<|rM J J<|ai.qv (jl J J) J<|rN<|cD h J (fun h=>?_) (fun h=>?_)
    ·refine aN<|rA J J<|rN<|ab.ret<|?_
     obtain rfl:=h
     exact hP J J
    ·refine tK<|aN<|rA J J<|rN<|ab.ret<|?_
     obtain rfl:=h
     exact hP J J
theorem qk [GI:bI] {aa:List Int} {r:Int} (h:jj aa=some r):Pu Tryz.prog 118 [nu aa] (I r):=by
 unfold jj at h
 refine aM.bt Tryz.func118 J Tryz.ntmps118 Tryz.results118 J J ?_
 refine aN<|rA J J<|rN<|aN<|rA J J<|rN<|tS<|aN<|rM J J<|ai.qv (db J) J<|rM J J<|rN<|ab.block<|ab.bV (fun x:Int=>qZ aa x) (fun x aL=>aL=⟨18,[(3,I (0:Int)),(6,nu aa),(7,I (aa.length:Int)),(8,I x)],[]⟩) h ?_ ?_
 ·exact ak.lq [] J J J
 ·intro n2 z1 aL J1 cT h im fw
  obtain rfl:=cT
  replace h:qZ aa n2=some z1:=h
  unfold qZ at h
  refine aN<|ai.qv (bB J J) J<|rN<|tS<|cD h J (fun h=>?_) (fun h=>?_)
  ·refine tK<|tS<|ab.block<|aN<|aF h fun v3 e1 h=>ai.qv (bz J J J e1 J J) J<|ai.qv (aW J J J) J<|rA J J<|rN<|aN<|rM J J<|rM J J<|ai.qv (lW J J) J<|rN<|cD h J (fun h=>?_) (fun h=>?_)
   ·refine aN<|rM J J<|rA J J<|rN<|ab.ret<|have h:=cr h fw;?_
    cases h
    exact hP J J
   ·refine tK<|ab.cd<|tR<|ai.qv (a8 J J) J<|rM J J<|rN<|ab.stop<|?_
    cases h
    exact im _ _ J<|ak.lq [] J J J
  ·refine ab.exit J<|have h:=cr h fw;aN<|rM J J<|rA J J<|rN<|ab.ret<|?_
   cases h
   exact hP J J
theorem Cw [GI:bI] {aa:ao} {aj:ao} {r:Int} (h:oq aa aj=some r):Pu Tryz.prog 84 [ao.av aa,ao.av aj] (I r):=by
 unfold oq at h
 refine aM.bt Tryz.func84 J Tryz.ntmps84 Tryz.results84 J J ?_
 refine aN<|df J J J J fun b1=>df J J J J fun b2=>rA J J<|rN<|tS<|ab.bM (id:=1) (A:=[0,1,0,4,15,0,32,0,128,511,0,1024,0,4096,16383,32767,65535,131071]) 18 mixed J (by kernel_rfl) (by kernel_rfl)<|AM.qv (aC J J) J<|AM.qv (aJ J J .p1 J) J<|AM.qv (aC J J) J<|AM.qv (aJ J J .p0 J) J<|AM.gQ J (fK J) cR J<|AM.qv (aC J J) J<|AM.qv (aJ J J .p1 J) J<|AM.qv (aC J J) J<|AM.qv (aJ J J .p0 J) J<|AM.gQ J (ei J) cR J<|AM.qv (aC J J) J<|AM.qv (aJ J J .p1 J) J<|AM.qv (aC J J) J<|AM.qv (aJ J J .p0 J) J<|AM.gQ J (ei J) cR J<|AM.bZ (xs:=([(cmp_Compare_int aa.At aj.At),(Lib.compareBytes aa.Device aj.Device),(Lib.compareBytes aa.ax aj.ax)]:List Int).map I) J J J J J J<|aF h fun v3 e1 h=>AM.gQ J (qk e1) cR J<|AM.qv (bY J) J<|AM.nil<|rN<|ab.ret<|?_
 cases h
 exact hP J J
theorem Bb {aa:List ao} {r:Int} (h:mY aa=some r):Pu Tryz.prog 27 [lB aa] (I r):=by
 unfold mY at h
 refine aM.bt Tryz.func27 J Tryz.ntmps27 Tryz.results27 J J ?_
 refine aN<|rA J J<|rN<|tS<|aN<|rM J J<|ai.qv (db J) J<|ai.qv (jl J J) J<|rN<|cD h J (fun h=>?_) (fun h=>?_)
 ·refine aN<|rA J J<|rN<|ab.ret<|?_
  cases h
  exact hP J J
 ·refine tK<|tS<|aN<|rM J J<|ai.qv (db J) J<|rM J J<|rN<|ab.block<|ab.bV (fun x:Int=>fA aa x) (fun x aL=>aL=⟨34,[(0,lB aa),(9,lB aa),(10,I (aa.length:Int)),(11,I x)],[]⟩) h ?_ ?_
  ·exact ak.lq [] J J J
  ·intro n2 z1 aL J1 cT h im fw
   obtain rfl:=cT
   replace h:fA aa n2=some z1:=h
   unfold fA at h
   refine aN<|ai.qv (bB J J) J<|rN<|tS<|cD h J (fun h=>?_) (fun h=>?_)
   ·refine tK<|tS<|ab.block<|aN<|rM J J<|aF h fun v3 e1 h=>ai.qv (bz J J J e1 J J) J<|ai.qv (bu J J J) J<|bH J J J J fun b4=>rA J J<|aD J J J J .p0 J J<|rN<|tS<|aN<|ai.qv (aA J J .p0 J) J<|aF h fun v5 e2 h=>bb J (Cv e2) cR J<|rA J J<|rN<|aN<|rM J J<|ai.qv (lW J J) J<|rN<|cD h J (fun h=>?_) (fun h=>?_)
    ·refine aN<|rM J J<|rA J J<|rN<|ab.ret<|have h:=cr h fw;?_
     cases h
     exact hP J J
    ·refine tK<|tS<|ab.cut (fun aL=>∃ (c6:Bool),kD n2 c6=some z1∧aL=⟨34,[(0,lB aa),(9,lB aa),(10,I (aa.length:Int)),(11,I n2),(32,.bool c6)],[]⟩) ?_ ?_
     ·refine ab.bM (id:=9) (A:=[0,1,3,7,7,23,63,127,7,511,1023,2047]) 12 mixed J (by kernel_rfl) (by kernel_rfl)<|AM.qv (ay J) J<|AM.qv (jl J J) J<|AM.qv (ay J) J<|AM.ct J J J (fun hc=>?_) (fun hc=>?_)
      ·exact have h:=sC hc h;AM.qv (ay J) J<|AM.aB J J J<|AM.qv (ay J) J<|AM.aB J J J<|AM.qv (bT J J) J<|AM.aB J J J<|aF h fun v7 e3 h=>AM.qv (bz J J J e3 J J) J<|AM.aB J J J<|AM.qv (bu J J J) J<|AM.aB J J J<|AM.qv (aA J J .p0 J) J<|AM.aB J J J<|aF h fun v8 e4 h=>AM.gQ J (Cw e4) cR J<|AM.aB J J J<|AM.qv (rD J J) J<|AM.qv (il J J) J<|AM.nil<|rN<|ab.stop<|ak.lq [] ⟨decide ((0:Int)≤v8),h,J⟩ J J
      ·exact have h:=vq hc h;AM.az J J J J<|AM.az J J J J<|AM.az J J J J<|AM.az J J J J<|AM.az J J J J<|AM.az J J J J<|AM.az J J J J<|AM.qv (dR J J) J<|AM.nil<|rN<|ab.stop<|ak.lq [] ⟨false,h,J⟩ J J
     ·rintro aL ⟨c6,h,rfl⟩
      unfold kD at h
      refine cB h J (fun h=>?_) (fun h=>?_)
      ·refine aN<|rA J J<|rN<|ab.ret<|have h:=cr h fw;?_
       cases h
       exact hP J J
      ·refine tK<|ab.cd<|tR<|ai.qv (a8 J J) J<|rM J J<|rN<|ab.stop<|?_
       cases h
       exact im _ _ J<|ak.lq [] J J J
   ·refine ab.exit J<|have h:=cr h fw;aN<|rA J J<|rN<|ab.ret<|?_
    cases h
    exact hP J J
theorem Cx [GI:bI] {aa:aE} {r:Int} (h:bP aa=r):Pu Tryz.prog 11 [aE.av aa] (I r):=by
 unfold bP at h
 refine aM.bt Tryz.func11 J Tryz.ntmps11 Tryz.results11 J J ?_
 refine aN<|df J J J J fun b1=>rA J J<|rN<|tS<|tS<|ab.cut (fun aL=>∃ (c2:Bool),nE c2=r∧aL=⟨14,[(13,.bool c2)],[]⟩) ?_ ?_
 ·refine tR<|rF J J J<|rL J J .p0 J J<|rF J J J<|rL J J .p0 J J<|bb J (nw J) cR J<|ai.qv (cL J) J<|rM J J<|ai.guard J J J (fun hc=>?_) (fun hc=>?_)
  ·rw [Cl hc] at h
   exact rF J J J<|rY J J J<|rL J J .p0 J J<|rY J J J<|ai.qv (jl J J) J<|rE J J J<|rN<|ab.stop<|ak.lq [] ⟨decide ((345686400000:Int) < aa.To),h,J⟩ J J
  ·rw [Ck hc] at h
   exact rG J J J J<|rG J J J J<|rT J J J<|rN<|ab.stop<|ak.lq [] ⟨true,h,J⟩ J J
 ·rintro aL ⟨c2,h,rfl⟩
  unfold nE at h
  refine cB h J (fun h=>?_) (fun h=>?_)
  ·refine aN<|rA J J<|rN<|ab.ret<|?_
   obtain rfl:=h
   exact hP J J
  ·refine tK<|aN<|rA J J<|rN<|ab.ret<|?_
   obtain rfl:=h
   exact hP J J
theorem ue [GI:bI] {aa:aO} {r:Bool} (h:pM aa=some r):Pu Tryz.prog 101 [.str aa] (.bool r):=by
 unfold pM at h
 refine aM.bt Tryz.func101 J Tryz.ntmps101 Tryz.results101 J J ?_
 refine aN<|rA J J<|rN<|tS<|tS<|ab.cut (fun aL=>∃ (c1:Bool),na aa c1=some r∧aL=⟨54,[(0,.str aa),(21,.bool c1)],[]⟩) ?_ ?_
 ·refine tR<|rM J J<|ai.qv (nN J J) J<|rM J J<|gF h J J J (fun h=>?_) (fun h=>?_)
  ·refine rM J J<|rY J J J<|ai.qv (AW J) J<|rY J J J<|ai.qv (jl J J) J<|rE J J J<|rM J J<|gF h J J J (fun h=>?_) (fun h=>?_)
   ·refine rM J J<|rY J J J<|aF h fun c2 e1 h=>ai.qv (uH J J e1) J<|rY J J J<|ai.qv (bB J J) J<|rE J J J<|rM J J<|gF h J J J (fun h=>?_) (fun h=>?_)
    ·exact rM J J<|rY J J J<|aF h fun c3 e2 h=>ai.qv (uH J J e2) J<|rY J J J<|ai.qv (jl J J) J<|rE J J J<|rN<|ab.stop<|ak.lq [] ⟨decide ((122:Int) < (c3.toNat:Int)),h,J⟩ J J
    ·exact rG J J J J<|rG J J J J<|rT J J J<|rN<|ab.stop<|ak.lq [] ⟨true,h,J⟩ J J
   ·exact rG J J J J<|rG J J J J<|rT J J J<|rM J J<|rG J J J J<|rG J J J J<|rG J J J J<|rT J J J<|rN<|ab.stop<|ak.lq [] ⟨true,h,J⟩ J J
  ·exact rG J J J J<|rG J J J J<|rT J J J<|rM J J<|rG J J J J<|rG J J J J<|rG J J J J<|rT J J J<|rM J J<|rG J J J J<|rG J J J J<|rG J J J J<|rT J J J<|rN<|ab.stop<|ak.lq [] ⟨true,h,J⟩ J J
 ·rintro aL ⟨c1,h,rfl⟩
  unfold na at h
  refine cB h J (fun h=>?_) (fun h=>?_)
  ·refine aN<|rA J J<|rN<|ab.ret<|?_
   cases h
   exact hP J J
  ·refine tK<|tS<|aN<|rM J J<|ai.qv (AW J) J<|rM J J<|rN<|ab.block<|ab.bV (fun x:Int=>mZ aa x) (fun x aL=>aL=⟨54,[(0,.str aa),(23,I (aa.length:Int)),(24,I x)],[]⟩) h ?_ ?_
   ·exact ak.lq [] J J J
   ·intro n5 z1 aL J1 cT h im fw
    obtain rfl:=cT
    replace h:mZ aa n5=some z1:=h
    unfold mZ at h
    refine aN<|ai.qv (bB J J) J<|rN<|tS<|cD h J (fun h=>?_) (fun h=>?_)
    ·refine tK<|tS<|ab.block<|aN<|rM J J<|rA J J<|rN<|aN<|rM J J<|rM J J<|aF h fun c6 e3 h=>ai.qv (uH J J e3) J<|rA J J<|rN<|tS<|ab.cut (fun aL=>∃ (c7:Bool),uJ n5 c7=some z1∧aL=⟨54,[(0,.str aa),(23,I (aa.length:Int)),(24,I n5),(52,.bool c7)],[]⟩) ?_ ?_
     ·refine tR<|rM J J<|ai.qv (rD J J) J<|rM J J<|ai.ct J J J (fun hc=>?_) (fun hc=>?_)
      ·rw [if_pos hc] at h
       refine rM J J<|rY J J J<|ai.qv (vn J J) J<|rT J J J<|rM J J<|ai.jK J J J (fun hc=>?_) (fun hc=>?_)
       ·rw [if_neg hc] at h
        refine rM J J<|rY J J J<|ai.qv (rD J J) J<|rY J J J<|rM J J<|ai.ct J J J (fun hc=>?_) (fun hc=>?_)
        ·rw [if_pos hc] at h
         refine rM J J<|rY J J J<|ai.qv (vn J J) J<|rY J J J<|rT J J J<|rE J J J<|rM J J<|ai.jK J J J (fun hc=>?_) (fun hc=>?_)
         ·rw [if_neg hc] at h
          refine rM J J<|rY J J J<|ai.qv (dw J J) J<|rE J J J<|rM J J<|ai.jK J J J (fun hc=>?_) (fun hc=>?_)
          ·rw [if_neg hc] at h
           exact rM J J<|rY J J J<|ai.qv (dw J J) J<|rE J J J<|ai.qv (x6 J) J<|rN<|ab.stop<|ak.lq [] ⟨decide (¬ ((c6.toNat:Int)=(95:Int))),h,J⟩ J J
          ·rw [if_pos hc] at h
           exact rG J J J J<|rT J J J<|ai.qv (cL J) J<|rN<|ab.stop<|ak.lq [] ⟨!true,h,J⟩ J J
         ·rw [if_pos hc] at h
          exact rG J J J J<|rT J J J<|rM J J<|rG J J J J<|rG J J J J<|rT J J J<|ai.qv (cL J) J<|rN<|ab.stop<|ak.lq [] ⟨!true,h,J⟩ J J
        ·rw [if_neg hc] at h
         refine rG J J J J<|rY J J J<|rE J J J<|rE J J J<|rM J J<|rY J J J<|rM J J<|rY J J J<|ai.qv (dw J J) J<|rE J J J<|rM J J<|ai.jK J J J (fun hc=>?_) (fun hc=>?_)
         ·rw [if_neg hc] at h
          exact rM J J<|rY J J J<|ai.qv (dw J J) J<|rE J J J<|ai.qv (x6 J) J<|rN<|ab.stop<|ak.lq [] ⟨decide (¬ ((c6.toNat:Int)=(95:Int))),h,J⟩ J J
         ·rw [if_pos hc] at h
          exact rG J J J J<|rT J J J<|ai.qv (cL J) J<|rN<|ab.stop<|ak.lq [] ⟨!true,h,J⟩ J J
       ·rw [if_pos hc] at h
        exact rG J J J J<|rG J J J J<|ai.aY J J J<|ai.aY J J J<|rG J J J J<|rT J J J<|rM J J<|rG J J J J<|rG J J J J<|rT J J J<|rM J J<|rG J J J J<|rG J J J J<|rT J J J<|ai.qv (cL J) J<|rN<|ab.stop<|ak.lq [] ⟨!true,h,J⟩ J J
      ·rw [if_neg hc] at h
       refine rG J J J J<|rE J J J<|rM J J<|rY J J J<|rM J J<|rY J J J<|ai.qv (rD J J) J<|rY J J J<|rM J J<|ai.ct J J J (fun hc=>?_) (fun hc=>?_)
       ·rw [if_pos hc] at h
        refine rM J J<|rY J J J<|ai.qv (vn J J) J<|rY J J J<|rT J J J<|rE J J J<|rM J J<|ai.jK J J J (fun hc=>?_) (fun hc=>?_)
        ·rw [if_neg hc] at h
         refine rM J J<|rY J J J<|ai.qv (dw J J) J<|rE J J J<|rM J J<|ai.jK J J J (fun hc=>?_) (fun hc=>?_)
         ·rw [if_neg hc] at h
          exact rM J J<|rY J J J<|ai.qv (dw J J) J<|rE J J J<|ai.qv (x6 J) J<|rN<|ab.stop<|ak.lq [] ⟨decide (¬ ((c6.toNat:Int)=(95:Int))),h,J⟩ J J
         ·rw [if_pos hc] at h
          exact rG J J J J<|rT J J J<|ai.qv (cL J) J<|rN<|ab.stop<|ak.lq [] ⟨!true,h,J⟩ J J
        ·rw [if_pos hc] at h
         exact rG J J J J<|rT J J J<|rM J J<|rG J J J J<|rG J J J J<|rT J J J<|ai.qv (cL J) J<|rN<|ab.stop<|ak.lq [] ⟨!true,h,J⟩ J J
       ·rw [if_neg hc] at h
        refine rG J J J J<|rY J J J<|rE J J J<|rE J J J<|rM J J<|rY J J J<|rM J J<|rY J J J<|ai.qv (dw J J) J<|rE J J J<|rM J J<|ai.jK J J J (fun hc=>?_) (fun hc=>?_)
        ·rw [if_neg hc] at h
         exact rM J J<|rY J J J<|ai.qv (dw J J) J<|rE J J J<|ai.qv (x6 J) J<|rN<|ab.stop<|ak.lq [] ⟨decide (¬ ((c6.toNat:Int)=(95:Int))),h,J⟩ J J
        ·rw [if_pos hc] at h
         exact rG J J J J<|rT J J J<|ai.qv (cL J) J<|rN<|ab.stop<|ak.lq [] ⟨!true,h,J⟩ J J
     ·rintro aL ⟨c7,h,rfl⟩
      unfold uJ at h
      refine cB h J (fun h=>?_) (fun h=>?_)
      ·refine aN<|rA J J<|rN<|ab.ret<|have h:=cr h fw;?_
       cases h
       exact hP J J
      ·refine tK<|ab.cd<|tR<|ai.qv (a8 J J) J<|rM J J<|rN<|ab.stop<|?_
       cases h
       exact im _ _ J<|ak.lq [] J J J
    ·refine ab.exit J<|have h:=cr h fw;aN<|rA J J<|rN<|ab.ret<|?_
     cases h
     exact hP J J
theorem j8 [GI:bI] {aa:Int} {aj:Int} {ar:Int} {r:Bool} (h:gi aa aj ar=r):Pu Tryz.prog 98 [I aa,I aj,I ar] (.bool r):=by
 unfold gi at h
 refine aM.bt Tryz.func98 J Tryz.ntmps98 Tryz.results98 J J ?_
 refine aN<|rA J J<|rN<|tS<|ab.cut (fun aL=>∃ (c1:Bool),xy c1=r∧aL=⟨15,[(6,.bool c1)],[]⟩) ?_ ?_
 ·refine tR<|rM J J<|rM J J<|ai.qv (bB J J) J<|rM J J<|ai.jK J J J (fun hc=>?_) (fun hc=>?_)
  ·rw [NJ hc] at h
   exact rM J J<|rY J J J<|rM J J<|rY J J J<|ai.qv (jl J J) J<|rE J J J<|rA J J<|rN<|ab.stop<|ak.lq [] ⟨decide (ar < aa),h,J⟩ J J
  ·rw [NI hc] at h
   exact rG J J J J<|rG J J J J<|rT J J J<|rA J J<|rN<|ab.stop<|ak.lq [] ⟨true,h,J⟩ J J
 ·rintro aL ⟨c1,h,rfl⟩
  unfold xy at h
  refine ab.ret<|?_
  obtain rfl:=h
  exact hP J J
theorem sn [GI:bI] {aa:Int} {r:Bool} (h:dM aa=r):Pu Tryz.prog 153 [I aa] (.bool r):=by
 unfold dM at h
 refine aM.bt Tryz.func153 J Tryz.ntmps153 Tryz.results153 J J ?_
 refine aN<|rA J J<|rN<|aN<|rM J J<|bb J (j8 J) cR J<|ai.qv (cL J) J<|rA J J<|rN<|ab.ret<|?_
 obtain rfl:=h
 exact hP J J
theorem kQ [GI:bI] {aa:List aG} {r:Int} (h:fT aa=some r):Pu Tryz.prog 86 [wQ aa] (I r):=by
 unfold fT at h
 refine aM.bt Tryz.func86 J Tryz.ntmps86 Tryz.results86 J J ?_
 refine aN<|rA J J<|rN<|tS<|aN<|rM J J<|ai.qv (db J) J<|ai.qv (jl J J) J<|rN<|cD h J (fun h=>?_) (fun h=>?_)
 ·refine aN<|rA J J<|rN<|ab.ret<|?_
  cases h
  exact hP J J
 ·refine tK<|aN<|rA J J<|rN<|tS<|aN<|rM J J<|ai.qv (db J) J<|rM J J<|rN<|ab.block<|ab.bV (fun x:Int=>fh aa x) (fun x aL=>aL=⟨89,[(0,wQ aa),(3,.func (.func 153) []),(9,wQ aa),(10,I (aa.length:Int)),(11,I x)],[]⟩) h ?_ ?_
  ·exact ak.lq [] J J J
  ·intro n2 z1 aL J1 cT h im fw
   obtain rfl:=cT
   replace h:fh aa n2=some z1:=h
   unfold fh at h
   refine aN<|ai.qv (bB J J) J<|rN<|tS<|cD h J (fun h=>?_) (fun h=>?_)
   ·refine tK<|tS<|ab.block<|aN<|rM J J<|aF h fun v3 e1 h=>ai.qv (bz J J J e1 J J) J<|ai.qv (bu J J J) J<|bH J J J J fun b4=>rA J J<|aD J J J J .p0 J J<|rN<|ab.block<|aN<|rF J J J<|rL J J .p0 J J<|aF h fun v5 e2 h=>bb J (ue e2) cR J<|ai.qv (cL J) J<|rA J J<|rN<|cB h J (fun h=>?_) (fun h=>?_)
    ·refine aN<|rA J J<|rN<|ab.ret<|have h:=cr h fw;?_
     cases h
     exact hP J J
    ·refine tS<|ab.cut (fun aL=>∃ (c6:Bool),iy n2 v3 c6=some z1∧aL=⟨89,[(0,wQ aa),(3,.func (.func 153) []),(5,.ptr b4 0),(9,wQ aa),(10,I (aa.length:Int)),(11,I n2),(21,.bool c6)],[(b4,.cells (w6 v3))]⟩) ?_ ?_
     ·refine ab.bM (id:=9) (A:=[0,1,3,7,15,7,7,71,231,487,999,2047,4095,8191]) 14 mixed J (by kernel_rfl) (by kernel_rfl)<|AM.qv (ay J) J<|AM.qv (jl J J) J<|AM.qv (ay J) J<|AM.ct J J J (fun hc=>?_) (fun hc=>?_)
      ·exact have h:=sC hc h;AM.qv (aC J J) J<|AM.aB J J J<|AM.qv (aJ J J .p0 J) J<|AM.aB J J J<|AM.qv (ay J) J<|AM.aB J J J<|AM.qv (ay J) J<|AM.aB J J J<|AM.qv (bT J J) J<|AM.aB J J J<|aF h fun v7 e3 h=>AM.qv (bz J J J e3 J J) J<|AM.aB J J J<|AM.qv (bl J J) J<|AM.aB J J J<|AM.qv (aW J J J) J<|AM.aB J J J<|AM.qv (NK J J) J<|AM.qv (il J J) J<|AM.qv (bY J) J<|AM.nil<|rN<|ab.stop<|ak.lq [0] ⟨Op.bytesLess v3.Key v7.Key||v3.Key==v7.Key,h,J⟩ J J
      ·exact have h:=vq hc h;AM.az J J J J<|AM.az J J J J<|AM.az J J J J<|AM.az J J J J<|AM.az J J J J<|AM.az J J J J<|AM.az J J J J<|AM.az J J J J<|AM.qv (dR J J) J<|AM.qv (bY J) J<|AM.nil<|rN<|ab.stop<|ak.lq [0] ⟨false,h,J⟩ J J
     ·rintro aL ⟨c6,h,rfl⟩
      unfold iy at h
      refine cB h J (fun h=>?_) (fun h=>?_)
      ·refine aN<|rA J J<|rN<|ab.ret<|have h:=cr h fw;?_
       cases h
       exact hP J J
      ·refine aN<|rF J J J<|rL J J .p0 J J<|aF h fun v8 e4 h=>bb J (ue e4) cR J<|ai.qv (cL J) J<|rA J J<|rN<|cB h J (fun h=>?_) (fun h=>?_)
       ·refine aN<|rA J J<|rN<|ab.ret<|have h:=cr h fw;?_
        cases h
        exact hP J J
       ·refine aN<|rF J J J<|rL J J .p0 J J<|bb J (j8 J) cR J<|rA J J<|rN<|cB h J (fun h=>?_) (fun h=>?_)
        ·refine aN<|rA J J<|rN<|ab.ret<|have h:=cr h fw;?_
         cases h
         exact hP J J
        ·refine tS<|aN<|rF J J J<|rL J J .p0 J J<|bb J (j8 J) cR J<|rA J J<|rN<|ab.cut (fun aL=>∃ (c9:Bool),iv n2 v3 c9=some z1∧aL=⟨89,[(0,wQ aa),(3,.func (.func 153) []),(5,.ptr b4 0),(9,wQ aa),(10,I (aa.length:Int)),(11,I n2),(44,.bool c9)],[(b4,.cells (w6 v3))]⟩) ?_ ?_
         ·refine cB h J (fun h=>?_) (fun h=>?_)
          ·exact tK<|ab.stop<|ak.lq [0] ⟨(gi v3.bh (1:Int) (2592000000:Int)),h,J⟩ J J
          ·refine aN<|rM J J<|rF J J J<|rL J J .p0 J J<|rO J J (sn J) cR J<|ai.qv (cL J) J<|rA J J<|rN<|ab.cut (fun aL=>∃ (CX:Bool),fW n2 v3 CX=some z1∧aL=⟨89,[(0,wQ aa),(3,.func (.func 153) []),(5,.ptr b4 0),(9,wQ aa),(10,I (aa.length:Int)),(11,I n2),(44,.bool CX)],[(b4,.cells (w6 v3))]⟩) ?_ ?_
           ·refine cB h J (fun h=>?_) (fun h=>?_)
            ·exact tK<|ab.stop<|ak.lq [0] ⟨!(dM v3.On),h,J⟩ J J
            ·refine aN<|rM J J<|rF J J J<|rL J J .p0 J J<|rO J J (sn J) cR J<|ai.qv (cL J) J<|rA J J<|rN<|ab.cut (fun aL=>∃ (HA:Bool),fX n2 v3 HA=some z1∧aL=⟨89,[(0,wQ aa),(3,.func (.func 153) []),(5,.ptr b4 0),(9,wQ aa),(10,I (aa.length:Int)),(11,I n2),(44,.bool HA)],[(b4,.cells (w6 v3))]⟩) ?_ ?_
             ·refine cB h J (fun h=>?_) (fun h=>?_)
              ·exact tK<|ab.stop<|ak.lq [0] ⟨!(dM v3.eJ),h,J⟩ J J
              ·refine tS<|ab.cut (fun aL=>∃ (c12:Bool),lO n2 v3 c12=some z1∧aL=⟨89,[(0,wQ aa),(3,.func (.func 153) []),(5,.ptr b4 0),(9,wQ aa),(10,I (aa.length:Int)),(11,I n2),(44,.bool c12)],[(b4,.cells (w6 v3))]⟩) ?_ ?_
               ·refine tR<|rF J J J<|rL J J .p0 J J<|rM J J<|ai.guard J J J (fun hc=>?_) (fun hc=>?_)
                ·rw [H9 hc] at h
                 exact rF J J J<|rY J J J<|rL J J .p0 J J<|rY J J J<|rF J J J<|rY J J J<|rL J J .p0 J J<|rY J J J<|ai.qv (jl J J) J<|rT J J J<|rA J J<|rN<|ab.stop<|ak.lq [0] ⟨decide (v3.On < v3.eJ),h,J⟩ J J
                ·rw [Ia hc] at h
                 exact rG J J J J<|rG J J J J<|rG J J J J<|rG J J J J<|rE J J J<|rA J J<|rN<|ab.stop<|ak.lq [0] ⟨false,h,J⟩ J J
               ·rintro aL ⟨c12,h,rfl⟩
                unfold lO at h
                refine ab.cut (fun aL=>∃ (Vb:Bool),iw n2 v3 Vb=some z1∧aL=⟨89,[(0,wQ aa),(3,.func (.func 153) []),(5,.ptr b4 0),(9,wQ aa),(10,I (aa.length:Int)),(11,I n2),(44,.bool Vb)],[(b4,.cells (w6 v3))]⟩) ?_ ?_
                ·refine cB h J (fun h=>?_) (fun h=>?_)
                 ·exact tK<|ab.stop<|ak.lq [0] ⟨c12,h,J⟩ J J
                 ·refine ab.cut (fun aL=>∃ (Vc:Bool),lN n2 v3 Vc=some z1∧aL=⟨89,[(0,wQ aa),(3,.func (.func 153) []),(5,.ptr b4 0),(9,wQ aa),(10,I (aa.length:Int)),(11,I n2),(44,.bool Vc)],[(b4,.cells (w6 v3))]⟩) ?_ ?_
                  ·refine tR<|rF J J J<|rL J J .p0 J J<|ai.qv (cL J) J<|rM J J<|ai.guard J J J (fun hc=>?_) (fun hc=>?_)
                   ·rw [H9 hc] at h
                    exact rF J J J<|rY J J J<|rL J J .p0 J J<|rY J J J<|rF J J J<|rY J J J<|rL J J .p0 J J<|rY J J J<|ai.qv (bB J J) J<|rT J J J<|rA J J<|rN<|ab.stop<|ak.lq [0] ⟨decide (v3.eJ < v3.On),h,J⟩ J J
                   ·rw [Ia hc] at h
                    exact rG J J J J<|rG J J J J<|rG J J J J<|rG J J J J<|rE J J J<|rA J J<|rN<|ab.stop<|ak.lq [0] ⟨false,h,J⟩ J J
                  ·rintro aL ⟨Vc,h,rfl⟩
                   unfold lN at h
                   exact ab.stop<|ak.lq [0] ⟨Vc,h,J⟩ J J
                ·rintro aL ⟨Vb,h,rfl⟩
                 unfold iw at h
                 exact ab.stop<|ak.lq [0] ⟨Vb,h,J⟩ J J
             ·rintro aL ⟨HA,h,rfl⟩
              unfold fX at h
              exact ab.stop<|ak.lq [0] ⟨HA,h,J⟩ J J
           ·rintro aL ⟨CX,h,rfl⟩
            unfold fW at h
            exact ab.stop<|ak.lq [0] ⟨CX,h,J⟩ J J
         ·rintro aL ⟨c9,h,rfl⟩
          unfold iv at h
          refine cB h J (fun h=>?_) (fun h=>?_)
          ·refine aN<|rA J J<|rN<|ab.ret<|have h:=cr h fw;?_
           cases h
           exact hP J J
          ·refine tS<|aN<|rF J J J<|rL J J .p0 J J<|bb J (j8 J) cR J<|rA J J<|rN<|ab.cut (fun aL=>∃ (II:Bool),iu n2 v3 II=some z1∧aL=⟨89,[(0,wQ aa),(3,.func (.func 153) []),(5,.ptr b4 0),(9,wQ aa),(10,I (aa.length:Int)),(11,I n2),(77,.bool II)],[(b4,.cells (w6 v3))]⟩) ?_ ?_
           ·refine cB h J (fun h=>?_) (fun h=>?_)
            ·exact tK<|ab.stop<|ak.lq [0] ⟨(gi v3.bR (0:Int) (2592000000:Int)),h,J⟩ J J
            ·exact tR<|rF J J J<|rL J J .p0 J J<|bb J (j8 J) cR J<|rA J J<|rN<|ab.stop<|ak.lq [0] ⟨(gi v3.Rest (0:Int) (2592000000:Int)),h,J⟩ J J
           ·rintro aL ⟨II,h,rfl⟩
            unfold iu at h
            refine cB h J (fun h=>?_) (fun h=>?_)
            ·refine aN<|rA J J<|rN<|ab.ret<|have h:=cr h fw;?_
             cases h
             exact hP J J
            ·refine aN<|rF J J J<|rL J J .p0 J J<|bb J (j8 J) cR J<|rA J J<|rN<|cB h J (fun h=>?_) (fun h=>?_)
             ·refine aN<|rA J J<|rN<|ab.ret<|have h:=cr h fw;?_
              cases h
              exact hP J J
             ·refine tK<|ab.cd<|ab.cd<|tR<|ai.qv (a8 J J) J<|rM J J<|rN<|ab.stop<|?_
              cases h
              exact im _ _ J<|ak.lq [] J J J
   ·refine ab.exit J<|have h:=cr h fw;aN<|rA J J<|rN<|ab.ret<|?_
    cases h
    exact hP J J
theorem EW [GI:bI] {aa:Int} {r:Bool} (h:rR aa=r):Pu Tryz.prog 151 [I aa] (.bool r):=by
 unfold rR at h
 refine aM.bt Tryz.func151 J Tryz.ntmps151 Tryz.results151 J J ?_
 refine aN<|rA J J<|rN<|aN<|rM J J<|bb J (j8 J) cR J<|ai.qv (cL J) J<|rA J J<|rN<|ab.ret<|?_
 obtain rfl:=h
 exact hP J J
theorem zi [GI:bI] {aa:ao} {r:Int} (h:ll aa=some r):Pu Tryz.prog 158 [ao.av aa] (I r):=by
 unfold ll at h
 refine aM.bt Tryz.func158 J Tryz.ntmps158 Tryz.results158 J J ?_
 refine aN<|df J J J J fun b1=>rA J J<|rN<|tS<|ab.block<|aN<|rF J J J<|rL J J .p0 J J<|bb J (EW J) cR J<|ai.qv (cL J) J<|rA J J<|rN<|cB h J (fun h=>?_) (fun h=>?_)
 ·refine aN<|rA J J<|rN<|ab.ret<|?_
  cases h
  exact hP J J
 ·refine tS<|ab.cut (fun aL=>∃ (c2:Bool),gO aa c2=some r∧aL=⟨23,[(1,.ptr b1 0),(8,.bool c2)],[(b1,.cells (Oq aa))]⟩) ?_ ?_
  ·refine tR<|rF J J J<|rL J J .p0 J J<|aF h fun v3 e1 h=>bb J (ue e1) cR J<|ai.qv (cL J) J<|rM J J<|ai.guard J J J (fun hc=>?_) (fun hc=>?_)
   ·exact have h:=H6 hc h;rF J J J<|rY J J J<|rL J J .p0 J J<|rY J J J<|aF h fun v4 e2 h=>bb J (ue e2) cR J<|rY J J J<|ai.qv (cL J) J<|rE J J J<|rA J J<|rN<|ab.stop<|ak.lq [0] ⟨!v4,h,J⟩ J J
   ·exact have h:=sC hc h;rG J J J J<|rG J J J J<|rG J J J J<|rT J J J<|rA J J<|rN<|ab.stop<|ak.lq [0] ⟨true,h,J⟩ J J
  ·rintro aL ⟨c2,h,rfl⟩
   unfold gO at h
   refine cB h J (fun h=>?_) (fun h=>?_)
   ·refine aN<|rA J J<|rN<|ab.ret<|?_
    cases h
    exact hP J J
   ·refine aN<|rF J J J<|rL J J .p0 J J<|bb J (j8 J) cR J<|rA J J<|rN<|cB h J (fun h=>?_) (fun h=>?_)
    ·refine aN<|rA J J<|rN<|ab.ret<|?_
     cases h
     exact hP J J
    ·refine tK<|ab.cd<|aN<|rA J J<|rN<|ab.ret<|?_
     cases h
     exact hP J J
theorem Cy [GI:bI] {aa:ao} {aj:ao} {r:Int} (h:ot aa aj=some r):Pu Tryz.prog 159 [ao.av aa,ao.av aj] (I r):=by
 unfold ot at h
 refine aM.bt Tryz.func159 J Tryz.ntmps159 Tryz.results159 J J ?_
 refine aN<|df J J J J fun b1=>df J J J J fun b2=>rA J J<|rN<|tS<|ab.bM (id:=1) (A:=[0,1,0,4,15,0,32,0,128,511,0,1024,0,4096,16383,32767,65535,131071]) 18 mixed J (by kernel_rfl) (by kernel_rfl)<|AM.qv (aC J J) J<|AM.qv (aJ J J .p1 J) J<|AM.qv (aC J J) J<|AM.qv (aJ J J .p0 J) J<|AM.gQ J (fK J) cR J<|AM.qv (aC J J) J<|AM.qv (aJ J J .p1 J) J<|AM.qv (aC J J) J<|AM.qv (aJ J J .p0 J) J<|AM.gQ J (ei J) cR J<|AM.qv (aC J J) J<|AM.qv (aJ J J .p1 J) J<|AM.qv (aC J J) J<|AM.qv (aJ J J .p0 J) J<|AM.gQ J (ei J) cR J<|AM.bZ (xs:=([(cmp_Compare_int aa.At aj.At),(Lib.compareBytes aa.Device aj.Device),(Lib.compareBytes aa.ax aj.ax)]:List Int).map I) J J J J J J<|aF h fun v3 e1 h=>AM.gQ J (qk e1) cR J<|AM.qv (bY J) J<|AM.nil<|rN<|ab.ret<|?_
 cases h
 exact hP J J
theorem lf [GI:bI] {aa:List ao} {r:Int} (h:cU aa=some r):Pu Tryz.prog 97 [lB aa] (I r):=by
 unfold cU at h
 refine aM.bt Tryz.func97 J Tryz.ntmps97 Tryz.results97 J J ?_
 refine aN<|rA J J<|rN<|tS<|aN<|rM J J<|ai.qv (db J) J<|ai.qv (jl J J) J<|rN<|cD h J (fun h=>?_) (fun h=>?_)
 ·refine aN<|rA J J<|rN<|ab.ret<|?_
  cases h
  exact hP J J
 ·refine tK<|tS<|aN<|rM J J<|ai.qv (db J) J<|rM J J<|rN<|ab.block<|ab.bV (fun x:Int=>dH aa x) (fun x aL=>aL=⟨34,[(0,lB aa),(9,lB aa),(10,I (aa.length:Int)),(11,I x)],[]⟩) h ?_ ?_
  ·exact ak.lq [] J J J
  ·intro n2 z1 aL J1 cT h im fw
   obtain rfl:=cT
   replace h:dH aa n2=some z1:=h
   unfold dH at h
   refine aN<|ai.qv (bB J J) J<|rN<|tS<|cD h J (fun h=>?_) (fun h=>?_)
   ·refine tK<|tS<|ab.block<|aN<|rM J J<|aF h fun v3 e1 h=>ai.qv (bz J J J e1 J J) J<|ai.qv (bu J J J) J<|bH J J J J fun b4=>rA J J<|aD J J J J .p0 J J<|rN<|tS<|aN<|ai.qv (aA J J .p0 J) J<|aF h fun v5 e2 h=>bb J (zi e2) cR J<|rA J J<|rN<|aN<|rM J J<|ai.qv (lW J J) J<|rN<|cD h J (fun h=>?_) (fun h=>?_)
    ·refine aN<|rM J J<|rA J J<|rN<|ab.ret<|have h:=cr h fw;?_
     cases h
     exact hP J J
    ·refine tK<|tS<|ab.cut (fun aL=>∃ (c6:Bool),iS n2 c6=some z1∧aL=⟨34,[(0,lB aa),(9,lB aa),(10,I (aa.length:Int)),(11,I n2),(32,.bool c6)],[]⟩) ?_ ?_
     ·refine ab.bM (id:=9) (A:=[0,1,3,7,7,7,39,119,247,511,1023,2047]) 12 mixed J (by kernel_rfl) (by kernel_rfl)<|AM.qv (ay J) J<|AM.qv (jl J J) J<|AM.qv (ay J) J<|AM.ct J J J (fun hc=>?_) (fun hc=>?_)
      ·exact have h:=sC hc h;AM.qv (aA J J .p0 J) J<|AM.aB J J J<|AM.qv (ay J) J<|AM.aB J J J<|AM.qv (ay J) J<|AM.aB J J J<|AM.qv (bT J J) J<|AM.aB J J J<|aF h fun v7 e3 h=>AM.qv (bz J J J e3 J J) J<|AM.aB J J J<|AM.qv (bu J J J) J<|AM.aB J J J<|aF h fun v8 e4 h=>AM.gQ J (Cy e4) cR J<|AM.aB J J J<|AM.qv (vn J J) J<|AM.qv (il J J) J<|AM.nil<|rN<|ab.stop<|ak.lq [] ⟨decide (v8≤(0:Int)),h,J⟩ J J
      ·exact have h:=vq hc h;AM.az J J J J<|AM.az J J J J<|AM.az J J J J<|AM.az J J J J<|AM.az J J J J<|AM.az J J J J<|AM.az J J J J<|AM.qv (dR J J) J<|AM.nil<|rN<|ab.stop<|ak.lq [] ⟨false,h,J⟩ J J
     ·rintro aL ⟨c6,h,rfl⟩
      unfold iS at h
      refine cB h J (fun h=>?_) (fun h=>?_)
      ·refine aN<|rA J J<|rN<|ab.ret<|have h:=cr h fw;?_
       cases h
       exact hP J J
      ·refine tK<|ab.cd<|tR<|ai.qv (a8 J J) J<|rM J J<|rN<|ab.stop<|?_
       cases h
       exact im _ _ J<|ak.lq [] J J J
   ·refine ab.exit J<|have h:=cr h fw;aN<|rA J J<|rN<|ab.ret<|?_
    cases h
    exact hP J J
theorem tf [GI:bI] {aa:List Int} {r:Int} (h:nf aa=some r):Pu Tryz.prog 85 [nu aa] (I r):=by
 unfold nf at h
 refine aM.bt Tryz.func85 J Tryz.ntmps85 Tryz.results85 J J ?_
 refine aN<|rA J J<|rN<|tS<|aN<|rM J J<|ai.qv (db J) J<|rM J J<|rN<|ab.block<|ab.bV (fun x:Int=>ra aa x) (fun x aL=>aL=⟨15,[(5,nu aa),(6,I (aa.length:Int)),(7,I x)],[]⟩) h ?_ ?_
 ·exact ak.lq [] J J J
 ·intro n2 z1 aL J1 cT h im fw
  obtain rfl:=cT
  replace h:ra aa n2=some z1:=h
  unfold ra at h
  refine aN<|ai.qv (bB J J) J<|rN<|tS<|cD h J (fun h=>?_) (fun h=>?_)
  ·refine tK<|tS<|ab.block<|aN<|aF h fun v3 e1 h=>ai.qv (bz J J J e1 J J) J<|ai.qv (aW J J J) J<|rA J J<|rN<|aN<|rM J J<|ai.qv (lW J J) J<|rN<|cD h J (fun h=>?_) (fun h=>?_)
   ·refine aN<|rM J J<|rA J J<|rN<|ab.ret<|have h:=cr h fw;?_
    cases h
    exact hP J J
   ·refine tK<|ab.cd<|tR<|ai.qv (a8 J J) J<|rM J J<|rN<|ab.stop<|?_
    cases h
    exact im _ _ J<|ak.lq [] J J J
  ·refine ab.exit J<|have h:=cr h fw;aN<|rA J J<|rN<|ab.ret<|?_
   cases h
   exact hP J J
theorem rn [GI:bI] {aa:aE} {r:Bool} (h:iT aa=r):Pu Tryz.prog 53 [aE.av aa] (.bool r):=by
 unfold iT at h
 refine aM.bt Tryz.func53 J Tryz.ntmps53 Tryz.results53 J J ?_
 refine aN<|df J J J J fun b1=>rA J J<|rN<|tS<|ab.cut (fun aL=>∃ (c2:Bool),pN c2=r∧aL=⟨14,[(2,.bool c2)],[]⟩) ?_ ?_
 ·refine tR<|rF J J J<|rL J J .p0 J J<|rF J J J<|rL J J .p0 J J<|bb J (j8 J) cR J<|ai.qv (cL J) J<|rM J J<|ai.guard J J J (fun hc=>?_) (fun hc=>?_)
  ·rw [H9 hc] at h
   exact rF J J J<|rY J J J<|rL J J .p0 J J<|rY J J J<|ai.qv (vn J J) J<|rT J J J<|rA J J<|rN<|ab.stop<|ak.lq [] ⟨decide (aa.To≤(345686400000:Int)),h,J⟩ J J
  ·rw [Ia hc] at h
   exact rG J J J J<|rG J J J J<|rE J J J<|rA J J<|rN<|ab.stop<|ak.lq [] ⟨false,h,J⟩ J J
 ·rintro aL ⟨c2,h,rfl⟩
  unfold pN at h
  refine ab.ret<|?_
  obtain rfl:=h
  exact hP J J
theorem wc [GI:bI] {aa:List aG} {aj:List ao} {ar:aE} {r:Int} (h:o4 aa aj ar=some r):Pu Tryz.prog 87 [wQ aa,lB aj,aE.av ar] (I r):=by
 unfold o4 at h
 refine aM.bt Tryz.func87 J Tryz.ntmps87 Tryz.results87 J J ?_
 refine aN<|df J J J J fun b1=>rA J J<|rN<|aN<|rM J J<|aF h fun v2 e1 h=>bb J (kQ e1) cR J<|rM J J<|aF h fun v3 e2 h=>bb J (lf e2) cR J<|aQ (xs:=([v2,v3]:List Int).map I) J J J J J J<|aF h fun v4 e3 h=>bb J (tf e3) cR J<|rA J J<|rN<|tS<|tS<|ab.cut (fun aL=>∃ (c5:Bool),rb v4 c5=some r∧aL=⟨22,[(7,I v4),(20,.bool c5)],[]⟩) ?_ ?_
 ·refine tR<|rM J J<|ai.qv (dw J J) J<|rM J J<|ai.ct J J J (fun hc=>?_) (fun hc=>?_)
  ·rw [tG hc] at h
   exact ai.qv (aA J J .p0 J) J<|rY J J J<|bb J (rn J) cR J<|rY J J J<|ai.qv (cL J) J<|rT J J J<|rN<|ab.stop<|ak.lq [] ⟨!(iT ar),h,J⟩ J J
  ·rw [tH hc] at h
   exact rG J J J J<|rG J J J J<|rE J J J<|rN<|ab.stop<|ak.lq [] ⟨false,h,J⟩ J J
 ·rintro aL ⟨c5,h,rfl⟩
  unfold rb at h
  refine ab.cut (fun aL=>∃ (n6:Int),ou n6=some r∧aL=⟨22,[(7,I n6)],[]⟩) ?_ ?_
  ·refine cB h J (fun h=>?_) (fun h=>?_)
   ·exact tR<|rA J J<|rN<|ab.stop<|ak.lq [] ⟨(1:Int),h,J⟩ J J
   ·exact tK<|ab.stop<|ak.lq [] ⟨v4,h,J⟩ J J
  ·rintro aL ⟨n6,h,rfl⟩
   unfold ou at h
   refine aN<|rM J J<|rA J J<|rN<|ab.ret<|?_
   cases h
   exact hP J J
theorem tg:KT Tryz.prog 135 (fun l=>Value.string ⟨l.toArray⟩) DK:=⟨fun cd off cap zs w hH hb hs=>Tryz.slices_Sort_string cd off cap zs w hH hb hs,fun p cap w=>Tryz.slices_Sort_string_none p cap w⟩
theorem mJ [GI:bI] {bc:Bk} {aa:List aO} {r:(List aO)} (h:cy aa=some r):aM Tryz.prog 135 [.sl 1 bc 0 aa.length] [(bc,.arr 1 (aa.map AV.str))] (T0 [(bc,.arr 1 (r.map AV.str))] (.lA [])):=
 BO tg (g:=AV.str) (fun h=>h.iF) (fun w S x=>.str _) (fun _=>J) (fun xs=>List.length_mergeSort _) (fun _=>J) h
theorem lx [GI:bI] {bc:Bk} {aa:List aO} {r:(List aO)} (h:dS aa=some r):aM Tryz.prog 136 [.sl 1 bc 0 aa.length] [(bc,yy aa)] (T1 (fun gr=>[(gr,yy r)]) (fun gr=>.sl 1 gr 0 r.length)):=by
 unfold dS at h
 refine aM.dx ?_
 refine aM.bt Tryz.func136 J Tryz.ntmps136 Tryz.results136 J J ?_
 refine aN<|rA J J<|rN<|tS<|aN<|rM J J<|ai.qv (cE J) J<|ai.qv (bB J J) J<|rN<|cD h J (fun h=>?_) (fun h=>?_)
 ·refine aN<|rM J J<|rA J J<|rN<|ab.ret<|?_
  cases h
  exact hH J [0] J ⟨bc,J,J⟩
 ·refine tK<|tS<|aN<|rA J J<|rN<|ab.block<|ab.bV (fun x:Int=>eP aa x) (fun x aL=>aL=⟨61,[(0,.sl 1 bc 0 aa.length),(3,I x)],[(bc,yy aa)]⟩) h ?_ ?_
  ·exact ak.lq [0] J J J
  ·intro n2 z1 aL J1 cT h im fw
   obtain rfl:=cT
   replace h:eP aa n2=some z1:=h
   unfold eP at h
   refine tS<|aN<|rM J J<|rM J J<|ai.qv (cE J) J<|ai.qv (bB J J) J<|rN<|cD h J (fun h=>?_) (fun h=>?_)
   ·refine tK<|tS<|ab.block<|tS<|ab.bM (id:=6) (A:=[0,0,3,7,0,0,32,112,240,511]) 10 mixed J (by kernel_rfl) (by kernel_rfl)<|AM.qv (ay J) J<|AM.qv (ay J) J<|aF h fun v3 e1 h=>AM.qv (aV J J J e1) J<|AM.qv (bg (g:=AV.str) J J (.inl .p0) e1 J) J<|AM.qv (ay J) J<|AM.qv (ay J) J<|AM.qv (bT J J) J<|aF h fun v4 e2 h=>AM.qv (aV J J J e2) J<|AM.qv (bg (g:=AV.str) J J (.inl .p0) e2 J) J<|AM.qv (nN J J) J<|AM.nil<|rN<|cD h J (fun h=>?_) (fun h=>?_)
    ·refine aN<|rM J J<|rM J J<|aF h fun l5 e3 h=>ai.qv (mW J J (.some _ _ _ J) .none J J e3) J<|rA J J<|rN<|tS<|aN<|rA J J<|rN<|ab.block<|ab.bV (fun x:(List aO)×Int×Int=>eO n2 l5 x.1 x.2.1 x.2.2) (fun x aL=>aL=⟨61,[(0,.sl 1 bc 0 x.1.length),(3,I x.2.1),(4,.sl 1 bc n2.toNat l5.length),(5,I x.2.2)],[(bc,yy x.1)]⟩) h ?_ ?_
     ·exact ak.lq [0] J J J
     ·intro x z2 aL J2 cT h wb wR
      obtain ⟨l9,n10,n11⟩:=x
      obtain rfl:=cT
      replace h:eO n2 l5 l9 n10 n11=some z2:=h
      unfold eO at h
      refine tS<|aN<|rM J J<|rM J J<|ai.qv (Fo J) J<|ai.qv (bB J J) J<|rN<|cD h J (fun h=>?_) (fun h=>?_)
      ·refine tK<|tS<|ab.block<|tS<|ab.bM (id:=11) (A:=[0,0,3,7,0,0,32,112,240,511]) 10 mixed J (by kernel_rfl) (by kernel_rfl)<|AM.qv (ay J) J<|AM.qv (ay J) J<|aF h fun v12 e4 h=>AM.qv (pb (L:=n2) J J J e4) J<|AM.qv (bg (g:=AV.str) J J (.inl .p0) (qL e4).2 J) J<|AM.qv (ay J) J<|AM.qv (ay J) J<|AM.qv (bT J J) J<|aF h fun k9 e5 h=>AM.qv (pb (L:=n2) J J J e5) J<|AM.qv (bg (g:=AV.str) J J (.inl .p0) (qL e5).2 J) J<|AM.qv (R0 J J) J<|AM.nil<|rN<|ab.cut (fun aL=>∃ (tL:List aO) (n15:Int),eN n11 tL n15=some z2∧aL=⟨61,[(0,.sl 1 bc 0 tL.length),(3,I n15),(4,.sl 1 bc n2.toNat l5.length),(5,I n11)],[(bc,yy tL)]⟩) ?_ ?_
       ·refine cD h J (fun h=>?_) (fun h=>?_)
        ·exact aN<|rM J J<|rM J J<|rM J J<|rM J J<|aF h fun gx e6 h=>ai.qv (pb (L:=n2) J J J e6) J<|ai.qv (bg (g:=AV.str) J J (.inl .p0) (qL e6).2 J) J<|aF h fun v17 e7 h=>ai.qv (aV J J J e7) J<|bX (g:=AV.str) (za:=gx) J J J J e7 J .p0 J<|ai.ghost<|ak.eqs (s:=0) (dF:=.sl 1 bc 0 (l9.set n10.toNat gx).length) J (by rw [List.length_set])<|ak.here<|ai.ghost<|ak.eqs (s:=45) (dF:=.sl 1 bc 0 (l9.set n10.toNat gx).length) J (by rw [List.length_set])<|ak.here<|rN<|tR<|rM J J<|ai.qv (a8 J J) J<|rA J J<|rN<|ab.stop<|ak.lq [0] ⟨l9.set n10.toNat gx,aU (n10+(1:Int)),h,J⟩ J J
        ·exact tK<|ab.stop<|ak.lq [0] ⟨l9,n10,h,J⟩ J J
       ·rintro aL ⟨tL,n15,h,rfl⟩
        unfold eN at h
        refine ab.cd<|tR<|rM J J<|ai.qv (a8 J J) J<|rA J J<|rN<|ab.stop<|?_
        cases h
        exact wb _ _ J<|ak.lq [0] J J J
      ·refine ab.exit J<|have h:=cr h wR;?_
       unfold k6 at h
       refine aN<|rM J J<|rM J J<|aF h fun dL e8 h=>ai.qv (mW J J (.some _ _ _ J) .none J J e8) J<|Gv (g:=AV.str) (Z:=[]) (L:=n10) J J J J J J e8 .p0<|ai.ghost<|ak.eqs (s:=0) (dF:=.sl 1 bc 0 (Fm l9 n10 dL.length []).length) J (congrArg (AV.sl 1 bc 0) (vV e8))<|ak.here<|ai.ghost<|ak.eqs (s:=54) (dF:=.sl 1 bc 0 (Fm l9 n10 dL.length []).length) J (congrArg (AV.sl 1 bc 0) (vV e8))<|ak.here<|rN<|aN<|rM J J<|rM J J<|aF h fun lU e9 h=>ai.qv (mW J J .none (.some _ _ _ J) J J e9) J<|rA J J<|ai.ghost<|ak.NX e9 .p0<|ak.here<|rN<|ab.ret<|have h:=cr h fw;?_
       cases h
       exact hH J [0] J ⟨bc,J,J⟩
    ·refine tK<|ab.cd<|tR<|rM J J<|ai.qv (a8 J J) J<|rA J J<|rN<|ab.stop<|?_
     cases h
     exact im _ _ J<|ak.lq [0] J J J
   ·refine ab.exit J<|have h:=cr h fw;aN<|rM J J<|rA J J<|rN<|ab.ret<|?_
    cases h
    exact hH J [0] J ⟨bc,J,J⟩
theorem xD [GI:bI] {aa:List ao} {aj:aO} {r:(List aO)} (h:nF aa aj=some r):aM Tryz.prog 154 [lB aa,.str aj] [] (T1 (fun gr=>[(gr,yy r)]) (fun gr=>.sl 1 gr 0 r.length)):=by
 unfold nF at h
 refine aM.dx ?_
 refine aM.bt Tryz.func154 J Tryz.ntmps154 Tryz.results154 J J ?_
 refine aN<|rA J J<|rN<|aN<|rA J J<|rN<|tS<|aN<|rM J J<|ai.qv (db J) J<|rM J J<|rN<|ab.block<|ab.bV (fun x:(List aO)×Int=>fU aa aj x.1 x.2) (fun x aL=>∃ (b4:Bk),aL=⟨28,[(1,.str aj),(5,.sl 1 b4 0 x.1.length),(8,lB aa),(9,I (aa.length:Int)),(10,I x.2)],[(b4,yy x.1)]⟩) h ?_ ?_
 ·exact ak.arr (s:=5) 1 J fun b7=>ak.lq [0] ⟨b7,J⟩ J J
 ·intro x z1 aL J1 cT h im fw
  obtain ⟨l5,n6⟩:=x
  obtain ⟨b4,rfl⟩:=cT
  replace h:fU aa aj l5 n6=some z1:=h
  unfold fU at h
  refine aN<|ai.qv (bB J J) J<|rN<|tS<|cD h J (fun h=>?_) (fun h=>?_)
  ·refine tK<|tS<|ab.block<|aN<|aF h fun v8 e1 h=>ai.qv (bz J J J e1 J J) J<|ai.qv (bu J J J) J<|bH J J J J fun b9=>aD J J J J .p0 J J<|rN<|aN<|rF J J J<|rL J J .p0 J J<|rM J J<|ai.qv (nN J J) J<|rN<|ab.cut (fun aL=>∃ (ja:Bk) (jE:List aO),mi n6 jE=some z1∧aL=⟨28,[(1,.str aj),(5,.sl 1 ja 0 jE.length),(8,lB aa),(9,I (aa.length:Int)),(10,I n6)],[(ja,yy jE)]⟩) ?_ ?_
   ·refine cD h J (fun h=>?_) (fun h=>?_)
    ·exact tR<|rM J J<|rF J J J<|rL J J .p0 J J<|aQ (xs:=([v8.Device]:List aO).map AV.str) J J J J J J<|aF h fun jI e2 h=>cA (g:=AV.str) J J J J J J J J (.list _) e2 (fun _=>.p1) J fun C1=>rA J J<|rN<|ab.stop<|ak.lq [1] ⟨C1,jI,h,J⟩ J J
    ·exact tK<|ab.stop<|ak.lq [1] ⟨b4,l5,h,J⟩ J J
   ·rintro aL ⟨ja,jE,h,rfl⟩
    unfold mi at h
    refine ab.cd<|tR<|ai.qv (a8 J J) J<|rM J J<|rN<|ab.stop<|?_
    cases h
    exact im _ _ J<|ak.lq [0] ⟨ja,J⟩ J J
  ·refine ab.exit J<|have h:=cr h fw;?_
   unfold mj at h
   refine aN<|rM J J<|aF h fun nz e3 h=>bd J (mJ (gl e3)) cR (.cons .p0 .nil) J J<|ai.ghost<|ak.eqs (s:=5) (dF:=.sl 1 b4 0 nz.length) J (congrArg (AV.sl 1 b4 0) (bO e3))<|ak.here<|ai.ghost<|ak.eqs (s:=24) (dF:=.sl 1 b4 0 nz.length) J (congrArg (AV.sl 1 b4 0) (bO e3))<|ak.here<|rN<|aN<|rM J J<|aF h fun mM e4 h=>eM J (lx e4) cR (.cons .p0 .nil) (fun _=>J) J fun A9=>rA J J<|rN<|ab.ret<|?_
   cases h
   exact hH J [0] J ⟨A9,J,J⟩
theorem vB [GI:bI] {bc:Bk} {cI:Bk} {cQ:List ae} {cJ:Bk} {dp:List ae} {cK:Bk} {dq:List ae} {dD:Fn} {dE:List AV} {aa:aK} {r:Int} (h:ln aa=some r):aM Tryz.prog 216 [.ptr bc 0] [(bc,.cells [.bJ [.str aa.au.Key,.str aa.au.ax,I aa.au.eI,I aa.au.bh,.bool aa.au.bj,I aa.au.On,I aa.au.eJ,I aa.au.bR,I aa.au.Rest,I aa.au.Empty],.sl 2 cI cQ.length aa.ba.length,.sl 2 cJ dp.length aa.bE.length,.sl 2 cK dq.length aa.bW.length,I aa.iZ,I aa.bF,I aa.ck,.bool aa.bK,I aa.cm,.func dD dE]),(cI,dC (cQ++aa.ba)),(cJ,dC (dp++aa.bE)),(cK,dC (dq++aa.bW))] (T0 ([(bc,.cells [.bJ [.str aa.au.Key,.str aa.au.ax,I aa.au.eI,I aa.au.bh,.bool aa.au.bj,I aa.au.On,I aa.au.eJ,I aa.au.bR,I aa.au.Rest,I aa.au.Empty],.sl 2 cI cQ.length aa.ba.length,.sl 2 cJ dp.length aa.bE.length,.sl 2 cK dq.length aa.bW.length,I aa.iZ,I aa.bF,I aa.ck,.bool aa.bK,I aa.cm,.func dD dE]),(cI,dC (cQ++aa.ba)),(cJ,dC (dp++aa.bE)),(cK,dC (dq++aa.bW))]) (I r)):=by
 unfold ln at h
 refine aM.dx ?_
 refine aM.bt Tryz.func216 J Tryz.ntmps216 Tryz.results216 J J ?_
 refine aN<|rA J J<|rN<|aN<|rM J J<|ai.qv (aH J) J<|rF J J J<|rL J J .p0 J J<|ai.qv (tB J) J<|rA J J<|rN<|tS<|tS<|ab.cut (fun aL=>∃ (c1:Bool),mI aa c1=some r∧aL=⟨140,[(0,.ptr bc 0),(3,I (aa.ba.length:Int)),(24,.bool c1)],[(bc,.cells [.bJ [.str aa.au.Key,.str aa.au.ax,I aa.au.eI,I aa.au.bh,.bool aa.au.bj,I aa.au.On,I aa.au.eJ,I aa.au.bR,I aa.au.Rest,I aa.au.Empty],.sl 2 cI cQ.length aa.ba.length,.sl 2 cJ dp.length aa.bE.length,.sl 2 cK dq.length aa.bW.length,I aa.iZ,I aa.bF,I aa.ck,.bool aa.bK,I aa.cm,.func dD dE]),(cI,dC (cQ++aa.ba)),(cJ,dC (dp++aa.bE)),(cK,dC (dq++aa.bW))]⟩) ?_ ?_
 ·refine tR<|rM J J<|ai.qv (dw J J) J<|rM J J<|ai.ct J J J (fun hc=>?_) (fun hc=>?_)
  ·rw [tG hc] at h
   exact rM J J<|rY J J J<|ai.qv (aH J) J<|rY J J J<|rF J J J<|rY J J J<|rL J J .p0 J J<|rY J J J<|ai.qv (cu J) J<|rY J J J<|ai.qv (bl J J) J<|rY J J J<|ai.qv (aW J J J) J<|rY J J J<|ai.qv (lW J J) J<|rT J J J<|rN<|ab.stop<|ak.lq [0,0,0,0] ⟨decide (aa.au.eI≠(5:Int)),h,J⟩ J J
  ·rw [tH hc] at h
   exact rG J J J J<|rG J J J J<|rG J J J J<|rG J J J J<|rG J J J J<|rG J J J J<|rG J J J J<|rE J J J<|rN<|ab.stop<|ak.lq [0,0,0,0] ⟨false,h,J⟩ J J
 ·rintro aL ⟨c1,h,rfl⟩
  unfold mI at h
  refine cB h J (fun h=>?_) (fun h=>?_)
  ·refine aN<|aQ (xs:=([(0:Int),(2:Int),(1:Int)]).map I) J J J J J J<|rM J J<|ai.qv (aH J) J<|rF J J J<|rL J J .p0 J J<|ai.qv (cu J) J<|ai.qv (bl J J) J<|ai.qv (aW J J J) J<|aF h fun v2 e1 h=>ai.qv (bz J J J e1 J J) J<|ai.qv (aW J J J) J<|rA J J<|rN<|ab.ret<|?_
   cases h
   exact hH J [0,0,0,0] J ⟨J,J⟩
  ·refine tK<|aN<|rA J J<|rA J J<|rN<|tS<|aN<|rM J J<|ai.qv (aH J) J<|rF J J J<|rL J J .p0 J J<|ai.qv (cu J) J<|ai.qv (bl J J) J<|ai.qv (aW J J J) J<|rN<|ab.block<|aN<|ai.qv (dw J J) J<|rA J J<|rN<|ab.cut (fun aL=>∃ (n3:Int) (n4:Int),jb aa n3 n4=some r∧aL=⟨140,[(0,.ptr bc 0),(4,I n3),(5,I n4)],[(bc,.cells [.bJ [.str aa.au.Key,.str aa.au.ax,I aa.au.eI,I aa.au.bh,.bool aa.au.bj,I aa.au.On,I aa.au.eJ,I aa.au.bR,I aa.au.Rest,I aa.au.Empty],.sl 2 cI cQ.length aa.ba.length,.sl 2 cJ dp.length aa.bE.length,.sl 2 cK dq.length aa.bW.length,I aa.iZ,I aa.bF,I aa.ck,.bool aa.bK,I aa.cm,.func dD dE]),(cI,dC (cQ++aa.ba)),(cJ,dC (dp++aa.bE)),(cK,dC (dq++aa.bW))]⟩) ?_ ?_
   ·refine cD h J (fun h=>?_) (fun h=>?_)
    ·exact tR<|rM J J<|ai.qv (aH J) J<|rF J J J<|rL J J .p0 J J<|rM J J<|ai.qv (bT J J) J<|aF h fun v5 e2 h=>ai.qv (jh (Ps:=cQ) (Xs:=aa.ba) J J J e2) J<|ai.qv (bC J J) J<|ai.qv (nC (g:=ae.av) (Ps:=cQ) (Xs:=aa.ba) J J .p1 e2 J) J<|rA J J<|rN<|ab.stop<|ak.lq [0,0,0,0] ⟨v5.bU,(1:Int),h,J⟩ J J
    ·refine aN<|ai.qv (dw J J) J<|rA J J<|rN<|ab.cut (fun aL=>∃ (n6:Int) (n7:Int),dz aa n6 n7=some r∧aL=⟨140,[(0,.ptr bc 0),(4,I n6),(5,I n7)],[(bc,.cells [.bJ [.str aa.au.Key,.str aa.au.ax,I aa.au.eI,I aa.au.bh,.bool aa.au.bj,I aa.au.On,I aa.au.eJ,I aa.au.bR,I aa.au.Rest,I aa.au.Empty],.sl 2 cI cQ.length aa.ba.length,.sl 2 cJ dp.length aa.bE.length,.sl 2 cK dq.length aa.bW.length,I aa.iZ,I aa.bF,I aa.ck,.bool aa.bK,I aa.cm,.func dD dE]),(cI,dC (cQ++aa.ba)),(cJ,dC (dp++aa.bE)),(cK,dC (dq++aa.bW))]⟩) ?_ ?_
     ·refine cD h J (fun h=>?_) (fun h=>?_)
      ·exact tR<|rM J J<|ai.qv (aH J) J<|rF J J J<|rL J J .p0 J J<|aF h fun v8 e3 h=>ai.qv (jh (Ps:=dp) (Xs:=aa.bE) J J J e3) J<|ai.qv (bC J J) J<|ai.qv (nC (g:=ae.av) (Ps:=dp) (Xs:=aa.bE) J J .p2 e3 J) J<|rA J J<|rN<|ab.stop<|ak.lq [0,0,0,0] ⟨v8.bU,(1:Int),h,J⟩ J J
      ·refine aN<|ai.qv (dw J J) J<|rA J J<|rN<|ab.cut (fun aL=>∃ (n9:Int) (n10:Int),ej aa n9 n10=some r∧aL=⟨140,[(0,.ptr bc 0),(4,I n9),(5,I n10)],[(bc,.cells [.bJ [.str aa.au.Key,.str aa.au.ax,I aa.au.eI,I aa.au.bh,.bool aa.au.bj,I aa.au.On,I aa.au.eJ,I aa.au.bR,I aa.au.Rest,I aa.au.Empty],.sl 2 cI cQ.length aa.ba.length,.sl 2 cJ dp.length aa.bE.length,.sl 2 cK dq.length aa.bW.length,I aa.iZ,I aa.bF,I aa.ck,.bool aa.bK,I aa.cm,.func dD dE]),(cI,dC (cQ++aa.ba)),(cJ,dC (dp++aa.bE)),(cK,dC (dq++aa.bW))]⟩) ?_ ?_
       ·refine cD h J (fun h=>?_) (fun h=>?_)
        ·exact tR<|rM J J<|ai.qv (aH J) J<|rF J J J<|rL J J .p0 J J<|aF h fun v11 e4 h=>ai.qv (jh (Ps:=dq) (Xs:=aa.bW) J J J e4) J<|ai.qv (bC J J) J<|ai.qv (nC (g:=ae.av) (Ps:=dq) (Xs:=aa.bW) J J .p3 e4 J) J<|rA J J<|rN<|ab.stop<|ak.lq [0,0,0,0] ⟨v11.bU,(1:Int),h,J⟩ J J
        ·refine aN<|ai.qv (dw J J) J<|rA J J<|rN<|ab.cut (fun aL=>∃ (n12:Int) (n13:Int),fB aa n12 n13=some r∧aL=⟨140,[(0,.ptr bc 0),(4,I n12),(5,I n13)],[(bc,.cells [.bJ [.str aa.au.Key,.str aa.au.ax,I aa.au.eI,I aa.au.bh,.bool aa.au.bj,I aa.au.On,I aa.au.eJ,I aa.au.bR,I aa.au.Rest,I aa.au.Empty],.sl 2 cI cQ.length aa.ba.length,.sl 2 cJ dp.length aa.bE.length,.sl 2 cK dq.length aa.bW.length,I aa.iZ,I aa.bF,I aa.ck,.bool aa.bK,I aa.cm,.func dD dE]),(cI,dC (cQ++aa.ba)),(cJ,dC (dp++aa.bE)),(cK,dC (dq++aa.bW))]⟩) ?_ ?_
         ·refine cD h J (fun h=>?_) (fun h=>?_)
          ·exact tR<|rM J J<|ai.qv (aH J) J<|rF J J J<|rL J J .p0 J J<|rM J J<|rA J J<|rA J J<|rN<|ab.stop<|ak.lq [0,0,0,0] ⟨aa.iZ,(aa.ba.length:Int),h,J⟩ J J
          ·refine aN<|ai.qv (dw J J) J<|rA J J<|rN<|ab.cut (fun aL=>∃ (n14:Int),gz aa n14=some r∧aL=⟨140,[(0,.ptr bc 0),(4,I n14),(5,I (1:Int))],[(bc,.cells [.bJ [.str aa.au.Key,.str aa.au.ax,I aa.au.eI,I aa.au.bh,.bool aa.au.bj,I aa.au.On,I aa.au.eJ,I aa.au.bR,I aa.au.Rest,I aa.au.Empty],.sl 2 cI cQ.length aa.ba.length,.sl 2 cJ dp.length aa.bE.length,.sl 2 cK dq.length aa.bW.length,I aa.iZ,I aa.bF,I aa.ck,.bool aa.bK,I aa.cm,.func dD dE]),(cI,dC (cQ++aa.ba)),(cJ,dC (dp++aa.bE)),(cK,dC (dq++aa.bW))]⟩) ?_ ?_
           ·refine cD h J (fun h=>?_) (fun h=>?_)
            ·exact tR<|rM J J<|rA J J<|rN<|ab.stop<|ak.lq [0,0,0,0] ⟨(aa.ba.length:Int),h,J⟩ J J
            ·refine aN<|ai.qv (dw J J) J<|rA J J<|rN<|ab.cut (fun aL=>∃ (n15:Int),kF aa n15=some r∧aL=⟨140,[(0,.ptr bc 0),(4,I n15),(5,I (1:Int))],[(bc,.cells [.bJ [.str aa.au.Key,.str aa.au.ax,I aa.au.eI,I aa.au.bh,.bool aa.au.bj,I aa.au.On,I aa.au.eJ,I aa.au.bR,I aa.au.Rest,I aa.au.Empty],.sl 2 cI cQ.length aa.ba.length,.sl 2 cJ dp.length aa.bE.length,.sl 2 cK dq.length aa.bW.length,I aa.iZ,I aa.bF,I aa.ck,.bool aa.bK,I aa.cm,.func dD dE]),(cI,dC (cQ++aa.ba)),(cJ,dC (dp++aa.bE)),(cK,dC (dq++aa.bW))]⟩) ?_ ?_
             ·refine cD h J (fun h=>?_) (fun h=>?_)
              ·exact ab.bM (id:=17) (A:=[0,1,3,7,0,16,63,127,255,0,512,1536,3584,7680,15872,32256,65535,131071]) 18 mixed J (by kernel_rfl) (by kernel_rfl)<|AM.qv (ay J) J<|AM.qv (aH J) J<|AM.qv (aC J J) J<|AM.qv (aJ J J .p0 J) J<|AM.qv (ay J) J<|AM.qv (bT J J) J<|aF h fun gx e5 h=>AM.qv (jh (Ps:=cQ) (Xs:=aa.ba) J J J e5) J<|AM.qv (bC J J) J<|AM.qv (nC (g:=ae.av) (Ps:=cQ) (Xs:=aa.ba) J J .p1 e5 J) J<|AM.qv (ay J) J<|AM.qv (aH J) J<|AM.qv (aC J J) J<|AM.qv (aJ J J .p0 J) J<|aF h fun v17 e6 h=>AM.qv (jh (Ps:=cQ) (Xs:=aa.ba) J J J e6) J<|AM.qv (bC J J) J<|AM.qv (nC (g:=ae.av) (Ps:=cQ) (Xs:=aa.ba) J J .p1 e6 J) J<|AM.qv (bT J J) J<|AM.qv (bY J) J<|AM.nil<|rN<|ab.stop<|ak.lq [0,0,0,0] ⟨aU (gx.bU - v17.bU),h,J⟩ J J
              ·exact tK<|ab.stop<|ak.lq [0,0,0,0] ⟨(0:Int),h,J⟩ J J
             ·rintro aL ⟨n15,h,rfl⟩
              unfold kF at h
              exact ab.stop<|ak.lq [0,0,0,0] ⟨n15,h,J⟩ J J
           ·rintro aL ⟨n14,h,rfl⟩
            unfold gz at h
            exact ab.stop<|ak.lq [0,0,0,0] ⟨n14,(1:Int),h,J⟩ J J
         ·rintro aL ⟨n12,n13,h,rfl⟩
          unfold fB at h
          exact ab.stop<|ak.lq [0,0,0,0] ⟨n12,n13,h,J⟩ J J
       ·rintro aL ⟨n9,n10,h,rfl⟩
        unfold ej at h
        exact ab.stop<|ak.lq [0,0,0,0] ⟨n9,n10,h,J⟩ J J
     ·rintro aL ⟨n6,n7,h,rfl⟩
      unfold dz at h
      exact ab.stop<|ak.lq [0,0,0,0] ⟨n6,n7,h,J⟩ J J
   ·rintro aL ⟨n3,n4,h,rfl⟩
    unfold jb at h
    refine ab.cd<|tS<|ab.bM (id:=18) (A:=[0,1,3,7,15,31,63,0,255,0,512,1536,3584,7680,15872,32256,0,130560,511,524287]) 20 mixed J (by kernel_rfl) (by kernel_rfl)<|AM.qv (ay J) J<|AM.qv (aH J) J<|AM.qv (aC J J) J<|AM.qv (aJ J J .p0 J) J<|AM.qv (cu J) J<|AM.qv (bl J J) J<|AM.qv (aW J J J) J<|AM.qv (ay J) J<|AM.qv (u4 J J) J<|AM.qv (ay J) J<|AM.qv (aH J) J<|AM.qv (aC J J) J<|AM.qv (aJ J J .p0 J) J<|AM.qv (cu J) J<|AM.qv (bl J J) J<|AM.qv (aW J J J) J<|AM.qv (ay J) J<|AM.qv (u4 J J) J<|AM.qv (bY J) J<|AM.qv (bY J) J<|AM.nil<|rN<|tS<|aN<|rM J J<|ai.qv (aH J) J<|rF J J J<|rL J J .p0 J J<|ai.qv (cu J) J<|ai.qv (bl J J) J<|ai.qv (aW J J J) J<|ai.qv (cL J) J<|rN<|ab.cut (fun aL=>∃ (n18:Int) (n19:Int) (n20:Int),kE n18 n19 n20=some r∧aL=⟨140,[(4,I n18),(6,I n19),(7,I n20)],[(bc,.cells [.bJ [.str aa.au.Key,.str aa.au.ax,I aa.au.eI,I aa.au.bh,.bool aa.au.bj,I aa.au.On,I aa.au.eJ,I aa.au.bR,I aa.au.Rest,I aa.au.Empty],.sl 2 cI cQ.length aa.ba.length,.sl 2 cJ dp.length aa.bE.length,.sl 2 cK dq.length aa.bW.length,I aa.iZ,I aa.bF,I aa.ck,.bool aa.bK,I aa.cm,.func dD dE]),(cI,dC (cQ++aa.ba)),(cJ,dC (dp++aa.bE)),(cK,dC (dq++aa.bW))]⟩) ?_ ?_
    ·refine cB h J (fun h=>?_) (fun h=>?_)
     ·exact tR<|rM J J<|ai.qv (y9 J) J<|rM J J<|ai.qv (y9 J) J<|rM J J<|ai.qv (y9 J) J<|rA J J<|rA J J<|rA J J<|rN<|ab.stop<|ak.lq [0,0,0,0] ⟨aU (-n3),aU (-(aU (aa.au.On * n4))),aU (-(aU (aa.au.eJ * n4))),h,J⟩ J J
     ·exact tK<|ab.stop<|ak.lq [0,0,0,0] ⟨n3,aU (aa.au.On * n4),aU (aa.au.eJ * n4),h,J⟩ J J
    ·rintro aL ⟨n18,n19,n20,h,rfl⟩
     unfold kE at h
     refine tS<|ab.block<|aN<|rM J J<|rM J J<|ai.qv (rD J J) J<|rA J J<|rN<|cD h J (fun h=>?_) (fun h=>?_)
     ·refine aN<|rA J J<|rN<|ab.ret<|?_
      cases h
      exact hH J [0,0,0,0] J ⟨J,J⟩
     ·refine aN<|rM J J<|rM J J<|ai.qv (bB J J) J<|rA J J<|rN<|cD h J (fun h=>?_) (fun h=>?_)
      ·refine aN<|rA J J<|rN<|ab.ret<|?_
       cases h
       exact hH J [0,0,0,0] J ⟨J,J⟩
      ·refine tK<|ab.cd<|aN<|rA J J<|rN<|ab.ret<|?_
       cases h
       exact hH J [0,0,0,0] J ⟨J,J⟩
theorem Cz [GI:bI] {Wt:Fn} {Wu:List AV} {aa:aG} {r:aK} (h:ov aa=some r):aM Tryz.prog 160 [.bJ [.str aa.Key,.str aa.ax,I aa.eI,I aa.bh,.bool aa.bj,I aa.On,I aa.eJ,I aa.bR,I aa.Rest,I aa.Empty],.func Wt Wu] [] (T7 (fun gr Ot Ou Ov Ow Ox Oy=>[(gr,.cells [.bJ [.str aa.Key,.str aa.ax,I aa.eI,I aa.bh,.bool aa.bj,I aa.On,I aa.eJ,I aa.bR,I aa.Rest,I aa.Empty],.sl 2 Ot Ou.length r.ba.length,.sl 2 Ov Ow.length r.bE.length,.sl 2 Ox Oy.length r.bW.length,I r.iZ,I r.bF,I r.ck,.bool r.bK,I r.cm,.func Wt Wu]),(Ot,dC (Ou++r.ba)),(Ov,dC (Ow++r.bE)),(Ox,dC (Oy++r.bW))]) (fun gr Ot Ou Ov Ow Ox Oy=>.ptr gr 0)):=by
 unfold ov at h
 refine aM.dx ?_
 refine aM.bt Tryz.func160 J Tryz.ntmps160 Tryz.results160 J J ?_
 refine aN<|rA J J<|rN<|aN<|rM J J<|rM J J<|ai.qv (cq J J J J J) J<|df J J J J fun b1=>rA J J<|rN<|aN<|rM J J<|rM J J<|aF h fun v2 e1 h=>ai.ghost<|ak.Gu (j:=1) 2 (fun _=>.p0) J (fun _=>J) (fun _=>J) fun b3=>ak.here<|ai.ghost<|ak.TG (b:=b3) (o:=dC []) (o':=dC (([]:List ae)++([]:List ae))) J .p0<|ak.here<|ai.ghost<|ak.DA (b:=b1) (j:=1) (av:=.sl 2 b3 0 ([]:List ae).length) (dF:=.sl 2 b3 ([]:List ae).length ([]:List ae).length) .p1 J J J<|ak.here<|ai.ghost<|ak.Gu (j:=2) 2 (fun _=>.p1) J (fun _=>J) (fun _=>J) fun b4=>ak.here<|ai.ghost<|ak.TG (b:=b4) (o:=dC []) (o':=dC (([]:List ae)++([]:List ae))) J .p0<|ak.here<|ai.ghost<|ak.DA (b:=b1) (j:=2) (av:=.sl 2 b4 0 ([]:List ae).length) (dF:=.sl 2 b4 ([]:List ae).length ([]:List ae).length) .p2 J J J<|ak.here<|ai.ghost<|ak.Gu (j:=3) 2 (fun _=>.p2) J (fun _=>J) (fun _=>J) fun b5=>ak.here<|ai.ghost<|ak.TG (b:=b5) (o:=dC []) (o':=dC (([]:List ae)++([]:List ae))) J .p0<|ak.here<|ai.ghost<|ak.DA (b:=b1) (j:=3) (av:=.sl 2 b5 0 ([]:List ae).length) (dF:=.sl 2 b5 ([]:List ae).length ([]:List ae).length) .p3 J J J<|ak.here<|bd J (vB e1) cR (.cons .p3 (.cons .p2 (.cons .p1 (.cons .p0 .nil)))) J J<|ai.qv (aH J) J<|rF J J J<|aD J J J J .p0 J J<|rN<|aN<|rM J J<|rA J J<|rN<|ab.ret<|?_
 cases h
 exact hH J [0,0,0,0] J ⟨b1,b3,([]:List ae),b4,([]:List ae),b5,([]:List ae),J,J⟩
theorem uQ [GI:bI] {bc:Bk} {cI:Bk} {cQ:List ae} {cJ:Bk} {dp:List ae} {cK:Bk} {dq:List ae} {dD:Fn} {dE:List AV} {aa:aK} {r:Int} (h:dT aa=r):aM Tryz.prog 220 [.ptr bc 0] [(bc,.cells [.bJ [.str aa.au.Key,.str aa.au.ax,I aa.au.eI,I aa.au.bh,.bool aa.au.bj,I aa.au.On,I aa.au.eJ,I aa.au.bR,I aa.au.Rest,I aa.au.Empty],.sl 2 cI cQ.length aa.ba.length,.sl 2 cJ dp.length aa.bE.length,.sl 2 cK dq.length aa.bW.length,I aa.iZ,I aa.bF,I aa.ck,.bool aa.bK,I aa.cm,.func dD dE]),(cI,dC (cQ++aa.ba)),(cJ,dC (dp++aa.bE)),(cK,dC (dq++aa.bW))] (T0 ([(bc,.cells [.bJ [.str aa.au.Key,.str aa.au.ax,I aa.au.eI,I aa.au.bh,.bool aa.au.bj,I aa.au.On,I aa.au.eJ,I aa.au.bR,I aa.au.Rest,I aa.au.Empty],.sl 2 cI cQ.length aa.ba.length,.sl 2 cJ dp.length aa.bE.length,.sl 2 cK dq.length aa.bW.length,I aa.iZ,I aa.bF,I aa.ck,.bool aa.bK,I aa.cm,.func dD dE]),(cI,dC (cQ++aa.ba)),(cJ,dC (dp++aa.bE)),(cK,dC (dq++aa.bW))]) (I r)):=by
 unfold dT at h
 refine aM.dx ?_
 refine aM.bt Tryz.func220 J Tryz.ntmps220 Tryz.results220 J J ?_
 refine aN<|rA J J<|rN<|tS<|ab.block<|tS<|ab.cut (fun aL=>∃ (c1:Bool),lQ aa c1=r∧aL=⟨52,[(0,.ptr bc 0),(3,.bool c1)],[(bc,.cells [.bJ [.str aa.au.Key,.str aa.au.ax,I aa.au.eI,I aa.au.bh,.bool aa.au.bj,I aa.au.On,I aa.au.eJ,I aa.au.bR,I aa.au.Rest,I aa.au.Empty],.sl 2 cI cQ.length aa.ba.length,.sl 2 cJ dp.length aa.bE.length,.sl 2 cK dq.length aa.bW.length,I aa.iZ,I aa.bF,I aa.ck,.bool aa.bK,I aa.cm,.func dD dE]),(cI,dC (cQ++aa.ba)),(cJ,dC (dp++aa.bE)),(cK,dC (dq++aa.bW))]⟩) ?_ ?_
 ·refine tR<|rM J J<|ai.qv (aH J) J<|rF J J J<|rL J J .p0 J J<|ai.qv (cL J) J<|rM J J<|ai.guard J J J (fun hc=>?_) (fun hc=>?_)
  ·rw [H9 hc] at h
   exact rM J J<|rY J J J<|ai.qv (aH J) J<|rY J J J<|rF J J J<|rY J J J<|rL J J .p0 J J<|rY J J J<|ai.qv (dw J J) J<|rT J J J<|rA J J<|rN<|ab.stop<|ak.lq [0,0,0,0] ⟨decide (aa.bF=(1:Int)),h,J⟩ J J
  ·rw [Ia hc] at h
   exact rG J J J J<|rG J J J J<|rG J J J J<|rG J J J J<|rE J J J<|rA J J<|rN<|ab.stop<|ak.lq [0,0,0,0] ⟨false,h,J⟩ J J
 ·rintro aL ⟨c1,h,rfl⟩
  unfold lQ at h
  refine cB h J (fun h=>?_) (fun h=>?_)
  ·refine tS<|ab.bM (id:=2) (A:=[0,1,3,7,0,16,48,112,240,496,1008,2047,4095]) 13 mixed J (by kernel_rfl) (by kernel_rfl)<|AM.qv (ay J) J<|AM.qv (aH J) J<|AM.qv (aC J J) J<|AM.qv (aJ J J .p0 J) J<|AM.qv (ay J) J<|AM.qv (aH J) J<|AM.qv (aC J J) J<|AM.qv (aJ J J .p0 J) J<|AM.qv (cu J) J<|AM.qv (bl J J) J<|AM.qv (aW J J J) J<|AM.qv (a8 J J) J<|AM.qv (bY J) J<|AM.nil<|rN<|ab.ret<|?_
   obtain rfl:=h
   exact hH J [0,0,0,0] J ⟨J,J⟩
  ·refine tS<|ab.cut (fun aL=>∃ (c2:Bool),lP aa c2=r∧aL=⟨52,[(0,.ptr bc 0),(28,.bool c2)],[(bc,.cells [.bJ [.str aa.au.Key,.str aa.au.ax,I aa.au.eI,I aa.au.bh,.bool aa.au.bj,I aa.au.On,I aa.au.eJ,I aa.au.bR,I aa.au.Rest,I aa.au.Empty],.sl 2 cI cQ.length aa.ba.length,.sl 2 cJ dp.length aa.bE.length,.sl 2 cK dq.length aa.bW.length,I aa.iZ,I aa.bF,I aa.ck,.bool aa.bK,I aa.cm,.func dD dE]),(cI,dC (cQ++aa.ba)),(cJ,dC (dp++aa.bE)),(cK,dC (dq++aa.bW))]⟩) ?_ ?_
   ·refine tR<|rM J J<|ai.qv (aH J) J<|rF J J J<|rL J J .p0 J J<|rM J J<|ai.guard J J J (fun hc=>?_) (fun hc=>?_)
    ·rw [H9 hc] at h
     exact rM J J<|rY J J J<|ai.qv (aH J) J<|rY J J J<|rF J J J<|rY J J J<|rL J J .p0 J J<|rY J J J<|ai.qv (dw J J) J<|rT J J J<|rA J J<|rN<|ab.stop<|ak.lq [0,0,0,0] ⟨decide (aa.bF=(2:Int)),h,J⟩ J J
    ·rw [Ia hc] at h
     exact rG J J J J<|rG J J J J<|rG J J J J<|rG J J J J<|rE J J J<|rA J J<|rN<|ab.stop<|ak.lq [0,0,0,0] ⟨false,h,J⟩ J J
   ·rintro aL ⟨c2,h,rfl⟩
    unfold lP at h
    refine cB h J (fun h=>?_) (fun h=>?_)
    ·refine tS<|ab.bM (id:=4) (A:=[0,1,3,7,0,16,48,112,240,496,1008,2047,4095]) 13 mixed J (by kernel_rfl) (by kernel_rfl)<|AM.qv (ay J) J<|AM.qv (aH J) J<|AM.qv (aC J J) J<|AM.qv (aJ J J .p0 J) J<|AM.qv (ay J) J<|AM.qv (aH J) J<|AM.qv (aC J J) J<|AM.qv (aJ J J .p0 J) J<|AM.qv (cu J) J<|AM.qv (bl J J) J<|AM.qv (aW J J J) J<|AM.qv (a8 J J) J<|AM.qv (bY J) J<|AM.nil<|rN<|ab.ret<|?_
     obtain rfl:=h
     exact hH J [0,0,0,0] J ⟨J,J⟩
    ·refine tK<|ab.cd<|aN<|rA J J<|rN<|ab.ret<|?_
     obtain rfl:=h
     exact hH J [0,0,0,0] J ⟨J,J⟩
theorem Bc [GI:bI] {bc:Bk} {cI:Bk} {cQ:List ae} {cJ:Bk} {dp:List ae} {cK:Bk} {dq:List ae} {dD:Fn} {dE:List AV} {aa:aK} {r:Int} (h:ng aa=some r):aM Tryz.prog 217 [.ptr bc 0] [(bc,.cells [.bJ [.str aa.au.Key,.str aa.au.ax,I aa.au.eI,I aa.au.bh,.bool aa.au.bj,I aa.au.On,I aa.au.eJ,I aa.au.bR,I aa.au.Rest,I aa.au.Empty],.sl 2 cI cQ.length aa.ba.length,.sl 2 cJ dp.length aa.bE.length,.sl 2 cK dq.length aa.bW.length,I aa.iZ,I aa.bF,I aa.ck,.bool aa.bK,I aa.cm,.func dD dE]),(cI,dC (cQ++aa.ba)),(cJ,dC (dp++aa.bE)),(cK,dC (dq++aa.bW))] (T0 ([(bc,.cells [.bJ [.str aa.au.Key,.str aa.au.ax,I aa.au.eI,I aa.au.bh,.bool aa.au.bj,I aa.au.On,I aa.au.eJ,I aa.au.bR,I aa.au.Rest,I aa.au.Empty],.sl 2 cI cQ.length aa.ba.length,.sl 2 cJ dp.length aa.bE.length,.sl 2 cK dq.length aa.bW.length,I aa.iZ,I aa.bF,I aa.ck,.bool aa.bK,I aa.cm,.func dD dE]),(cI,dC (cQ++aa.ba)),(cJ,dC (dp++aa.bE)),(cK,dC (dq++aa.bW))]) (I r)):=by
 unfold ng at h
 refine aM.dx ?_
 refine aM.bt Tryz.func217 J Tryz.ntmps217 Tryz.results217 J J ?_
 refine aN<|rA J J<|rN<|aN<|rM J J<|bd J (uQ J) cR (.cons .p0 (.cons .p0 (.cons .p0 (.cons .p0 .nil)))) J J<|ai.qv (zJ J J) J<|rA J J<|rN<|tS<|aN<|rM J J<|ai.qv (aH J) J<|rF J J J<|rL J J .p0 J J<|ai.qv (tB J) J<|ai.qv (jl J J) J<|rN<|ab.cut (fun aL=>∃ (n1:Int),kG n1=some r∧aL=⟨31,[(3,I n1)],[(bc,.cells [.bJ [.str aa.au.Key,.str aa.au.ax,I aa.au.eI,I aa.au.bh,.bool aa.au.bj,I aa.au.On,I aa.au.eJ,I aa.au.bR,I aa.au.Rest,I aa.au.Empty],.sl 2 cI cQ.length aa.ba.length,.sl 2 cJ dp.length aa.bE.length,.sl 2 cK dq.length aa.bW.length,I aa.iZ,I aa.bF,I aa.ck,.bool aa.bK,I aa.cm,.func dD dE]),(cI,dC (cQ++aa.ba)),(cJ,dC (dp++aa.bE)),(cK,dC (dq++aa.bW))]⟩) ?_ ?_
 ·refine cD h J (fun h=>?_) (fun h=>?_)
  ·exact ab.bM (id:=3) (A:=[0,0,2,6,14,30,62,126,0,256,768,1792,3840,7936,16128,32766,65535,131071]) 18 mixed J (by kernel_rfl) (by kernel_rfl)<|AM.qv (ay J) J<|AM.qv (ay J) J<|AM.qv (aH J) J<|AM.qv (aC J J) J<|AM.qv (aJ J J .p0 J) J<|aF h fun v2 e1 h=>AM.qv (jh (Ps:=cQ) (Xs:=aa.ba) J J J e1) J<|AM.qv (bC J J) J<|AM.qv (nC (g:=ae.av) (Ps:=cQ) (Xs:=aa.ba) J J .p1 e1 J) J<|AM.qv (ay J) J<|AM.qv (aH J) J<|AM.qv (aC J J) J<|AM.qv (aJ J J .p0 J) J<|AM.qv (cu J) J<|AM.qv (bl J J) J<|AM.qv (aW J J J) J<|AM.qv (a8 J J) J<|AM.qv (zJ J J) J<|AM.qv (bY J) J<|AM.nil<|rN<|ab.stop<|ak.lq [0,0,0,0] ⟨min (min (dT aa) (345686400000:Int)) (aU (v2.at_+aa.au.bh)),h,J⟩ J J
  ·exact tK<|ab.stop<|ak.lq [0,0,0,0] ⟨min (dT aa) (345686400000:Int),h,J⟩ J J
 ·rintro aL ⟨n1,h,rfl⟩
  unfold kG at h
  refine aN<|rM J J<|rA J J<|rN<|ab.ret<|?_
  cases h
  exact hH J [0,0,0,0] J ⟨J,J⟩
theorem uR [GI:bI] {bc:Bk} {cI:Bk} {cQ:List ae} {cJ:Bk} {dp:List ae} {cK:Bk} {dq:List ae} {dD:Fn} {dE:List AV} {aa:aK} {aj:Int} {r:aK} (h:ml aa aj=some r):aM Tryz.prog 218 [.ptr bc 0,I aj] [(bc,.cells [.bJ [.str aa.au.Key,.str aa.au.ax,I aa.au.eI,I aa.au.bh,.bool aa.au.bj,I aa.au.On,I aa.au.eJ,I aa.au.bR,I aa.au.Rest,I aa.au.Empty],.sl 2 cI cQ.length aa.ba.length,.sl 2 cJ dp.length aa.bE.length,.sl 2 cK dq.length aa.bW.length,I aa.iZ,I aa.bF,I aa.ck,.bool aa.bK,I aa.cm,.func dD dE]),(cI,dC (cQ++aa.ba)),(cJ,dC (dp++aa.bE)),(cK,dC (dq++aa.bW))] (T6 (fun uf ug uh ui uj uk=>[(bc,.cells [.bJ [.str aa.au.Key,.str aa.au.ax,I aa.au.eI,I aa.au.bh,.bool aa.au.bj,I aa.au.On,I aa.au.eJ,I aa.au.bR,I aa.au.Rest,I aa.au.Empty],.sl 2 uf ug.length r.ba.length,.sl 2 uh ui.length r.bE.length,.sl 2 uj uk.length r.bW.length,I r.iZ,I r.bF,I r.ck,.bool r.bK,I r.cm,.func dD dE]),(uf,dC (ug++r.ba)),(uh,dC (ui++r.bE)),(uj,dC (uk++r.bW))]) (fun uf ug uh ui uj uk=>.lA [])):=by
 unfold ml at h
 refine aM.dx ?_
 refine aM.bt Tryz.func218 J Tryz.ntmps218 Tryz.results218 J J ?_
 refine ab.block<|ab.bV (fun x:(List ae)×(List ae)×(List ae)×Int=>fY aa aj x.1 x.2.1 x.2.2.1 x.2.2.2) (fun x aL=>∃ (r9:List ae) (Oz:List ae) (Mp:List ae),aL=⟨85,[(0,.ptr bc 0),(1,I aj)],[(bc,.cells [.bJ [.str aa.au.Key,.str aa.au.ax,I aa.au.eI,I aa.au.bh,.bool aa.au.bj,I aa.au.On,I aa.au.eJ,I aa.au.bR,I aa.au.Rest,I aa.au.Empty],.sl 2 cI r9.length x.1.length,.sl 2 cJ Oz.length x.2.1.length,.sl 2 cK Mp.length x.2.2.1.length,I x.2.2.2,I aa.bF,I aa.ck,.bool aa.bK,I aa.cm,.func dD dE]),(cI,dC (r9++x.1)),(cJ,dC (Oz++x.2.1)),(cK,dC (Mp++x.2.2.1))]⟩) h ?_ ?_
 ·exact ak.lq [0,0,0,0] ⟨cQ,dp,dq,J⟩ J J
 ·intro x z1 aL J1 cT h im fw
  obtain ⟨l8,l10,jI,n14⟩:=x
  obtain ⟨r9,Oz,Mp,rfl⟩:=cT
  replace h:fY aa aj l8 l10 jI n14=some z1:=h
  unfold fY at h
  refine tS<|tS<|ab.cut (fun aL=>∃ (II:Bool),dN aa l8 l10 jI n14 II=some z1∧aL=⟨85,[(0,.ptr bc 0),(1,I aj),(29,.bool II)],[(bc,.cells [.bJ [.str aa.au.Key,.str aa.au.ax,I aa.au.eI,I aa.au.bh,.bool aa.au.bj,I aa.au.On,I aa.au.eJ,I aa.au.bR,I aa.au.Rest,I aa.au.Empty],.sl 2 cI r9.length l8.length,.sl 2 cJ Oz.length l10.length,.sl 2 cK Mp.length jI.length,I n14,I aa.bF,I aa.ck,.bool aa.bK,I aa.cm,.func dD dE]),(cI,dC (r9++l8)),(cJ,dC (Oz++l10)),(cK,dC (Mp++jI))]⟩) ?_ ?_
  ·refine ab.bM (id:=0) (A:=[0,1,3,7,15,31,63,127,255,511,1023,2047,4095,8191,127,16511,49279,114815,245887,508031,1032319,2097151,127,8388607,16777215]) 25 mixed J (by kernel_rfl) (by kernel_rfl)<|AM.qv (ay J) J<|AM.qv (aH J) J<|AM.qv (aC J J) J<|AM.qv (aJ J J .p0 J) J<|AM.qv (tB J) J<|AM.qv (jl J J) J<|AM.qv (ay J) J<|AM.ct J J J (fun hc=>?_) (fun hc=>?_)
   ·exact have h:=sC hc h;AM.qv (ay J) J<|AM.aB J J J<|AM.qv (aH J) J<|AM.aB J J J<|AM.qv (aC J J) J<|AM.aB J J J<|AM.qv (aJ J J .p0 J) J<|AM.aB J J J<|aF h fun gx e1 h=>AM.qv (jh (Ps:=r9) (Xs:=l8) J J J e1) J<|AM.aB J J J<|AM.qv (bC J J) J<|AM.aB J J J<|AM.qv (nC (g:=ae.av) (Ps:=r9) (Xs:=l8) J J .p1 e1 J) J<|AM.aB J J J<|AM.qv (ay J) J<|AM.aB J J J<|AM.qv (aH J) J<|AM.aB J J J<|AM.qv (aC J J) J<|AM.aB J J J<|AM.qv (aJ J J .p0 J) J<|AM.aB J J J<|AM.qv (cu J) J<|AM.aB J J J<|AM.qv (bl J J) J<|AM.aB J J J<|AM.qv (aW J J J) J<|AM.aB J J J<|AM.qv (a8 J J) J<|AM.aB J J J<|AM.qv (ay J) J<|AM.aB J J J<|AM.qv (vn J J) J<|AM.qv (il J J) J<|AM.nil<|rN<|ab.stop<|ak.lq [0,0,0,0] ⟨decide ((aU (gx.at_+aa.au.bh))≤aj),h,J⟩ J J
   ·exact have h:=vq hc h;AM.az J J J J<|AM.az J J J J<|AM.az J J J J<|AM.az J J J J<|AM.az J J J J<|AM.az J J J J<|AM.az J J J J<|AM.az J J J J<|AM.az J J J J<|AM.az J J J J<|AM.az J J J J<|AM.az J J J J<|AM.az J J J J<|AM.az J J J J<|AM.az J J J J<|AM.az J J J J<|AM.qv (dR J J) J<|AM.nil<|rN<|ab.stop<|ak.lq [0,0,0,0] ⟨false,h,J⟩ J J
  ·rintro aL ⟨II,h,rfl⟩
   unfold dN at h
   refine cB h J (fun h=>?_) (fun h=>?_)
   ·refine tK<|ab.block<|aN<|rM J J<|ai.qv (aH J) J<|rF J J J<|rL J J .p0 J J<|aF h fun v17 e2 h=>ai.qv (jh (Ps:=r9) (Xs:=l8) J J J e2) J<|ai.qv (u9 (g:=ae.av) (Ps:=r9) (Xs:=l8) J J .p1 J e2 J) J<|bH J J J J fun uS=>aD J J J J .p0 J J<|rN<|aN<|rM J J<|rM J J<|ai.qv (aH J) J<|rF J J J<|rL J J .p1 J J<|aF h fun lU e3 h=>ai.qv (tJ (Ps:=r9) (Xs:=l8) J J (.some _ _ _ J) .none J J e3) J<|ai.qv (aH J) J<|rF J J J<|aD J J J J .p1 J J<|ai.ghost<|ak.Oi (g:=ae.av) (Ps:=r9) (Xs:=l8) e3 (fun _=>.p2) fun Vg ZK=>ak.here<|ai.ghost<|ak.DA (j:=1) (dF:=.sl 2 cI Vg.length lU.length) .p1 J (congrArg (fun q=>AV.sl 2 cI q lU.length) ZK) J<|ak.here<|rN<|tS<|ab.bM (id:=3) (A:=[0,1,3,7,0,16,63,127,255,511]) 9 mixed J (by kernel_rfl) (by kernel_rfl)<|AM.qv (ay J) J<|AM.qv (aH J) J<|AM.qv (aC J J) J<|AM.qv (aJ J J .p1 J) J<|AM.qv (aC J J) J<|AM.qv (aJ J J .p0 J) J<|AM.qv (bT J J) J<|AM.qv (aH J) J<|AM.qv (aC J J) J<|AM.nil<|aD J J J J .p1 J J<|rN<|tS<|tS<|ab.bM (id:=4) (A:=[0,1,3,7,15,31,0,127]) 8 mixed J (by kernel_rfl) (by kernel_rfl)<|AM.qv (ay J) J<|AM.qv (aH J) J<|AM.qv (aC J J) J<|AM.qv (aJ J J .p1 J) J<|aF h fun v21 e5 h=>AM.qv (jh (Ps:=Oz) (Xs:=l10) J J J e5) J<|AM.qv (u9 (g:=ae.av) (Ps:=Oz) (Xs:=l10) J J .p3 J e5 J) J<|AM.qv (aA J J .p0 J) J<|AM.qv (Sc (g:=ae.av) (X:=v21) (Y:=v17) J J J J J) J<|AM.nil<|rN<|ab.cut (fun aL=>∃ (Vh:List ae) (va:List ae),fj jI n14 v17 lU va=some z1∧aL=⟨85,[(0,.ptr bc 0),(1,I aj),(4,.ptr uS 0)],[(bc,.cells [.bJ [.str aa.au.Key,.str aa.au.ax,I aa.au.eI,I aa.au.bh,.bool aa.au.bj,I aa.au.On,I aa.au.eJ,I aa.au.bR,I aa.au.Rest,I aa.au.Empty],.sl 2 cI Vg.length lU.length,.sl 2 cJ Vh.length va.length,.sl 2 cK Mp.length jI.length,I (aU (n14 - v17.bU)),I aa.bF,I aa.ck,.bool aa.bK,I aa.cm,.func dD dE]),(cI,dC (Vg++lU)),(cJ,dC (Vh++va)),(cK,dC (Mp++jI)),(uS,.cells [I v17.at_,I v17.bU])]⟩) ?_ ?_
    ·refine cD h J (fun h=>?_) (fun h=>?_)
     ·exact tR<|rM J J<|rM J J<|ai.qv (aH J) J<|rF J J J<|rL J J .p1 J J<|aF h fun qN e6 h=>ai.qv (tJ (Ps:=Oz) (Xs:=l10) J J (.some _ _ _ J) .none J J e6) J<|ai.qv (aH J) J<|rF J J J<|aD J J J J .p1 J J<|ai.ghost<|ak.Oi (g:=ae.av) (Ps:=Oz) (Xs:=l10) e6 (fun _=>.p3) fun TN ZL=>ak.here<|ai.ghost<|ak.DA (j:=2) (dF:=.sl 2 cJ TN.length qN.length) .p1 J (congrArg (fun q=>AV.sl 2 cJ q qN.length) ZL) J<|ak.here<|rN<|ab.stop<|ak.lq [1,1,1,1,0] ⟨TN,qN,h,J⟩ J J
     ·exact tK<|ab.stop<|ak.lq [1,1,1,1,0] ⟨Oz,l10,h,J⟩ J J
    ·rintro aL ⟨Vh,va,h,rfl⟩
     unfold fj at h
     refine tS<|ab.bM (id:=6) (A:=[0,1,3,7,15,31,0,127]) 8 mixed J (by kernel_rfl) (by kernel_rfl)<|AM.qv (ay J) J<|AM.qv (aH J) J<|AM.qv (aC J J) J<|AM.qv (aJ J J .p0 J) J<|aF h fun v26 e8 h=>AM.qv (jh (Ps:=Mp) (Xs:=jI) J J J e8) J<|AM.qv (u9 (g:=ae.av) (Ps:=Mp) (Xs:=jI) J J .p3 J e8 J) J<|AM.qv (aA J J .p4 J) J<|AM.qv (Sc (g:=ae.av) (X:=v26) (Y:=v17) J J J J J) J<|AM.nil<|rN<|ab.cut (fun aL=>∃ (Ya:List ae) (EG:List ae),jS n14 v17 lU va EG=some z1∧aL=⟨85,[(0,.ptr bc 0),(1,I aj)],[(bc,.cells [.bJ [.str aa.au.Key,.str aa.au.ax,I aa.au.eI,I aa.au.bh,.bool aa.au.bj,I aa.au.On,I aa.au.eJ,I aa.au.bR,I aa.au.Rest,I aa.au.Empty],.sl 2 cI Vg.length lU.length,.sl 2 cJ Vh.length va.length,.sl 2 cK Ya.length EG.length,I (aU (n14 - v17.bU)),I aa.bF,I aa.ck,.bool aa.bK,I aa.cm,.func dD dE]),(cI,dC (Vg++lU)),(cJ,dC (Vh++va)),(cK,dC (Ya++EG))]⟩) ?_ ?_
     ·refine cD h J (fun h=>?_) (fun h=>?_)
      ·exact tR<|rM J J<|rM J J<|ai.qv (aH J) J<|rF J J J<|rL J J .p0 J J<|aF h fun vb e9 h=>ai.qv (tJ (Ps:=Mp) (Xs:=jI) J J (.some _ _ _ J) .none J J e9) J<|ai.qv (aH J) J<|rF J J J<|aD J J J J .p0 J J<|ai.ghost<|ak.Oi (g:=ae.av) (Ps:=Mp) (Xs:=jI) e9 (fun _=>.p3) fun r30 Wv=>ak.here<|ai.ghost<|ak.DA (j:=3) (dF:=.sl 2 cK r30.length vb.length) .p0 J (congrArg (fun q=>AV.sl 2 cK q vb.length) Wv) J<|ak.here<|rN<|ab.stop<|ak.lq [0,0,0,0] ⟨r30,vb,h,J⟩ J J
      ·exact tK<|ab.stop<|ak.lq [0,0,0,0] ⟨Mp,jI,h,J⟩ J J
     ·rintro aL ⟨Ya,EG,h,rfl⟩
      unfold jS at h
      refine ab.cd<|ab.stop<|?_
      cases h
      exact im _ _ J<|ak.lq [0,0,0,0] ⟨Vg,Vh,Ya,J⟩ J J
   ·refine ab.exit J<|have h:=cr h fw;ab.nil<|?_
    cases h
    exact ak.here ⟨_,.nil,_,.cons .p0 (.cons .p0 (.cons .p0 (.cons .p0 .nil))),⟨cI,r9,cJ,Oz,cK,Mp,J,J⟩⟩
theorem sR [GI:bI] {bc:Bk} {cI:Bk} {cQ:List ae} {cJ:Bk} {dp:List ae} {cK:Bk} {dq:List ae} {dD:Fn} {dE:List AV} {aa:aK} {aj:Int} {r:aK} (h:jc aa aj=some r):aM Tryz.prog 219 [.ptr bc 0,I aj] [(bc,.cells [.bJ [.str aa.au.Key,.str aa.au.ax,I aa.au.eI,I aa.au.bh,.bool aa.au.bj,I aa.au.On,I aa.au.eJ,I aa.au.bR,I aa.au.Rest,I aa.au.Empty],.sl 2 cI cQ.length aa.ba.length,.sl 2 cJ dp.length aa.bE.length,.sl 2 cK dq.length aa.bW.length,I aa.iZ,I aa.bF,I aa.ck,.bool aa.bK,I aa.cm,.func dD dE]),(cI,dC (cQ++aa.ba)),(cJ,dC (dp++aa.bE)),(cK,dC (dq++aa.bW))] (T6 (fun uf ug uh ui uj uk=>[(bc,.cells [.bJ [.str aa.au.Key,.str aa.au.ax,I aa.au.eI,I aa.au.bh,.bool aa.au.bj,I aa.au.On,I aa.au.eJ,I aa.au.bR,I aa.au.Rest,I aa.au.Empty],.sl 2 uf ug.length r.ba.length,.sl 2 uh ui.length r.bE.length,.sl 2 uj uk.length r.bW.length,I r.iZ,I r.bF,I r.ck,.bool r.bK,I r.cm,.func dD dE]),(uf,dC (ug++r.ba)),(uh,dC (ui++r.bE)),(uj,dC (uk++r.bW))]) (fun uf ug uh ui uj uk=>.lA [])):=by
 unfold jc at h
 refine aM.dx ?_
 refine aM.bt Tryz.func219 J Tryz.ntmps219 Tryz.results219 J J ?_
 refine aN<|rM J J<|aF h fun v1 e1 h=>bd J (vB e1) cR (.cons .p0 (.cons .p0 (.cons .p0 (.cons .p0 .nil)))) J J<|rA J J<|rN<|aN<|rM J J<|rM J J<|ai.qv (aH J) J<|rF J J J<|rL J J .p0 J J<|ai.qv (lW J J) J<|rN<|ab.cut (fun aL=>∃ (n2:Int) (n3:Int),iU aa n2 n3=some r∧aL=⟨21,[],[(bc,.cells [.bJ [.str aa.au.Key,.str aa.au.ax,I aa.au.eI,I aa.au.bh,.bool aa.au.bj,I aa.au.On,I aa.au.eJ,I aa.au.bR,I aa.au.Rest,I aa.au.Empty],.sl 2 cI cQ.length aa.ba.length,.sl 2 cJ dp.length aa.bE.length,.sl 2 cK dq.length aa.bW.length,I aa.iZ,I n2,I n3,.bool aa.bK,I aa.cm,.func dD dE]),(cI,dC (cQ++aa.ba)),(cJ,dC (dp++aa.bE)),(cK,dC (dq++aa.bW))]⟩) ?_ ?_
 ·refine cD h J (fun h=>?_) (fun h=>?_)
  ·exact tR<|rM J J<|rM J J<|rM J J<|rM J J<|ai.qv (aH J) J<|rF J J J<|aD J J J J .p0 J J<|ai.qv (aH J) J<|rF J J J<|aD J J J J .p0 J J<|rN<|ab.stop<|ak.lq [0,0,0,0] ⟨v1,aj,h,J⟩ J J
  ·exact tK<|ab.stop<|ak.lq [0,0,0,0] ⟨aa.bF,aa.ck,h,J⟩ J J
 ·rintro aL ⟨n2,n3,h,rfl⟩
  unfold iU at h
  refine ab.nil<|?_
  cases h
  exact ak.here ⟨_,.nil,_,.cons .p0 (.cons .p0 (.cons .p0 (.cons .p0 .nil))),⟨cI,cQ,cJ,dp,cK,dq,J,J⟩⟩
theorem Ab [GI:bI] {J8:Bk} {yM:Bk} {aa:Int} {aj:Bool} {ar:List aZ} {r:(List aZ)} (h:kr aa aj ar=some r):aM Tryz.prog 161 [I aa,.bool aj,.ptr J8 0] [(J8,.cells [.sl 2 yM 0 ar.length]),(yM,Mn ar)] (T1 (fun DW=>[(J8,.cells [.sl 2 DW 0 r.length]),(DW,Mn r)]) (fun DW=>.lA [])):=by
 unfold kr at h
 refine aM.dx ?_
 refine aM.bt Tryz.func161 J Tryz.ntmps161 Tryz.results161 J J ?_
 refine aN<|rM J J<|rN<|ab.cut (fun aL=>∃ (b1:Bk) (l2:List aZ),iz l2=some r∧aL=⟨18,[],[(J8,.cells [.sl 2 b1 0 l2.length]),(b1,Mn l2)]⟩) ?_ ?_
 ·refine cB h J (fun h=>?_) (fun h=>?_)
  ·exact tR<|rL J J .p0 J J<|rM J J<|ai.qv (cq J J J J J) J<|aQ (xs:=([(⟨aa,(345686400000:Int)⟩:aZ)]).map aZ.av) J J J J J J<|aF h fun l3 e1 h=>cA (g:=aZ.av) J J J J J J J J (.list _) e1 (fun _=>.p1) J fun b4=>aD J J J J .p0 J J<|rN<|ab.stop<|ak.lq [0,0] ⟨b4,l3,h,J⟩ J J
  ·exact tR<|rL J J .p0 J J<|rL J J .p0 J J<|ai.qv (cE J) J<|ai.qv (bT J J) J<|rM J J<|aF h fun v5 e2 h=>ai.qv (aV J J J e2) J<|ai.qv (bC J J) J<|bX (g:=aZ.av) (za:=(⟨v5.from_,aa⟩:aZ)) J J J J e2 J .p1 J<|ai.ghost<|ak.eqs (s:=11) (dF:=.sl 2 yM 0 (ar.set (aU ((ar.length:Int) - (1:Int))).toNat (⟨v5.from_,aa⟩:aZ)).length) J (by rw [List.length_set])<|ak.here<|ai.ghost<|ak.eqs (s:=12) (dF:=.sl 2 yM 0 (ar.set (aU ((ar.length:Int) - (1:Int))).toNat (⟨v5.from_,aa⟩:aZ)).length) J (by rw [List.length_set])<|ak.here<|ai.ghost<|ak.DA (j:=0) (dF:=.sl 2 yM 0 (ar.set (aU ((ar.length:Int) - (1:Int))).toNat (⟨v5.from_,aa⟩:aZ)).length) .p0 J (by rw [List.length_set]) J<|ak.here<|rN<|ab.stop<|ak.lq [0,0] ⟨yM,ar.set (aU ((ar.length:Int) - (1:Int))).toNat (⟨v5.from_,aa⟩:aZ),h,J⟩ J J
 ·rintro aL ⟨b1,l2,h,rfl⟩
  unfold iz at h
  refine ab.nil<|?_
  cases h
  exact ak.here ⟨_,.nil,_,.cons .p0 (.cons .p0 .nil),⟨b1,J,J⟩⟩
theorem gY [GI:bI] {bc:Bk} {cI:Bk} {cQ:List ae} {cJ:Bk} {dp:List ae} {cK:Bk} {dq:List ae} {J8:Bk} {yM:Bk} {aa:aK} {aj:Int} {ar:List aZ} {r:aK×(List aZ)} (h:bS aa aj ar=some r):aM Tryz.prog 162 [.ptr bc 0,I aj] [(bc,.cells [.bJ [.str aa.au.Key,.str aa.au.ax,I aa.au.eI,I aa.au.bh,.bool aa.au.bj,I aa.au.On,I aa.au.eJ,I aa.au.bR,I aa.au.Rest,I aa.au.Empty],.sl 2 cI cQ.length aa.ba.length,.sl 2 cJ dp.length aa.bE.length,.sl 2 cK dq.length aa.bW.length,I aa.iZ,I aa.bF,I aa.ck,.bool aa.bK,I aa.cm,.func (.func 161) [.ptr J8 0]]),(cI,dC (cQ++aa.ba)),(cJ,dC (dp++aa.bE)),(cK,dC (dq++aa.bW)),(J8,.cells [.sl 2 yM 0 ar.length]),(yM,Mn ar)] (T7 (fun uf ug uh ui uj uk DW=>[(bc,.cells [.bJ [.str aa.au.Key,.str aa.au.ax,I aa.au.eI,I aa.au.bh,.bool aa.au.bj,I aa.au.On,I aa.au.eJ,I aa.au.bR,I aa.au.Rest,I aa.au.Empty],.sl 2 uf ug.length r.1.ba.length,.sl 2 uh ui.length r.1.bE.length,.sl 2 uj uk.length r.1.bW.length,I r.1.iZ,I r.1.bF,I r.1.ck,.bool r.1.bK,I r.1.cm,.func (.func 161) [.ptr J8 0]]),(uf,dC (ug++r.1.ba)),(uh,dC (ui++r.1.bE)),(uj,dC (uk++r.1.bW)),(J8,.cells [.sl 2 DW 0 r.2.length]),(DW,Mn r.2)]) (fun uf ug uh ui uj uk DW=>.lA [])):=by
 unfold bS at h
 refine aM.dx ?_
 refine aM.bt Tryz.func162 J Tryz.ntmps162 Tryz.results162 J J ?_
 refine ab.block<|ab.bV (fun x:(List ae)×(List ae)×(List ae)×Int×Int×Int×Bool×Int×(List aZ)=>cj aa aj x.1 x.2.1 x.2.2.1 x.2.2.2.1 x.2.2.2.2.1 x.2.2.2.2.2.1 x.2.2.2.2.2.2.1 x.2.2.2.2.2.2.2.1 x.2.2.2.2.2.2.2.2) (fun x aL=>∃ (sS:Bk) (Yb:List ae) (Q4:Bk) (Yc:List ae) (K6:Bk) (TN:List ae) (Mq:Bk),aL=⟨47,[(0,.ptr bc 0),(1,I aj)],[(bc,.cells [.bJ [.str aa.au.Key,.str aa.au.ax,I aa.au.eI,I aa.au.bh,.bool aa.au.bj,I aa.au.On,I aa.au.eJ,I aa.au.bR,I aa.au.Rest,I aa.au.Empty],.sl 2 sS Yb.length x.1.length,.sl 2 Q4 Yc.length x.2.1.length,.sl 2 K6 TN.length x.2.2.1.length,I x.2.2.2.1,I x.2.2.2.2.1,I x.2.2.2.2.2.1,.bool x.2.2.2.2.2.2.1,I x.2.2.2.2.2.2.2.1,.func (.func 161) [.ptr J8 0]]),(sS,dC (Yb++x.1)),(Q4,dC (Yc++x.2.1)),(K6,dC (TN++x.2.2.1)),(J8,.cells [.sl 2 Mq 0 x.2.2.2.2.2.2.2.2.length]),(Mq,Mn x.2.2.2.2.2.2.2.2)]⟩) h ?_ ?_
 ·exact ak.lq [0,0,0,0,0,0] ⟨cI,cQ,cJ,dp,cK,dq,yM,J⟩ J J
 ·intro x z1 aL J1 cT h im fw
  obtain ⟨dL,Mj,qN,n26,n27,n28,TH,n30,zg⟩:=x
  obtain ⟨sS,Yb,Q4,Yc,K6,TN,Mq,rfl⟩:=cT
  replace h:cj aa aj dL Mj qN n26 n27 n28 TH n30 zg=some z1:=h
  unfold cj at h
  refine ab.block<|aN<|rM J J<|aF h fun v33 e1 h=>bd J (Bc e1) cR (.cons .p0 (.cons .p0 (.cons .p0 (.cons .p0 .nil)))) J J<|rA J J<|rN<|tS<|aN<|rM J J<|rM J J<|ai.qv (zJ J J) J<|ai.qv (rD J J) J<|rN<|cD h J (fun h=>?_) (fun h=>?_)
  ·refine ab.ret<|have h:=cr h fw;?_
   cases h
   exact ak.here ⟨_,.nil,_,.cons .p0 (.cons .p0 (.cons .p0 (.cons .p0 (.cons .p0 (.cons .p0 .nil))))),⟨sS,Yb,Q4,Yc,K6,TN,Mq,J,J⟩⟩
  ·refine tK<|aN<|rM J J<|rM J J<|aF h fun vm e2 h=>zW J (uR e2) cR (.cons .p0 (.cons .p0 (.cons .p0 (.cons .p0 .nil)))) (fun _ _ _ _ _ _=>J) J fun Vi r36 ZM r38 b39 r40=>rN<|aN<|rM J J<|rM J J<|aF h fun v41 e3 h=>zW J (sR e3) cR (.cons .p0 (.cons .p0 (.cons .p0 (.cons .p0 .nil)))) (fun _ _ _ _ _ _=>J) J fun Ww Wx Q6 Wy Vj Wz=>rN<|aN<|rM J J<|bd J (uQ (J:dT (⟨aa.au,v41.ba,v41.bE,v41.bW,v41.iZ,v41.bF,v41.ck,v41.bK,v41.cm⟩:aK)=_)) cR (.cons .p0 (.cons .p0 (.cons .p0 (.cons .p0 .nil)))) J J<|rM J J<|ai.qv (dw J J) J<|rN<|ab.cut (fun aL=>∃ (WA:Bk) (Om:Bool) (n49:Int) (Vd:List aZ),ch v41 Om n49 Vd=some z1∧aL=⟨47,[(0,.ptr bc 0),(1,I aj)],[(bc,.cells [.bJ [.str aa.au.Key,.str aa.au.ax,I aa.au.eI,I aa.au.bh,.bool aa.au.bj,I aa.au.On,I aa.au.eJ,I aa.au.bR,I aa.au.Rest,I aa.au.Empty],.sl 2 Ww Wx.length v41.ba.length,.sl 2 Q6 Wy.length v41.bE.length,.sl 2 Vj Wz.length v41.bW.length,I v41.iZ,I v41.bF,I v41.ck,.bool Om,I n49,.func (.func 161) [.ptr J8 0]]),(Ww,dC (Wx++v41.ba)),(Q6,dC (Wy++v41.bE)),(Vj,dC (Wz++v41.bW)),(J8,.cells [.sl 2 WA 0 Vd.length]),(WA,Mn Vd)]⟩) ?_ ?_
   ·refine cD h J (fun h=>?_) (fun h=>?_)
    ·refine aN<|rM J J<|rM J J<|ai.qv (aH J) J<|rF J J J<|rL J J .p0 J J<|ai.qv (cL J) J<|ai.qv (aH J) J<|rF J J J<|aD J J J J .p0 J J<|rN<|tS<|aN<|rM J J<|ai.qv (aH J) J<|rF J J J<|rL J J .p0 J J<|rN<|ab.cut (fun aL=>∃ (n52:Int),bN zg v33 v41 n52=some z1∧aL=⟨47,[(0,.ptr bc 0),(1,I aj),(4,I v33)],[(bc,.cells [.bJ [.str aa.au.Key,.str aa.au.ax,I aa.au.eI,I aa.au.bh,.bool aa.au.bj,I aa.au.On,I aa.au.eJ,I aa.au.bR,I aa.au.Rest,I aa.au.Empty],.sl 2 Ww Wx.length v41.ba.length,.sl 2 Q6 Wy.length v41.bE.length,.sl 2 Vj Wz.length v41.bW.length,I v41.iZ,I v41.bF,I v41.ck,.bool (!v41.bK),I n52,.func (.func 161) [.ptr J8 0]]),(Ww,dC (Wx++v41.ba)),(Q6,dC (Wy++v41.bE)),(Vj,dC (Wz++v41.bW)),(J8,.cells [.sl 2 Mq 0 zg.length]),(Mq,Mn zg)]⟩) ?_ ?_
     ·refine cB h J (fun h=>?_) (fun h=>?_)
      ·exact tR<|rM J J<|rM J J<|ai.qv (aH J) J<|rF J J J<|aD J J J J .p0 J J<|rN<|ab.stop<|ak.lq [0,0,0,0,0,0] ⟨v33,h,J⟩ J J
      ·exact tK<|ab.stop<|ak.lq [0,0,0,0,0,0] ⟨v41.cm,h,J⟩ J J
     ·rintro aL ⟨n52,h,rfl⟩
      unfold bN at h
      exact ab.bM (id:=8) (A:=[0,1,3,7,0,0,32,96,224,511]) 9 mixed J (by kernel_rfl) (by kernel_rfl)<|AM.qv (ay J) J<|AM.qv (aH J) J<|AM.qv (aC J J) J<|AM.qv (aJ J J .p0 J) J<|AM.qv (ay J) J<|AM.qv (ay J) J<|AM.qv (aH J) J<|AM.qv (aC J J) J<|AM.qv (aJ J J .p0 J) J<|AM.nil<|aF h fun v53 e4 h=>NF J J J (Ab e4) cR (.cons .p4 (.cons .p4 .nil)) (fun _=>J) J fun ZN=>rN<|ab.stop<|ak.lq [2,2,2,2,0,0] ⟨ZN,!v41.bK,n52,v53,h,J⟩ J J
    ·exact tK<|ab.stop<|ak.lq [0,0,0,0,0,0] ⟨Mq,v41.bK,v41.cm,zg,h,J⟩ J J
   ·rintro aL ⟨WA,Om,n49,Vd,h,rfl⟩
    unfold ch at h
    refine ab.cd<|ab.stop<|?_
    cases h
    exact im _ _ J<|ak.lq [0,0,0,0,0,0] ⟨Ww,Wx,Q6,Wy,Vj,Wz,WA,J⟩ J J
theorem Bd [GI:bI] {bc:Bk} {cI:Bk} {cQ:List ae} {cJ:Bk} {dp:List ae} {cK:Bk} {dq:List ae} {dD:Fn} {dE:List AV} {aa:aK} {aj:ae} {r:aK} (h:nh aa aj=some r):aM Tryz.prog 163 [.ptr bc 0,ae.av aj] [(bc,.cells [.bJ [.str aa.au.Key,.str aa.au.ax,I aa.au.eI,I aa.au.bh,.bool aa.au.bj,I aa.au.On,I aa.au.eJ,I aa.au.bR,I aa.au.Rest,I aa.au.Empty],.sl 2 cI cQ.length aa.ba.length,.sl 2 cJ dp.length aa.bE.length,.sl 2 cK dq.length aa.bW.length,I aa.iZ,I aa.bF,I aa.ck,.bool aa.bK,I aa.cm,.func dD dE]),(cI,dC (cQ++aa.ba)),(cJ,dC (dp++aa.bE)),(cK,dC (dq++aa.bW))] (T6 (fun uf ug uh ui uj uk=>[(bc,.cells [.bJ [.str aa.au.Key,.str aa.au.ax,I aa.au.eI,I aa.au.bh,.bool aa.au.bj,I aa.au.On,I aa.au.eJ,I aa.au.bR,I aa.au.Rest,I aa.au.Empty],.sl 2 uf ug.length r.ba.length,.sl 2 uh ui.length r.bE.length,.sl 2 uj uk.length r.bW.length,I r.iZ,I r.bF,I r.ck,.bool r.bK,I r.cm,.func dD dE]),(uf,dC (ug++r.ba)),(uh,dC (ui++r.bE)),(uj,dC (uk++r.bW))]) (fun uf ug uh ui uj uk=>.lA [])):=by
 unfold nh at h
 refine aM.dx ?_
 refine aM.bt Tryz.func163 J Tryz.ntmps163 Tryz.results163 J J ?_
 refine aN<|df J J J J fun b1=>rN<|aN<|rM J J<|rF J J J<|rL J J .p0 J J<|aF h fun v2 e1 h=>zW J (uR e1) cR (.cons .p1 (.cons .p1 (.cons .p1 (.cons .p1 .nil)))) (fun _ _ _ _ _ _=>J) J fun b3 r4 b5 r6 b7 r8=>rN<|tS<|aF h fun l9 e2 h=>ab.gj (id:=2) (A:=[0,0,2,6,14,0,32,126,255,511,1023]) (H0:=[(b3,dC (r4++v2.ba))]) (HH:=fun β=>[((β 7),dC ((mL b3 (β 7) r4)++l9)),(bc,.cells [.bJ [.str aa.au.Key,.str aa.au.ax,I aa.au.eI,I aa.au.bh,.bool aa.au.bj,I aa.au.On,I aa.au.eJ,I aa.au.bR,I aa.au.Rest,I aa.au.Empty],.sl 2 b3 r4.length v2.ba.length,.sl 2 b5 r6.length v2.bE.length,.sl 2 b7 r8.length v2.bW.length,I v2.iZ,I v2.bF,I v2.ck,.bool v2.bK,I v2.cm,.func dD dE]),(b5,dC (r6++v2.bE)),(b7,dC (r8++v2.bW)),(b1,.cells [I aj.at_,I aj.bU])]) 8 mixed J (by kernel_rfl) (by kernel_rfl) [⟨none,some 7,[],fun _=>(b3,dC (r4++v2.ba)),none,[]⟩,⟨some 7,none,[],fun b=>(b,dC ((mL b3 b r4)++l9)),none,[]⟩] [7] J (by kernel_rfl) J (.cons .p1 .nil) (fun _=>J)<|AT.am 7 J J<|AM.qv (ay J) J<|AM.qv (ay J) J<|AM.qv (aH J) J<|AM.qv (aC J J) J<|AM.qv (aJ J J .p0 J) J<|AM.qv (aA J J .p3 J) J<|AM.bZ (xs:=([aj]:List ae).map ae.av) J J J J J J<|AM.nil<|AT.yq (V:=fun b=>.sl 2 b (mL b3 b r4).length l9.length) (Ti:=[(b3,dC (r4++v2.ba))]) (Pi:=fun b=>[(b,dC ((mL b3 b r4)++l9))]) (fun _=>J) (fun _=>J) (fun _ _=>J) J (fun _=>J) J J J ?_ ?_
 ·exact A7 (g:=ae.av) (Ps:=r4) (Xs:=v2.ba) J J J J J J J J (.list _) e2 (fun _=>.p0) fun ja=>ai.nil ⟨ja,_,J,J⟩
 refine AT.sY (fun _=>J) fun β=>?_
 generalize β 7=ja
 clear β
 refine ai.qv (aH J) J<|rF J J J<|aD J J J J .p1 J J<|rN<|tS<|ab.bM (id:=3) (A:=[0,1,3,7,0,16,63,127,255,511]) 9 mixed J (by kernel_rfl) (by kernel_rfl)<|AM.qv (ay J) J<|AM.qv (aH J) J<|AM.qv (aC J J) J<|AM.qv (aJ J J .p1 J) J<|AM.qv (aC J J) J<|AM.qv (aJ J J .p4 J) J<|AM.qv (a8 J J) J<|AM.qv (aH J) J<|AM.qv (aC J J) J<|AM.nil<|aD J J J J .p1 J J<|rN<|tS<|aN<|rM J J<|ai.qv (aH J) J<|rF J J J<|rL J J .p1 J J<|ai.qv (tB J) J<|rA J J<|rN<|ab.block<|ab.bV (fun x:(List ae)×Int=>fD aa aj v2 l9 x.1 x.2) (fun x aL=>aL=⟨119,[(0,.ptr bc 0),(3,.ptr b1 0),(4,I x.2)],[(bc,.cells [.bJ [.str aa.au.Key,.str aa.au.ax,I aa.au.eI,I aa.au.bh,.bool aa.au.bj,I aa.au.On,I aa.au.eJ,I aa.au.bR,I aa.au.Rest,I aa.au.Empty],.sl 2 ja (mL b3 ja r4).length l9.length,.sl 2 b5 r6.length x.1.length,.sl 2 b7 r8.length v2.bW.length,I (aU (v2.iZ+aj.bU)),I v2.bF,I v2.ck,.bool v2.bK,I v2.cm,.func dD dE]),(ja,dC ((mL b3 ja r4)++l9)),(b5,dC (r6++x.1)),(b7,dC (r8++v2.bW)),(b1,.cells [I aj.at_,I aj.bU])]⟩) h ?_ ?_
 ·exact ak.lq [1,0,0,0,0] J J J
 ·intro x z1 aL J1 cT h im fw
  obtain ⟨jJ,n14⟩:=x
  obtain rfl:=cT
  replace h:fD aa aj v2 l9 jJ n14=some z1:=h
  unfold fD at h
  refine tS<|tS<|ab.cut (fun aL=>∃ (II:Bool),dB aa aj v2 l9 jJ n14 II=some z1∧aL=⟨119,[(0,.ptr bc 0),(3,.ptr b1 0),(4,I n14),(49,.bool II)],[(bc,.cells [.bJ [.str aa.au.Key,.str aa.au.ax,I aa.au.eI,I aa.au.bh,.bool aa.au.bj,I aa.au.On,I aa.au.eJ,I aa.au.bR,I aa.au.Rest,I aa.au.Empty],.sl 2 ja (mL b3 ja r4).length l9.length,.sl 2 b5 r6.length jJ.length,.sl 2 b7 r8.length v2.bW.length,I (aU (v2.iZ+aj.bU)),I v2.bF,I v2.ck,.bool v2.bK,I v2.cm,.func dD dE]),(ja,dC ((mL b3 ja r4)++l9)),(b5,dC (r6++jJ)),(b7,dC (r8++v2.bW)),(b1,.cells [I aj.at_,I aj.bU])]⟩) ?_ ?_
  ·refine ab.bM (id:=5) (A:=[0,1,3,7,15,31,63,7,135,511,1023,2047,7,4103,16383,32767]) 16 mixed J (by kernel_rfl) (by kernel_rfl)<|AM.qv (ay J) J<|AM.qv (jl J J) J<|AM.qv (ay J) J<|AM.ct J J J (fun hc=>?_) (fun hc=>?_)
   ·exact have h:=sC hc h;AM.qv (ay J) J<|AM.aB J J J<|AM.qv (aH J) J<|AM.aB J J J<|AM.qv (aC J J) J<|AM.aB J J J<|AM.qv (aJ J J .p0 J) J<|AM.aB J J J<|AM.qv (ay J) J<|AM.aB J J J<|AM.qv (bT J J) J<|AM.aB J J J<|aF h fun gx e3 h=>AM.qv (jh (Ps:=r6) (Xs:=jJ) J J J e3) J<|AM.aB J J J<|AM.qv (bC J J) J<|AM.aB J J J<|AM.qv (nC (g:=ae.av) (Ps:=r6) (Xs:=jJ) J J .p2 e3 J) J<|AM.aB J J J<|AM.qv (aC J J) J<|AM.aB J J J<|AM.qv (aJ J J .p4 J) J<|AM.aB J J J<|AM.qv (rD J J) J<|AM.qv (il J J) J<|AM.nil<|rN<|ab.stop<|ak.lq [0,0,0,0,0] ⟨decide (aj.bU≤gx.bU),h,J⟩ J J
   ·exact have h:=vq hc h;AM.az J J J J<|AM.az J J J J<|AM.az J J J J<|AM.az J J J J<|AM.az J J J J<|AM.az J J J J<|AM.az J J J J<|AM.az J J J J<|AM.az J J J J<|AM.az J J J J<|AM.az J J J J<|AM.qv (dR J J) J<|AM.nil<|rN<|ab.stop<|ak.lq [0,0,0,0,0] ⟨false,h,J⟩ J J
  ·rintro aL ⟨II,h,rfl⟩
   unfold dB at h
   refine cB h J (fun h=>?_) (fun h=>?_)
   ·refine tK<|tS<|ab.block<|tR<|rM J J<|rM J J<|ai.qv (aH J) J<|rF J J J<|rL J J .p0 J J<|rM J J<|ai.qv (bT J J) J<|aF h fun xw e4 h=>ai.qv (tJ (Ps:=r6) (Xs:=jJ) J J .none (.some _ _ _ J) J J e4) J<|ai.qv (aH J) J<|rF J J J<|aD J J J J .p0 J J<|ai.ghost<|ak.Oj (g:=ae.av) (Ps:=r6) (Xs:=jJ) e4 .p2<|ak.here<|rN<|ab.cd<|tR<|rM J J<|ai.qv (bT J J) J<|rA J J<|rN<|ab.stop<|?_
    cases h
    exact im _ _ J<|ak.lq [0,0,0,0,0] J J J
   ·refine ab.exit J<|have h:=cr h fw;?_
    unfold je at h
    refine tS<|aF h fun dL e5 h=>ab.gj (id:=8) (A:=[0,0,2,6,14,0,32,126,255,511,1023]) (H0:=[(b5,dC (r6++jJ))]) (HH:=fun β=>[((β 7),dC ((mL b5 (β 7) r6)++dL)),(bc,.cells [.bJ [.str aa.au.Key,.str aa.au.ax,I aa.au.eI,I aa.au.bh,.bool aa.au.bj,I aa.au.On,I aa.au.eJ,I aa.au.bR,I aa.au.Rest,I aa.au.Empty],.sl 2 ja (mL b3 ja r4).length l9.length,.sl 2 b5 r6.length jJ.length,.sl 2 b7 r8.length v2.bW.length,I (aU (v2.iZ+aj.bU)),I v2.bF,I v2.ck,.bool v2.bK,I v2.cm,.func dD dE]),(ja,dC ((mL b3 ja r4)++l9)),(b7,dC (r8++v2.bW)),(b1,.cells [I aj.at_,I aj.bU])]) 8 mixed J (by kernel_rfl) (by kernel_rfl) [⟨none,some 7,[],fun _=>(b5,dC (r6++jJ)),none,[]⟩,⟨some 7,none,[],fun b=>(b,dC ((mL b5 b r6)++dL)),none,[]⟩] [7] J (by kernel_rfl) J (.cons .p2 .nil) (fun _=>J)<|AT.am 7 J J<|AM.qv (ay J) J<|AM.qv (ay J) J<|AM.qv (aH J) J<|AM.qv (aC J J) J<|AM.qv (aJ J J .p0 J) J<|AM.qv (aA J J .p3 J) J<|AM.bZ (xs:=([aj]:List ae).map ae.av) J J J J J J<|AM.nil<|AT.yq (V:=fun b=>.sl 2 b (mL b5 b r6).length dL.length) (Ti:=[(b5,dC (r6++jJ))]) (Pi:=fun b=>[(b,dC ((mL b5 b r6)++dL))]) (fun _=>J) (fun _=>J) (fun _ _=>J) J (fun _=>J) J J J ?_ ?_
    ·exact A7 (g:=ae.av) (Ps:=r6) (Xs:=jJ) J J J J J J J J (.list _) e5 (fun _=>.p0) fun DX=>ai.nil ⟨DX,_,J,J⟩
    refine AT.sY (fun _=>J) fun β=>?_
    generalize β 7=DX
    clear β
    refine ai.qv (aH J) J<|rF J J J<|aD J J J J .p1 J J<|rN<|tS<|aN<|rM J J<|ai.qv (aH J) J<|rF J J J<|rL J J .p1 J J<|ai.qv (tB J) J<|rA J J<|rN<|ab.block<|ab.bV (fun x:(List ae)×Int=>fC aa aj v2 l9 dL x.1 x.2) (fun x aL=>aL=⟨119,[(0,.ptr bc 0),(3,.ptr b1 0),(5,I x.2)],[(bc,.cells [.bJ [.str aa.au.Key,.str aa.au.ax,I aa.au.eI,I aa.au.bh,.bool aa.au.bj,I aa.au.On,I aa.au.eJ,I aa.au.bR,I aa.au.Rest,I aa.au.Empty],.sl 2 ja (mL b3 ja r4).length l9.length,.sl 2 DX (mL b5 DX r6).length dL.length,.sl 2 b7 r8.length x.1.length,I (aU (v2.iZ+aj.bU)),I v2.bF,I v2.ck,.bool v2.bK,I v2.cm,.func dD dE]),(ja,dC ((mL b3 ja r4)++l9)),(DX,dC ((mL b5 DX r6)++dL)),(b7,dC (r8++x.1)),(b1,.cells [I aj.at_,I aj.bU])]⟩) h ?_ ?_
    ·exact ak.lq [1,1,0,0,0] J J J
    ·intro x z2 aL J2 cT h wb wR
     obtain ⟨va,n23⟩:=x
     obtain rfl:=cT
     replace h:fC aa aj v2 l9 dL va n23=some z2:=h
     unfold fC at h
     refine tS<|tS<|ab.cut (fun aL=>∃ (c24:Bool),dA aa aj v2 l9 dL va n23 c24=some z2∧aL=⟨119,[(0,.ptr bc 0),(3,.ptr b1 0),(5,I n23),(92,.bool c24)],[(bc,.cells [.bJ [.str aa.au.Key,.str aa.au.ax,I aa.au.eI,I aa.au.bh,.bool aa.au.bj,I aa.au.On,I aa.au.eJ,I aa.au.bR,I aa.au.Rest,I aa.au.Empty],.sl 2 ja (mL b3 ja r4).length l9.length,.sl 2 DX (mL b5 DX r6).length dL.length,.sl 2 b7 r8.length va.length,I (aU (v2.iZ+aj.bU)),I v2.bF,I v2.ck,.bool v2.bK,I v2.cm,.func dD dE]),(ja,dC ((mL b3 ja r4)++l9)),(DX,dC ((mL b5 DX r6)++dL)),(b7,dC (r8++va)),(b1,.cells [I aj.at_,I aj.bU])]⟩) ?_ ?_
     ·refine ab.bM (id:=10) (A:=[0,1,3,7,15,31,63,7,135,511,1023,2047,7,4103,16383,32767]) 16 mixed J (by kernel_rfl) (by kernel_rfl)<|AM.qv (ay J) J<|AM.qv (jl J J) J<|AM.qv (ay J) J<|AM.ct J J J (fun hc=>?_) (fun hc=>?_)
      ·exact have h:=sC hc h;AM.qv (ay J) J<|AM.aB J J J<|AM.qv (aH J) J<|AM.aB J J J<|AM.qv (aC J J) J<|AM.aB J J J<|AM.qv (aJ J J .p0 J) J<|AM.aB J J J<|AM.qv (ay J) J<|AM.aB J J J<|AM.qv (bT J J) J<|AM.aB J J J<|aF h fun v25 e6 h=>AM.qv (jh (Ps:=r8) (Xs:=va) J J J e6) J<|AM.aB J J J<|AM.qv (bC J J) J<|AM.aB J J J<|AM.qv (nC (g:=ae.av) (Ps:=r8) (Xs:=va) J J .p3 e6 J) J<|AM.aB J J J<|AM.qv (aC J J) J<|AM.aB J J J<|AM.qv (aJ J J .p4 J) J<|AM.aB J J J<|AM.qv (vn J J) J<|AM.qv (il J J) J<|AM.nil<|rN<|ab.stop<|ak.lq [0,0,0,0,0] ⟨decide (v25.bU≤aj.bU),h,J⟩ J J
      ·exact have h:=vq hc h;AM.az J J J J<|AM.az J J J J<|AM.az J J J J<|AM.az J J J J<|AM.az J J J J<|AM.az J J J J<|AM.az J J J J<|AM.az J J J J<|AM.az J J J J<|AM.az J J J J<|AM.az J J J J<|AM.qv (dR J J) J<|AM.nil<|rN<|ab.stop<|ak.lq [0,0,0,0,0] ⟨false,h,J⟩ J J
     ·rintro aL ⟨c24,h,rfl⟩
      unfold dA at h
      refine cB h J (fun h=>?_) (fun h=>?_)
      ·refine tK<|tS<|ab.block<|tR<|rM J J<|rM J J<|ai.qv (aH J) J<|rF J J J<|rL J J .p0 J J<|rM J J<|ai.qv (bT J J) J<|aF h fun Oo e7 h=>ai.qv (tJ (Ps:=r8) (Xs:=va) J J .none (.some _ _ _ J) J J e7) J<|ai.qv (aH J) J<|rF J J J<|aD J J J J .p0 J J<|ai.ghost<|ak.Oj (g:=ae.av) (Ps:=r8) (Xs:=va) e7 .p3<|ak.here<|rN<|ab.cd<|tR<|rM J J<|ai.qv (bT J J) J<|rA J J<|rN<|ab.stop<|?_
       cases h
       exact wb _ _ J<|ak.lq [0,0,0,0,0] J J J
      ·refine ab.exit J<|have h:=cr h wR;?_
       unfold jd at h
       refine tS<|aF h fun EG e8 h=>ab.gj (id:=13) (A:=[0,0,2,6,14,0,32,126,255,511,1023]) (H0:=[(b7,dC (r8++va))]) (HH:=fun β=>[((β 7),dC ((mL b7 (β 7) r8)++EG)),(bc,.cells [.bJ [.str aa.au.Key,.str aa.au.ax,I aa.au.eI,I aa.au.bh,.bool aa.au.bj,I aa.au.On,I aa.au.eJ,I aa.au.bR,I aa.au.Rest,I aa.au.Empty],.sl 2 ja (mL b3 ja r4).length l9.length,.sl 2 DX (mL b5 DX r6).length dL.length,.sl 2 b7 r8.length va.length,I (aU (v2.iZ+aj.bU)),I v2.bF,I v2.ck,.bool v2.bK,I v2.cm,.func dD dE]),(ja,dC ((mL b3 ja r4)++l9)),(DX,dC ((mL b5 DX r6)++dL)),(b1,.cells [I aj.at_,I aj.bU])]) 8 mixed J (by kernel_rfl) (by kernel_rfl) [⟨none,some 7,[],fun _=>(b7,dC (r8++va)),none,[]⟩,⟨some 7,none,[],fun b=>(b,dC ((mL b7 b r8)++EG)),none,[]⟩] [7] J (by kernel_rfl) J (.cons .p3 .nil) (fun _=>J)<|AT.am 7 J J<|AM.qv (ay J) J<|AM.qv (ay J) J<|AM.qv (aH J) J<|AM.qv (aC J J) J<|AM.qv (aJ J J .p0 J) J<|AM.qv (aA J J .p3 J) J<|AM.bZ (xs:=([aj]:List ae).map ae.av) J J J J J J<|AM.nil<|AT.yq (V:=fun b=>.sl 2 b (mL b7 b r8).length EG.length) (Ti:=[(b7,dC (r8++va))]) (Pi:=fun b=>[(b,dC ((mL b7 b r8)++EG))]) (fun _=>J) (fun _=>J) (fun _ _=>J) J (fun _=>J) J J J ?_ ?_
       ·exact A7 (g:=ae.av) (Ps:=r8) (Xs:=va) J J J J J J J J (.list _) e8 (fun _=>.p0) fun JC=>ai.nil ⟨JC,_,J,J⟩
       refine AT.sY (fun _=>J) fun β=>?_
       generalize β 7=JC
       clear β
       refine ai.qv (aH J) J<|rF J J J<|aD J J J J .p1 J J<|rN<|tR<|rM J J<|rF J J J<|rL J J .p4 J J<|aF h fun pn e9 h=>zW J (sR e9) cR (.cons .p1 (.cons .p1 (.cons .p1 (.cons .p0 .nil)))) (fun _ _ _ _ _ _=>J) J fun Mr WB M9 r33 K7 r35=>rN<|ab.nil<|?_
       cases h
       exact ak.here ⟨_,.nil,_,.cons .p0 (.cons .p0 (.cons .p0 (.cons .p0 .nil))),⟨Mr,WB,M9,r33,K7,r35,J,J⟩⟩
end Go.Proofs.YthamhifbccpcpaaGreatDoor
