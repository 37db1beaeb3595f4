/- The code computes the plain functions: proofs written by shal.py. -/
import Derived.Test.YtjgdilohhcheoaaGreatDoorLivP
import Derived.Test.YtjgdilohhcheoaaGreatDoorLib
set_option maxHeartbeats 4000000
set_option maxRecDepth 100000
set_option linter.unusedVariables false
set_option linter.unusedSimpArgs false
namespace Go.Proofs.YtjgdilohhcheoaaGreatDoor
open Go Go.Eng Go.Proofs Go.Beacon
attribute [local irreducible] ae aa AQ QV aG aj Nn AM
instance ZA:D0 Tryz.prog 32:=⟨by kernel_rfl⟩
instance ZB:kN Tryz.prog 32 2 Version.av:=⟨fun x y w S v u hv hu=>by
 obtain ⟨vs,rfl,hl,ha⟩:=At.iU hv
 obtain ⟨us,rfl,si,ux⟩:=At.iU hu
 obtain ⟨v0,p0,q0⟩:=gC.get hl ha (off:=0) rfl
 obtain ⟨u0,MJ,MK⟩:=gC.get si ux (off:=0) rfl
 obtain ⟨v1,p1,q1⟩:=gC.get hl ha (off:=1) rfl
 obtain ⟨u1,ML,MM⟩:=gC.get si ux (off:=1) rfl
 obtain ⟨v2,p2,q2⟩:=gC.get hl ha (off:=2) rfl
 obtain ⟨u2,R0,R3⟩:=gC.get si ux (off:=2) rfl
 refine rK.cast (rK.struct Tryz.underlying32 (by kernel_rfl) (.cons (by decide) (bz J p0) (bz J MJ) (rK.up (kN.h (g:=I) x.er y.er w S _ _ q0 MK) 0) (.cons (by decide) (bz J p1) (bz J ML) (rK.up (kN.h (g:=I) x.et y.et w S _ _ q1 MM) 0) (.cons (by decide) (bz J p2) (bz J R0) (rK.up (kN.h (g:=I) x.dY y.dY w S _ _ q2 R3) 0) .nil)))) ?_
 obtain ⟨_,_,_⟩:=x
 obtain ⟨_,_,_⟩:=y
 rw [Bool.eq_iff_iff];simp [and_assoc]⟩
instance ZC:D0 Tryz.prog 34:=⟨by kernel_rfl⟩
instance ZD:kN Tryz.prog 34 3 ai.av:=⟨fun x y w S v u hv hu=>by
 obtain ⟨vs,rfl,hl,ha⟩:=At.iU hv
 obtain ⟨us,rfl,si,ux⟩:=At.iU hu
 obtain ⟨v0,p0,q0⟩:=gC.get hl ha (off:=0) rfl
 obtain ⟨u0,MJ,MK⟩:=gC.get si ux (off:=0) rfl
 obtain ⟨v1,p1,q1⟩:=gC.get hl ha (off:=1) rfl
 obtain ⟨u1,ML,MM⟩:=gC.get si ux (off:=1) rfl
 obtain ⟨v2,p2,q2⟩:=gC.get hl ha (off:=2) rfl
 obtain ⟨u2,R0,R3⟩:=gC.get si ux (off:=2) rfl
 obtain ⟨v3,p3,q3⟩:=gC.get hl ha (off:=3) rfl
 obtain ⟨u3,p3',q3'⟩:=gC.get si ux (off:=3) rfl
 obtain ⟨v4,p4,q4⟩:=gC.get hl ha (off:=4) rfl
 obtain ⟨u4,p4',q4'⟩:=gC.get si ux (off:=4) rfl
 obtain ⟨v5,p5,q5⟩:=gC.get hl ha (off:=5) rfl
 obtain ⟨u5,p5',q5'⟩:=gC.get si ux (off:=5) rfl
 obtain ⟨v6,p6,q6⟩:=gC.get hl ha (off:=6) rfl
 obtain ⟨u6,p6',q6'⟩:=gC.get si ux (off:=6) rfl
 obtain ⟨v7,p7,q7⟩:=gC.get hl ha (off:=7) rfl
 obtain ⟨u7,p7',q7'⟩:=gC.get si ux (off:=7) rfl
 obtain ⟨v8,p8,q8⟩:=gC.get hl ha (off:=8) rfl
 obtain ⟨u8,L5,q8'⟩:=gC.get si ux (off:=8) rfl
 obtain ⟨v9,p9,q9⟩:=gC.get hl ha (off:=9) rfl
 obtain ⟨u9,p9',q9'⟩:=gC.get si ux (off:=9) rfl
 obtain ⟨v10,p10,Bh⟩:=gC.get hl ha (off:=10) rfl
 obtain ⟨u10,Vy,Vz⟩:=gC.get si ux (off:=10) rfl
 obtain ⟨v11,p11,vy⟩:=gC.get hl ha (off:=11) rfl
 obtain ⟨Zy,VA,VB⟩:=gC.get si ux (off:=11) rfl
 obtain ⟨v12,p12,Bi⟩:=gC.get hl ha (off:=12) rfl
 obtain ⟨u12,VC,VD⟩:=gC.get si ux (off:=12) rfl
 refine rK.cast (rK.struct Tryz.underlying34 (by kernel_rfl) (.cons (by decide) (bz J p0) (bz J MJ) (rK.up (kN.h (g:=AV.str) x.iB y.iB w S _ _ q0 MK) 1) (.cons (by decide) (bz J p1) (bz J ML) (rK.up (kN.h (g:=I) x.No y.No w S _ _ q1 MM) 1) (.cons (by decide) (bz J p2) (bz J R0) (rK.up (kN.h (g:=I) x.aW y.aW w S _ _ q2 R3) 1) (.cons (by decide) (bz J p3) (bz J p3') (rK.up (kN.h (g:=I) x.At y.At w S _ _ q3 q3') 1) (.cons (by decide) (bz J p4) (bz J p4') (rK.up (kN.h (g:=I) x.Kind y.Kind w S _ _ q4 q4') 1) (.cons (by decide) (bz J p5) (bz J p5') (rK.up (kN.h (g:=AV.str) x.Device y.Device w S _ _ q5 q5') 1) (.cons (by decide) (bz J p6) (bz J p6') (rK.up (kN.h (g:=AV.str) x.Model y.Model w S _ _ q6 q6') 1) (.cons (by decide) (bz J p7) (bz J p7') (rK.up (kN.h (g:=AV.str) x.aO y.aO w S _ _ q7 q7') 1) (.cons (by decide) (bz J p8) (bz J L5) (rK.up (kN.h (g:=I) x.aC y.aC w S _ _ q8 q8') 1) (.cons (by decide) (bz J p9) (bz J p9') (rK.up (kN.h (g:=AV.str) x.Key y.Key w S _ _ q9 q9') 1) (.cons (by decide) (bz J p10) (bz J Vy) (rK.up (kN.h (g:=AV.str) x.Name y.Name w S _ _ Bh Vz) 1) (.cons (by decide) (bz J p11) (bz J VA) (rK.up (kN.h (g:=AV.str) x.Value y.Value w S _ _ vy VB) 1) (.cons (by decide) (bz J p12) (bz J VC) (rK.up (kN.h (g:=I) x.bj y.bj w S _ _ Bi VD) 1) (.cons (by decide) (DZ J J) (DZ J J) (rK.up (kN.h (g:=Version.av) x.an y.an w S _ _ (gC.sub hl ha 13 3 (Nat.le_of_ble_eq_true J)) (gC.sub si ux 13 3 (Nat.le_of_ble_eq_true J))) 0) .nil))))))))))))))) ?_
 obtain ⟨_,_,_,_,_,_,_,_,_,_,_,_,_,_⟩:=x
 obtain ⟨_,_,_,_,_,_,_,_,_,_,_,_,_,_⟩:=y
 rw [Bool.eq_iff_iff];simp [and_assoc]⟩
instance VE:D0 Tryz.prog 117:=⟨by kernel_rfl⟩
instance VF:kN Tryz.prog 117 2 Term.av:=⟨fun x y w S v u hv hu=>by
 obtain ⟨vs,rfl,hl,ha⟩:=At.iU hv
 obtain ⟨us,rfl,si,ux⟩:=At.iU hu
 obtain ⟨v0,p0,q0⟩:=gC.get hl ha (off:=0) rfl
 obtain ⟨u0,MJ,MK⟩:=gC.get si ux (off:=0) rfl
 obtain ⟨v1,p1,q1⟩:=gC.get hl ha (off:=1) rfl
 obtain ⟨u1,ML,MM⟩:=gC.get si ux (off:=1) rfl
 obtain ⟨v2,p2,q2⟩:=gC.get hl ha (off:=2) rfl
 obtain ⟨u2,R0,R3⟩:=gC.get si ux (off:=2) rfl
 refine rK.cast (rK.struct Tryz.underlying117 (by kernel_rfl) (.cons (by decide) (bz J p0) (bz J MJ) (rK.up (kN.h (g:=AV.str) x.Key y.Key w S _ _ q0 MK) 0) (.cons (by decide) (bz J p1) (bz J ML) (rK.up (kN.h (g:=I) x.fE y.fE w S _ _ q1 MM) 0) (.cons (by decide) (bz J p2) (bz J R0) (rK.up (kN.h (g:=I) x.To y.To w S _ _ q2 R3) 0) .nil)))) ?_
 obtain ⟨_,_,_⟩:=x
 obtain ⟨_,_,_⟩:=y
 rw [Bool.eq_iff_iff];simp [and_assoc]⟩
instance VG:D0 Tryz.prog 166:=⟨by kernel_rfl⟩
instance VH:kN Tryz.prog 166 2 aY.av:=⟨fun x y w S v u hv hu=>by
 obtain ⟨vs,rfl,hl,ha⟩:=At.iU hv
 obtain ⟨us,rfl,si,ux⟩:=At.iU hu
 obtain ⟨v0,p0,q0⟩:=gC.get hl ha (off:=0) rfl
 obtain ⟨u0,MJ,MK⟩:=gC.get si ux (off:=0) rfl
 obtain ⟨v1,p1,q1⟩:=gC.get hl ha (off:=1) rfl
 obtain ⟨u1,ML,MM⟩:=gC.get si ux (off:=1) rfl
 refine rK.cast (rK.struct Tryz.underlying166 (by kernel_rfl) (.cons (by decide) (bz J p0) (bz J MJ) (rK.up (kN.h (g:=AV.str) x.Name y.Name w S _ _ q0 MK) 0) (.cons (by decide) (bz J p1) (bz J ML) (rK.up (kN.h (g:=AV.str) x.Value y.Value w S _ _ q1 MM) 0) .nil))) ?_
 obtain ⟨_,_⟩:=x
 obtain ⟨_,_⟩:=y
 rw [Bool.eq_iff_iff];simp [and_assoc]⟩
instance VI:kN Tryz.prog 179 2 bE.av:=⟨fun x y w S v u hv hu=>by
 obtain ⟨vs,rfl,hl,ha⟩:=At.iU hv
 obtain ⟨us,rfl,si,ux⟩:=At.iU hu
 obtain ⟨v0,p0,q0⟩:=gC.get hl ha (off:=0) rfl
 obtain ⟨u0,MJ,MK⟩:=gC.get si ux (off:=0) rfl
 obtain ⟨v1,p1,q1⟩:=gC.get hl ha (off:=1) rfl
 obtain ⟨u1,ML,MM⟩:=gC.get si ux (off:=1) rfl
 refine rK.cast (rK.struct Tryz.underlying179 (by kernel_rfl) (.cons (by decide) (bz J p0) (bz J MJ) (rK.up (kN.h (g:=AV.str) x.wx y.wx w S _ _ q0 MK) 0) (.cons (by decide) (bz J p1) (bz J ML) (rK.up (kN.h (g:=I) x.th y.th w S _ _ q1 MM) 0) .nil))) ?_
 obtain ⟨_,_⟩:=x
 obtain ⟨_,_⟩:=y
 rw [Bool.eq_iff_iff];simp [and_assoc]⟩
instance VJ:il Tryz.prog 179 bE.av:=il.struct (n:=2) J Tryz.underlying179 (fun f hf=>by
 simp only [List.mem_cons,List.not_mem_nil,or_false] at hf
 rcases hf with rfl | rfl
 ·exact ⟨_,ay.h (P:=Tryz.prog) (t:=9),J,by decide⟩
 ·exact ⟨_,ay.h (P:=Tryz.prog) (t:=3),J,by decide⟩) (fun x=>⟨_,J,J,fun c hc=>by
 simp only [List.mem_cons,List.not_mem_nil,or_false] at hc
 rcases hc with rfl | rfl<;>rfl⟩) (fun a b h=>by
 obtain ⟨_,_⟩:=a
 obtain ⟨_,_⟩:=b
 simpa [bE.av] using h)
abbrev ig (xs:List Int):AV:=.list 1 (xs.map I)
abbrev Tq (xs:List ax):AV:=.list 1 (xs.map AV.str)
abbrev Cj (xs:List aM):Ob:=.arr 4 (xs.map aM.av)
abbrev MN (xs:List Model):Ob:=.arr 3 (xs.map Model.av)
abbrev sa (xs:List Model):AV:=.list 3 (xs.map Model.av)
abbrev iS (xs:List ai):Ob:=.arr 16 (xs.map ai.av)
abbrev R4 (xs:List (ax×Int)):Ob:=.mp (xs.map (fun e=>(AV.str e.1,I e.2)))
abbrev Ay (xs:List ai):AV:=.list 16 (xs.map ai.av)
abbrev Bj (xs:List aM):AV:=.list 4 (xs.map aM.av)
abbrev Tr (x:aM):List AV:=[.str x.Name,I x.Kind,I x.wv,I x.iO]
abbrev Bl (x:ai):List AV:=[.str x.iB,I x.No,I x.aW,I x.At,I x.Kind,.str x.Device,.str x.Model,.str x.aO,I x.aC,.str x.Key,.str x.Name,.str x.Value,I x.bj,I x.an.er,I x.an.et,I x.an.dY]
abbrev ZE (x:aJ):List AV:=[.str x.Device.Key,.str x.Device.Model,.str x.Device.aO,I x.Device.an.er,I x.Device.an.et,I x.Device.an.dY,.list 2 (x.Device.bl.map aY.av),I x.aC,I x.State,.list 3 (x.aV.map Term.av)]
abbrev gp (b:Bk) (s:Nat→Bk) (x:aJ):List (Bk×PO):=[(b,.cells [.str x.Device.Key,.str x.Device.Model,.str x.Device.aO,I x.Device.an.er,I x.Device.an.et,I x.Device.an.dY,.sl 2 (s 0) 0 x.Device.bl.length,I x.aC,I x.State,.sl 3 (s 1) 0 x.aV.length]),(s 0,.arr 2 (x.Device.bl.map aY.av)),(s 1,.arr 3 (x.aV.map Term.av))]
theorem KB0:KB gp ZE:=⟨⟨fun x=>[.v (.str x.Device.Key),.v (.str x.Device.Model),.v (.str x.Device.aO),.v (I x.Device.an.er),.v (I x.Device.an.et),.v (I x.Device.an.dY),.l 2 aY.av x.Device.bl,.v (I x.aC),.v (I x.State),.l 3 Term.av x.aV],fun _ _ _=>J,fun _=>J⟩⟩
abbrev Lf (xs:List (bE×Bool)):Ob:=.mp (xs.map (fun e=>(bE.av e.1,AV.bool e.2)))
abbrev Ic (xs:List (ax×ax)):Ob:=.mp (xs.map (fun e=>(AV.str e.1,AV.str e.2)))
abbrev Az (x:aJ) (b6 b9:Bk):List AV:=[.str x.Device.Key,.str x.Device.Model,.str x.Device.aO,I x.Device.an.er,I x.Device.an.et,I x.Device.an.dY,.sl 2 b6 0 x.Device.bl.length,I x.aC,I x.State,.sl 3 b9 0 x.aV.length]
abbrev tM (xs:List aY):Ob:=.arr 2 (xs.map aY.av)
abbrev pL (xs:List Term):Ob:=.arr 3 (xs.map Term.av)
abbrev NX (xs:List Term):AV:=.list 3 (xs.map Term.av)
abbrev Lg (xs:List aY):AV:=.list 2 (xs.map aY.av)
abbrev Ie (xs:List bO):Ob:=.arr 2 (xs.map bO.av)
abbrev VK (x:aJ):List AV:=[.str x.Device.Key,.str x.Device.Model,.str x.Device.aO,I x.Device.an.er,I x.Device.an.et,I x.Device.an.dY,Lg x.Device.bl,I x.aC,I x.State,NX x.aV]
abbrev Ig (xs:List aJ):Ob:=.arr 10 (xs.map aJ.av)
abbrev R5 (xs:List Int):AV:=.list 1 (xs.map (AV.int .u8))
abbrev VL (xs:List (ax×Bool)):Ob:=.mp (xs.map (fun e=>(AV.str e.1,AV.bool e.2)))
abbrev R6:=(fun (e:ax×Bool)=>(AV.str e.1,AV.bool e.2))
abbrev R7:=(fun (e:ax×aJ)=>(AV.str e.1,(fun x=>AV.ji (ZE x)) e.2))
abbrev Ih (xs:List aJ):AV:=.list 10 (xs.map aJ.av)
abbrev ZF (xs:List ai):Ob:=.yW 16 (xs.map ai.av)
theorem C8 [GI:bt] {ab:Int} {ah:Int} {r:Int} (h:Below ab ah=some r):Pu Tryz.prog 72 [I ab,I ah] (I r):=by
 unfold Below at h
 refine aG.bc Tryz.func72 J Tryz.ntmps72 Tryz.results72 J J ?_
 refine aF<|rA J J<|rN<|tS<|aF<|rM J J<|ae.qv (cu J J) J<|rN<|cD h J (fun h=>?_) (fun h=>?_)
 ·refine aF<|rA J J<|rN<|aa.ret<|?_
  cases h
  exact hP J J
 ·refine tK<|aF<|rM J J<|rM J J<|aH h fun n1 e1 h=>ae.qv (Ji J J e1) J<|rA J J<|rN<|tS<|aF<|rM J J<|ae.qv (cu J J) J<|rN<|aa.cut (fun aK=>∃ (n2:Int),uA n2=some r∧aK=⟨16,[(0,I n2)],[]⟩) ?_ ?_
  ·refine cD h J (fun h=>?_) (fun h=>?_)
   ·exact tR<|rM J J<|rM J J<|ae.qv (br J J) J<|rA J J<|rN<|aa.stop<|aj.lq [] ⟨aZ (n1+ah),h,J⟩ J J
   ·exact tK<|aa.stop<|aj.lq [] ⟨n1,h,J⟩ J J
  ·rintro aK ⟨n2,h,rfl⟩
   unfold uA at h
   refine aF<|rM J J<|rA J J<|rN<|aa.ret<|?_
   cases h
   exact hP J J
theorem ed [GI:bt] {aQ:Bk} {ab:ak} {ah:Int} {r:Int×ak} (h:dh ab ah=some r):aG Tryz.prog 37 [.ptr aQ 0,I ah] [(aQ,.cells [ig ab.L,I ab.at_])] (T0 ([(aQ,.cells [ig r.2.L,I r.2.at_])]) (I r.1)):=by
 unfold dh at h
 refine aG.eP ?_
 refine aG.bc Tryz.func37 J Tryz.ntmps37 Tryz.results37 J J ?_
 refine aF<|rA J J<|rN<|aF<|rM J J<|ae.qv (ao J) J<|rF J J J<|rL J J .p0 J J<|ae.qv (br J J) J<|ae.qv (ao J) J<|rF J J J<|aD J J J J .p0 J J<|rN<|tS<|aF<|rM J J<|ae.qv (ao J) J<|rF J J J<|rL J J .p0 J J<|ae.qv (fS J) J<|ae.qv (bM J J) J<|rN<|cD h J (fun h=>?_) (fun h=>?_)
 ·refine aF<|rM J J<|ae.qv (ao J) J<|rF J J J<|rL J J .p0 J J<|ae.qv (xU J J) J<|rM J J<|aH h fun v1 e1 h=>aL J (C8 e1) cR J<|rA J J<|rN<|aa.ret<|?_
  cases h
  exact hH J [0] J ⟨J,J⟩
 ·refine tK<|tS<|aa.bQ (id:=4) (A:=[0,1,3,7,15,0,32,96,224,480,1023,2047]) 12 mixed J (by kernel_rfl) (by kernel_rfl)<|AM.qv (aq J) J<|AM.qv (ao J) J<|AM.qv (au J J) J<|AM.qv (az J J .p0 J) J<|AM.qv (dm J J) J<|AM.qv (aq J) J<|AM.qv (ao J) J<|AM.qv (au J J) J<|AM.qv (az J J .p0 J) J<|AM.qv (fS J) J<|aH h fun n2 e2 h=>AM.qv (Ji J J e2) J<|AM.qv (bd J) J<|AM.nil<|rN<|tS<|aa.bQ (id:=5) (A:=[0,1,3,7,15,0,32,96,224,480,1023,2047]) 12 mixed J (by kernel_rfl) (by kernel_rfl)<|AM.qv (aq J) J<|AM.qv (ao J) J<|AM.qv (au J J) J<|AM.qv (az J J .p0 J) J<|AM.qv (dm J J) J<|AM.qv (aq J) J<|AM.qv (ao J) J<|AM.qv (au J J) J<|AM.qv (az J J .p0 J) J<|AM.qv (fS J) J<|aH h fun n3 e3 h=>AM.qv (On J J e3) J<|AM.qv (bd J) J<|AM.nil<|rN<|aF<|rM J J<|ae.qv (ao J) J<|rF J J J<|rL J J .p0 J J<|rM J J<|aH h fun v4 e4 h=>ae.qv (cK J J J e4 J J) J<|ae.qv (bC J J J) J<|aH h fun v5 e5 h=>aL J (C8 e5) cR J<|rM J J<|rM J J<|ae.qv (br J J) J<|ae.qv (xU J J) J<|ae.qv (br J J) J<|rM J J<|aH h fun v6 e6 h=>aL J (C8 e6) cR J<|rA J J<|rN<|aa.ret<|?_
  cases h
  exact hH J [0] J ⟨J,J⟩
theorem bG [GI:bt] {aQ:Bk} {ab:ak} {ah:List ax} {r:ax×ak} (h:bH ab ah=some r):aG Tryz.prog 10 [.ptr aQ 0,Tq ah] [(aQ,.cells [ig ab.L,I ab.at_])] (T0 ([(aQ,.cells [ig r.2.L,I r.2.at_])]) (.str r.1)):=by
 unfold bH at h
 refine aG.eP ?_
 refine aG.bc Tryz.func10 J Tryz.ntmps10 Tryz.results10 J J ?_
 refine aF<|rA J J<|rN<|aF<|rM J J<|rM J J<|rM J J<|ae.qv (fS J) J<|aH h fun v1 e1 h=>aT J (ed e1) cR (.cons .p0 .nil) J J<|aH h fun v2 e2 h=>ae.qv (cK J J J e2 J J) J<|ae.qv (bC J J J) J<|rA J J<|rN<|aa.ret<|?_
 cases h
 exact hH J [0] J ⟨J,J⟩
theorem vz [GI:bt] {aQ:Bk} {ab:ak} {r:(Model×Model)×ak} (h:jm ab=some r):aG Tryz.prog 36 [.ptr aQ 0] [(aQ,.cells [ig ab.L,I ab.at_])] (T3 (fun pM uF Kj=>[(aQ,.cells [ig r.2.L,I r.2.at_]),((⟨some pM,2⟩:Bk),.cells [.str r.1.1.Key,.str r.1.1.Prefix,.sl 4 uF 0 r.1.1.bf.length,.str r.1.2.Key,.str r.1.2.Prefix,.sl 4 Kj 0 r.1.2.bf.length]),(uF,Cj r.1.1.bf),(Kj,Cj r.1.2.bf)]) (fun pM uF Kj=>.sl 3 (⟨some pM,2⟩:Bk) 0 2)):=by
 unfold jm at h
 refine aG.eP ?_
 refine aG.bc Tryz.func36 J Tryz.ntmps36 Tryz.results36 J J ?_
 refine aF<|rA J J<|rN<|aF<|ae.qv (cF J J J J J) J<|ae.qv (cF J J J J J) J<|ae.qv (cF J J J J J) J<|ko J J J J J J fun b1=>ae.qv (cF J J J J J) J<|rM J J<|aR (xs:=([([65,66,67]:ax),([88,89]:ax),([90,90,90,90]:ax)]).map AV.str) J J J J J J<|aH h fun v2 e1 h=>aT J (bG e1) cR (.cons .p1 .nil) J J<|ae.qv (cF J J J J J) J<|ko J J J J J J fun b3=>ae.qv (cF J J J J J) J<|Bv (xs:=[.agg [.str ([109,97]:ax),.str ([65,66]:ax),.sl 4 b1 0 [(⟨([97]:ax),(2:Int),(-5:Int),(50:Int)⟩:aM),(⟨([98]:ax),(3:Int),(0:Int),(0:Int)⟩:aM),(⟨([102,97,110,46,111,110]:ax),(1:Int),(0:Int),(0:Int)⟩:aM)].length],.agg [.str ([109,98]:ax),.str v2.1,.sl 4 b3 0 [(⟨([97]:ax),(1:Int),(0:Int),(0:Int)⟩:aM)].length]]) J J J J J J fun m4=>ae.ghost<|aj.JX .p0 J J<|aj.here<|?_
 generalize e2:(⟨some m4,2⟩:Bk)=b5
 refine rA J J<|rN<|aa.ret<|?_
 cases h
 subst e2
 exact hH J [2,0,1,0] J ⟨m4,b1,b3,J,J⟩
theorem pd [GI:bt] {aQ:Bk} {ab:ak} {ah:Int} {r:Bool×ak} (h:jn ab ah=some r):aG Tryz.prog 11 [.ptr aQ 0,I ah] [(aQ,.cells [ig ab.L,I ab.at_])] (T0 ([(aQ,.cells [ig r.2.L,I r.2.at_])]) (.bool r.1)):=by
 unfold jn at h
 refine aG.eP ?_
 refine aG.bc Tryz.func11 J Tryz.ntmps11 Tryz.results11 J J ?_
 refine aF<|rA J J<|rN<|aF<|rM J J<|rM J J<|aH h fun v1 e1 h=>aT J (ed e1) cR (.cons .p0 .nil) J J<|ae.qv (bM J J) J<|rA J J<|rN<|aa.ret<|?_
 cases h
 exact hH J [0] J ⟨J,J⟩
theorem dC [GI:bt] {aQ:Bk} {ab:ak} {ah:List Int} {r:Int×ak} (h:cO ab ah=some r):aG Tryz.prog 9 [.ptr aQ 0,ig ah] [(aQ,.cells [ig ab.L,I ab.at_])] (T0 ([(aQ,.cells [ig r.2.L,I r.2.at_])]) (I r.1)):=by
 unfold cO at h
 refine aG.eP ?_
 refine aG.bc Tryz.func9 J Tryz.ntmps9 Tryz.results9 J J ?_
 refine aF<|rA J J<|rN<|aF<|rM J J<|rM J J<|rM J J<|ae.qv (fS J) J<|aH h fun v1 e1 h=>aT J (ed e1) cR (.cons .p0 .nil) J J<|aH h fun v2 e2 h=>ae.qv (cK J J J e2 J J) J<|ae.qv (bC J J J) J<|rA J J<|rN<|aa.ret<|?_
 cases h
 exact hH J [0] J ⟨J,J⟩
theorem uG [GI:bt] {aQ:Bk} {ab:ak} {ah:Int} {aA:Int} {r:Int×ak} (h:kB ab ah aA=some r):aG Tryz.prog 7 [.ptr aQ 0,I ah,I aA] [(aQ,.cells [ig ab.L,I ab.at_])] (T0 ([(aQ,.cells [ig r.2.L,I r.2.at_])]) (I r.1)):=by
 unfold kB at h
 refine aG.eP ?_
 refine aG.bc Tryz.func7 J Tryz.ntmps7 Tryz.results7 J J ?_
 refine aF<|rA J J<|rN<|tS<|aF<|rM J J<|rM J J<|ae.qv (cu J J) J<|rN<|cD h J (fun h=>?_) (fun h=>?_)
 ·refine aF<|rM J J<|rA J J<|rN<|aa.ret<|?_
  cases h
  exact hH J [0] J ⟨J,J⟩
 ·refine tK<|aF<|rM J J<|rM J J<|rM J J<|rM J J<|ae.qv (dm J J) J<|ae.qv (br J J) J<|aH h fun v1 e1 h=>aT J (ed e1) cR (.cons .p0 .nil) J J<|ae.qv (br J J) J<|rA J J<|rN<|aa.ret<|?_
  cases h
  exact hH J [0] J ⟨J,J⟩
theorem iu [GI:bt] {aQ:Bk} {ab:ak} {ah:Int} {aA:Int} {r:Int×ak} (h:fo ab ah aA=some r):aG Tryz.prog 38 [.ptr aQ 0,I ah,I aA] [(aQ,.cells [ig ab.L,I ab.at_])] (T0 ([(aQ,.cells [ig r.2.L,I r.2.at_])]) (I r.1)):=by
 unfold fo at h
 refine aG.eP ?_
 refine aG.bc Tryz.func38 J Tryz.ntmps38 Tryz.results38 J J ?_
 refine aF<|rA J J<|rN<|tS<|aF<|rM J J<|aH h fun v1 e1 h=>aT J (pd e1) cR (.cons .p0 .nil) J J<|rN<|cB h J (fun h=>?_) (fun h=>?_)
 ·refine aF<|rM J J<|rM J J<|ae.qv (dm J J) J<|rM J J<|ae.qv (br J J) J<|rM J J<|rM J J<|aR (xs:=([aZ (ah - (1:Int)),aZ (aA+(1:Int)),ah,aA,(-1099511627776:Int),(1099511627776:Int)]).map I) J J J J J J<|aH h fun v2 e2 h=>aT J (dC e2) cR (.cons .p0 .nil) J J<|rA J J<|rN<|aa.ret<|?_
  cases h
  exact hH J [0] J ⟨J,J⟩
 ·refine tK<|aF<|rM J J<|rM J J<|rM J J<|aH h fun v3 e3 h=>aT J (uG e3) cR (.cons .p0 .nil) J J<|rA J J<|rN<|aa.ret<|?_
  cases h
  exact hH J [0] J ⟨J,J⟩
theorem AA [GI:bt] {aQ:Bk} {ab:ak} {r:(List Model)×ak} (h:nU ab=some r):aG Tryz.prog 5 [.ptr aQ 0] [(aQ,.cells [ig ab.L,I ab.at_])] (T0 ([(aQ,.cells [ig r.2.L,I r.2.at_])]) (sa r.1)):=by
 unfold nU at h
 refine aG.eP ?_
 refine aG.bc Tryz.func5 J Tryz.ntmps5 Tryz.results5 J J ?_
 refine aF<|rA J J<|rN<|aF<|rM J J<|aH h fun v1 e1 h=>L8 J (vz e1) cR (.cons .p0 .nil) (fun _ _ _=>J) J fun m2 b4 b5=>?_
 generalize e2:(⟨some m2,2⟩:Bk)=b3
 refine rA J J<|rN<|tS<|aF<|rM J J<|aH h fun v6 e3 h=>aT J (pd e3) cR (.cons .p0 .nil) J J<|rN<|aa.cut (fun aK=>∃ (b9:Bk) (l7:List Int) (n8:Int) (l10:List Model),jg l7 n8 l10=some r∧aK=⟨71,[(3,.sl 3 b9 0 l10.length)],[(aQ,.cells [ig l7,I n8]),(b9,MN l10)]⟩) ?_ ?_
 ·refine cB h J (fun h=>?_) (fun h=>?_)
  ·refine aF<|rM J J<|rM J J<|aH h fun v11 e4 h=>aT J (ed e4) cR (.cons .p0 .nil) J J<|Classical.byCases (p:=v11.1=(0:Int)) (fun MO=>?_) (fun MO=>?_)
   ·replace h:=kM MO h
    refine ae.qv (yM (q:=0) (o:=0) J J J MO J J) J<|rA J J<|rN<|aF<|rM J J<|aH h fun v12 e6 h=>aT J (ed e6) cR (.cons .p0 .nil) J J<|rN<|aa.block<|aF<|ae.qv (bM J J) J<|rA J J<|rN<|aa.cut (fun aK=>∃ (Kk:Bk) (Bx:List Int) (n14:Int) (Ci:List Model),kQ Bx n14 Ci=some r∧aK=⟨71,[(3,.sl 3 Kk 0 Ci.length)],[(aQ,.cells [ig Bx,I n14]),(Kk,MN Ci)]⟩) ?_ ?_
    ·refine cD h J (fun h=>?_) (fun h=>?_)
     ·exact tR<|rM J J<|rM J J<|aR (xs:=([([]:ax),([109,97]:ax),([65]:ax)]).map AV.str) J J J J J J<|aH h fun v17 e7 h=>aT J (bG e7) cR (.cons .p0 .nil) J J<|ae.qv (ao J) J<|rF J J J<|aD J J J J .p1 J J<|rN<|aa.stop<|aj.freeze .p2<|aj.kP (j:=2) .p1 J (Co.mg .p2) J J<|aj.freeze .p3<|aj.kP (j:=5) .p1 J (Co.mg .p3) J J<|aj.lO (xs:=([(⟨v17.1,v1.1.1.Prefix,v1.1.1.bf⟩:Model),v1.1.2]:List Model).map Model.av) e2 .p1 J J J<|aj.lq [0,0] ⟨b3,v17.2.L,v17.2.at_,[(⟨v17.1,v1.1.1.Prefix,v1.1.1.bf⟩:Model),v1.1.2],h,J⟩ J J
     ·refine aF<|ae.qv (bM J J) J<|rA J J<|rN<|aa.cut (fun aK=>∃ (Ts:Bk) (H9:List Int) (n19:Int) (Fs:List Model),kR H9 n19 Fs=some r∧aK=⟨71,[(3,.sl 3 Ts 0 Fs.length)],[(aQ,.cells [ig H9,I n19]),(Ts,MN Fs)]⟩) ?_ ?_
      ·refine cD h J (fun h=>?_) (fun h=>?_)
       ·exact tR<|rM J J<|rM J J<|aR (xs:=([([65]:ax),([65,66,67,68,69]:ax),([97,98]:ax),([65,66]:ax),([65,49]:ax)]).map AV.str) J J J J J J<|aH h fun v22 e8 h=>aT J (bG e8) cR (.cons .p0 .nil) J J<|ae.qv (ao J) J<|rF J J J<|aD J J J J .p1 J J<|rN<|aa.stop<|aj.freeze .p2<|aj.kP (j:=2) .p1 J (Co.mg .p2) J J<|aj.freeze .p3<|aj.kP (j:=5) .p1 J (Co.mg .p3) J J<|aj.lO (xs:=([(⟨v1.1.1.Key,v22.1,v1.1.1.bf⟩:Model),v1.1.2]:List Model).map Model.av) e2 .p1 J J J<|aj.lq [0,0] ⟨b3,v22.2.L,v22.2.at_,[(⟨v1.1.1.Key,v22.1,v1.1.1.bf⟩:Model),v1.1.2],h,J⟩ J J
       ·refine aF<|ae.qv (bM J J) J<|rA J J<|rN<|aa.cut (fun aK=>∃ (MP:Bk) (PN:List Int) (n24:Int) (zC:List Model),kS PN n24 zC=some r∧aK=⟨71,[(3,.sl 3 MP 0 zC.length)],[(aQ,.cells [ig PN,I n24]),(MP,MN zC)]⟩) ?_ ?_
        ·refine cD h J (fun h=>?_) (fun h=>?_)
         ·refine aH h fun G9 e9 h=>aH h fun v28 Ft h=>aH h fun pJ IS h=>aa.ik (id:=11) (A:=[0,0,2,6,14,0,0,96,0,480,992,2016,4094,8191,16383,32767]) (H0:=[(aQ,.cells [ig v12.2.L,I v12.2.at_]),(b4,Cj v1.1.1.bf)]) (HH:=fun β=>[(aQ,.cells [ig v28.2.L,I v28.2.at_]),((β 12),Cj pJ),(b3,.cells [.str v1.1.1.Key,.str v1.1.1.Prefix,.sl 4 b4 0 v1.1.1.bf.length,.str v1.1.2.Key,.str v1.1.2.Prefix,.sl 4 b5 0 v1.1.2.bf.length]),(b5,Cj v1.1.2.bf)]) 13 mixed J (by kernel_rfl) (by kernel_rfl) [⟨none,some 7,[],fun _=>(aQ,.cells [ig v12.2.L,I v12.2.at_]),none,[]⟩,⟨none,some 12,[],fun _=>(b4,Cj v1.1.1.bf),none,[]⟩,⟨some 7,some 9,[],fun _=>(aQ,.cells [ig G9.2.L,I G9.2.at_]),none,[]⟩,⟨some 9,none,[],fun _=>(aQ,.cells [ig v28.2.L,I v28.2.at_]),none,[]⟩,⟨some 12,none,[],fun b=>(b,Cj pJ),none,[]⟩] [12] J (by kernel_rfl) J (.cons .p0 (.cons .p1 .nil)) (fun _=>J)<|AT.am 7 J J<|AM.qv (aq J) J<|AM.qv (aq J) J<|AM.qv (ao J) J<|AM.qv (au J J) J<|AM.qv (az J J .p0 J) J<|AM.qv (aq J) J<|AM.fG (xs:=([([122,122]:ax),([97]:ax),([97,46,46,98]:ax),([65]:ax),([97,46,98,46,99,46,100,46,101,46,102]:ax)]).map AV.str) J J J J J J<|AM.nil<|AT.y7 (av:=.str G9.1) (Ti:=[(aQ,.cells [ig v12.2.L,I v12.2.at_])]) (Pi:=[(aQ,.cells [ig G9.2.L,I G9.2.at_])]) (fun _=>J) (fun _=>J) (fun _=>J) J J J ?_ ?_
          ·exact aT J (bG e9) cR (.cons .p0 .nil) J J<|ae.nil ⟨_,J,J⟩
          refine AT.am 1 J J<|AM.qv (aq J) J<|AM.nil<|AT.y7 (av:=I v28.1) (Ti:=[(aQ,.cells [ig G9.2.L,I G9.2.at_])]) (Pi:=[(aQ,.cells [ig v28.2.L,I v28.2.at_])]) (fun _=>J) (fun _=>J) (fun _=>J) J J J ?_ ?_
          ·exact aT J (iu Ft) cR (.cons .p0 .nil) J J<|ae.nil ⟨_,J,J⟩
          refine AT.am 2 J J<|AM.qv (cF J J J J J) J<|AM.fG (xs:=([(⟨G9.1,v28.1,(0:Int),(0:Int)⟩:aM)]).map aM.av) J J J J J J<|AM.nil<|AT.FF (V:=fun b=>.sl 4 b 0 pJ.length) (Ti:=[(b4,Cj v1.1.1.bf)]) (Pi:=fun b=>[(b,Cj pJ)]) (fun _=>J) (fun _=>J) (fun _ _=>J) J (fun _=>J) J J J ?_ ?_
          ·exact iM (g:=aM.av) J J J J J J J J (.list _) IS (fun _=>.p0) J fun ZG=>ae.nil ⟨ZG,_,J,J⟩
          refine AT.sZ (fun _=>J) fun β=>?_
          generalize β 12=ZG
          clear β
          exact ae.qv (ao J) J<|rF J J J<|aD J J J J .p2 J J<|rN<|aa.stop<|aj.freeze .p1<|aj.kP (j:=2) .p2 J (Co.mg .p1) J J<|aj.freeze .p3<|aj.kP (j:=5) .p2 J (Co.mg .p3) J J<|aj.lO (xs:=([(⟨v1.1.1.Key,v1.1.1.Prefix,pJ⟩:Model),v1.1.2]:List Model).map Model.av) e2 .p2 J J J<|aj.lq [0,1] ⟨b3,v28.2.L,v28.2.at_,[(⟨v1.1.1.Key,v1.1.1.Prefix,pJ⟩:Model),v1.1.2],h,J⟩ J J
         ·refine aF<|ae.qv (bM J J) J<|rA J J<|rN<|aa.cut (fun aK=>∃ (R8:Bk) (PQ:List Int) (n32:Int) (EP:List Model),kT PQ n32 EP=some r∧aK=⟨71,[(3,.sl 3 R8 0 EP.length)],[(aQ,.cells [ig PQ,I n32]),(R8,MN EP)]⟩) ?_ ?_
          ·refine cD h J (fun h=>?_) (fun h=>?_)
           ·refine aH h fun v35 Ck h=>aH h fun Bg Lh h=>aa.ik (id:=13) (A:=[0,1,3,7,0,16,48,112,0,256,0,1792,4095,8191,16383,32767,65535,131071]) (H0:=[(aQ,.cells [ig v12.2.L,I v12.2.at_])]) (HH:=fun β=>[(aQ,.cells [ig Bg.2.L,I Bg.2.at_]),(b3,.cells [.str v1.1.1.Key,.str v1.1.1.Prefix,.sl 4 b4 0 v1.1.1.bf.length,.str v1.1.2.Key,.str v1.1.2.Prefix,.sl 4 b5 0 v1.1.2.bf.length]),(b4,Cj v1.1.1.bf),(b5,Cj v1.1.2.bf)]) 12 mixed J (by kernel_rfl) (by kernel_rfl) [⟨none,some 9,[],fun _=>(aQ,.cells [ig v12.2.L,I v12.2.at_]),none,[]⟩,⟨some 9,some 11,[],fun _=>(aQ,.cells [ig v35.2.L,I v35.2.at_]),none,[]⟩,⟨some 11,none,[],fun _=>(aQ,.cells [ig Bg.2.L,I Bg.2.at_]),none,[]⟩] [] J (by kernel_rfl) J (.cons .p0 .nil) (fun _=>J)<|AT.am 9 J J<|AM.qv (aq J) J<|AM.qv (ao J) J<|AM.qv (au J J) J<|AM.qv (az J J .p0 J) J<|AM.qv (aq J) J<|AM.qv (ao J) J<|AM.qv (au J J) J<|AM.qv (az J J .p0 J) J<|AM.qv (aq J) J<|AM.nil<|AT.y7 (av:=I v35.1) (Ti:=[(aQ,.cells [ig v12.2.L,I v12.2.at_])]) (Pi:=[(aQ,.cells [ig v35.2.L,I v35.2.at_])]) (fun _=>J) (fun _=>J) (fun _=>J) J J J ?_ ?_
            ·exact aT J (iu Ck) cR (.cons .p0 .nil) J J<|ae.nil ⟨_,J,J⟩
            refine AT.am 1 J J<|AM.qv (aq J) J<|AM.nil<|AT.y7 (av:=I Bg.1) (Ti:=[(aQ,.cells [ig v35.2.L,I v35.2.at_])]) (Pi:=[(aQ,.cells [ig Bg.2.L,I Bg.2.at_])]) (fun _=>J) (fun _=>J) (fun _=>J) J J J ?_ ?_
            ·exact aT J (iu Lh) cR (.cons .p0 .nil) J J<|ae.nil ⟨_,J,J⟩
            exact AT.sZ (fun _=>J) fun β=>aH h fun v37 Kl h=>ae.qv (bh J J J Kl) J<|ae.qv (bq J J) J<|bF (g:=aM.av) (wi:=(⟨v37.Name,v37.Kind,v35.1,v37.iO⟩:aM)) J J J J Kl J .p2 J<|ae.ghost<|aj.eqs (s:=57) (dD:=.sl 4 b4 0 (v1.1.1.bf.set (0:Int).toNat (⟨v37.Name,v37.Kind,v35.1,v37.iO⟩:aM)).length) J (by rw [List.length_set])<|aj.here<|ae.ghost<|aj.eqs (s:=61) (dD:=.sl 4 b4 0 (v1.1.1.bf.set (0:Int).toNat (⟨v37.Name,v37.Kind,v35.1,v37.iO⟩:aM)).length) J (by rw [List.length_set])<|aj.here<|ae.ghost<|aj.wT (j:=2) (dD:=.sl 4 b4 0 (v1.1.1.bf.set (0:Int).toNat (⟨v37.Name,v37.Kind,v35.1,v37.iO⟩:aM)).length) .p1 J (by rw [List.length_set]) J<|aj.here<|aH h fun aI Km h=>ae.qv (bh J J J Km) J<|ae.qv (bq J J) J<|bF (g:=aM.av) (wi:=(⟨aI.Name,aI.Kind,aI.wv,Bg.1⟩:aM)) J J J J Km J .p2 J<|ae.ghost<|aj.eqs (s:=57) (dD:=.sl 4 b4 0 ((v1.1.1.bf.set (0:Int).toNat (⟨v37.Name,v37.Kind,v35.1,v37.iO⟩:aM)).set (0:Int).toNat (⟨aI.Name,aI.Kind,aI.wv,Bg.1⟩:aM)).length) J (by rw [List.length_set])<|aj.here<|ae.ghost<|aj.eqs (s:=61) (dD:=.sl 4 b4 0 ((v1.1.1.bf.set (0:Int).toNat (⟨v37.Name,v37.Kind,v35.1,v37.iO⟩:aM)).set (0:Int).toNat (⟨aI.Name,aI.Kind,aI.wv,Bg.1⟩:aM)).length) J (by rw [List.length_set])<|aj.here<|ae.ghost<|aj.wT (j:=2) (dD:=.sl 4 b4 0 ((v1.1.1.bf.set (0:Int).toNat (⟨v37.Name,v37.Kind,v35.1,v37.iO⟩:aM)).set (0:Int).toNat (⟨aI.Name,aI.Kind,aI.wv,Bg.1⟩:aM)).length) .p1 J (by rw [List.length_set]) J<|aj.here<|rN<|aa.stop<|aj.freeze .p2<|aj.kP (j:=2) .p1 J (Co.mg .p2) J J<|aj.freeze .p3<|aj.kP (j:=5) .p1 J (Co.mg .p3) J J<|aj.lO (xs:=([(⟨v1.1.1.Key,v1.1.1.Prefix,(v1.1.1.bf.set (0:Int).toNat (⟨v37.Name,v37.Kind,v35.1,v37.iO⟩:aM)).set (0:Int).toNat (⟨aI.Name,aI.Kind,aI.wv,Bg.1⟩:aM)⟩:Model),v1.1.2]:List Model).map Model.av) e2 .p1 J J J<|aj.lq [0,0] ⟨b3,Bg.2.L,Bg.2.at_,[(⟨v1.1.1.Key,v1.1.1.Prefix,(v1.1.1.bf.set (0:Int).toNat (⟨v37.Name,v37.Kind,v35.1,v37.iO⟩:aM)).set (0:Int).toNat (⟨aI.Name,aI.Kind,aI.wv,Bg.1⟩:aM)⟩:Model),v1.1.2],h,J⟩ J J
           ·exact tR<|rM J J<|ae.qv (cF J J J J J) J<|aR (xs:=[.agg [.str ([109,122]:ax),.str ([81,81]:ax),.nil]]) J J J J J J<|ae.ghost<|aj.SP (s:=17) (dD:=.list 3 (([(⟨([109,122]:ax),([81,81]:ax),[]⟩:Model)]:List Model).map Model.av)) J (Bc.GO (.cons .r (.cons .r (.cons .n .nil))) J J)<|aj.here<|ae.ghost<|aj.freeze .p2<|aj.here<|ae.ghost<|aj.kP (j:=2) .p1 J (Co.mg .p2) J J<|aj.here<|ae.ghost<|aj.freeze .p3<|aj.here<|ae.ghost<|aj.kP (j:=5) .p1 J (Co.mg .p3) J J<|aj.here<|ae.ghost<|aj.lO (xs:=([v1.1.1,v1.1.2]:List Model).map Model.av) e2 .p1 J J J<|aj.here<|aH h fun Le Li h=>iM (g:=Model.av) J J J J J J J J (.list _) Li (fun _=>.p1) J fun b40=>rA J J<|rN<|aa.stop<|aj.lq [0,0] ⟨b40,v12.2.L,v12.2.at_,Le,h,J⟩ J J
          ·rintro aK ⟨R8,PQ,n32,EP,h,rfl⟩
           unfold kT at h
           exact aa.stop<|aj.lq [0,0] ⟨R8,PQ,n32,EP,h,J⟩ J J
        ·rintro aK ⟨MP,PN,n24,zC,h,rfl⟩
         unfold kS at h
         exact aa.stop<|aj.lq [0,0] ⟨MP,PN,n24,zC,h,J⟩ J J
      ·rintro aK ⟨Ts,H9,n19,Fs,h,rfl⟩
       unfold kR at h
       exact aa.stop<|aj.lq [0,0] ⟨Ts,H9,n19,Fs,h,J⟩ J J
    ·rintro aK ⟨Kk,Bx,n14,Ci,h,rfl⟩
     unfold kQ at h
     exact aa.cy<|aa.stop<|aj.lq [0,0] ⟨Kk,Bx,n14,Ci,h,J⟩ J J
   ·replace h:=uj MO h
    refine Classical.byCases (p:=v11.1=(1:Int)) (fun Hb=>?_) (fun Hb=>?_)
    ·replace h:=kM Hb h
     refine ae.qv (yM (q:=1) (o:=3) J J J Hb J J) J<|rA J J<|rN<|aF<|rM J J<|aH h fun v41 MQ h=>aT J (ed MQ) cR (.cons .p0 .nil) J J<|rN<|aa.block<|aF<|ae.qv (bM J J) J<|rA J J<|rN<|aa.cut (fun aK=>∃ (Tt:Bk) (PR:List Int) (n43:Int) (OU:List Model),kU PR n43 OU=some r∧aK=⟨71,[(3,.sl 3 Tt 0 OU.length)],[(aQ,.cells [ig PR,I n43]),(Tt,MN OU)]⟩) ?_ ?_
     ·refine cD h J (fun h=>?_) (fun h=>?_)
      ·exact tR<|rM J J<|rM J J<|aR (xs:=([([]:ax),([109,97]:ax),([65]:ax)]).map AV.str) J J J J J J<|aH h fun v46 MR h=>aT J (bG MR) cR (.cons .p0 .nil) J J<|ae.qv (ao J) J<|rF J J J<|aD J J J J .p1 J J<|rN<|aa.stop<|aj.freeze .p2<|aj.kP (j:=2) .p1 J (Co.mg .p2) J J<|aj.freeze .p3<|aj.kP (j:=5) .p1 J (Co.mg .p3) J J<|aj.lO (xs:=([v1.1.1,(⟨v46.1,v1.1.2.Prefix,v1.1.2.bf⟩:Model)]:List Model).map Model.av) e2 .p1 J J J<|aj.lq [0,0] ⟨b3,v46.2.L,v46.2.at_,[v1.1.1,(⟨v46.1,v1.1.2.Prefix,v1.1.2.bf⟩:Model)],h,J⟩ J J
      ·refine aF<|ae.qv (bM J J) J<|rA J J<|rN<|aa.cut (fun aK=>∃ (Tu:Bk) (xT:List Int) (n48:Int) (Bf:List Model),kV xT n48 Bf=some r∧aK=⟨71,[(3,.sl 3 Tu 0 Bf.length)],[(aQ,.cells [ig xT,I n48]),(Tu,MN Bf)]⟩) ?_ ?_
       ·refine cD h J (fun h=>?_) (fun h=>?_)
        ·exact tR<|rM J J<|rM J J<|aR (xs:=([([65]:ax),([65,66,67,68,69]:ax),([97,98]:ax),([65,66]:ax),([65,49]:ax)]).map AV.str) J J J J J J<|aH h fun v51 MS h=>aT J (bG MS) cR (.cons .p0 .nil) J J<|ae.qv (ao J) J<|rF J J J<|aD J J J J .p1 J J<|rN<|aa.stop<|aj.freeze .p2<|aj.kP (j:=2) .p1 J (Co.mg .p2) J J<|aj.freeze .p3<|aj.kP (j:=5) .p1 J (Co.mg .p3) J J<|aj.lO (xs:=([v1.1.1,(⟨v1.1.2.Key,v51.1,v1.1.2.bf⟩:Model)]:List Model).map Model.av) e2 .p1 J J J<|aj.lq [0,0] ⟨b3,v51.2.L,v51.2.at_,[v1.1.1,(⟨v1.1.2.Key,v51.1,v1.1.2.bf⟩:Model)],h,J⟩ J J
        ·refine aF<|ae.qv (bM J J) J<|rA J J<|rN<|aa.cut (fun aK=>∃ (Tv:Bk) (PS:List Int) (PT:Int) (OV:List Model),kW PS PT OV=some r∧aK=⟨71,[(3,.sl 3 Tv 0 OV.length)],[(aQ,.cells [ig PS,I PT]),(Tv,MN OV)]⟩) ?_ ?_
         ·refine cD h J (fun h=>?_) (fun h=>?_)
          ·refine aH h fun Ki R9 h=>aH h fun Ha VM h=>aH h fun NQ VN h=>aa.ik (id:=11) (A:=[0,0,2,6,14,0,0,96,0,480,992,2016,4094,8191,16383,32767]) (H0:=[(aQ,.cells [ig v41.2.L,I v41.2.at_]),(b5,Cj v1.1.2.bf)]) (HH:=fun β=>[(aQ,.cells [ig Ha.2.L,I Ha.2.at_]),((β 12),Cj NQ),(b3,.cells [.str v1.1.1.Key,.str v1.1.1.Prefix,.sl 4 b4 0 v1.1.1.bf.length,.str v1.1.2.Key,.str v1.1.2.Prefix,.sl 4 b5 0 v1.1.2.bf.length]),(b4,Cj v1.1.1.bf)]) 13 mixed J (by kernel_rfl) (by kernel_rfl) [⟨none,some 7,[],fun _=>(aQ,.cells [ig v41.2.L,I v41.2.at_]),none,[]⟩,⟨none,some 12,[],fun _=>(b5,Cj v1.1.2.bf),none,[]⟩,⟨some 7,some 9,[],fun _=>(aQ,.cells [ig Ki.2.L,I Ki.2.at_]),none,[]⟩,⟨some 9,none,[],fun _=>(aQ,.cells [ig Ha.2.L,I Ha.2.at_]),none,[]⟩,⟨some 12,none,[],fun b=>(b,Cj NQ),none,[]⟩] [12] J (by kernel_rfl) J (.cons .p0 (.cons .p2 .nil)) (fun _=>J)<|AT.am 7 J J<|AM.qv (aq J) J<|AM.qv (aq J) J<|AM.qv (ao J) J<|AM.qv (au J J) J<|AM.qv (az J J .p0 J) J<|AM.qv (aq J) J<|AM.fG (xs:=([([122,122]:ax),([97]:ax),([97,46,46,98]:ax),([65]:ax),([97,46,98,46,99,46,100,46,101,46,102]:ax)]).map AV.str) J J J J J J<|AM.nil<|AT.y7 (av:=.str Ki.1) (Ti:=[(aQ,.cells [ig v41.2.L,I v41.2.at_])]) (Pi:=[(aQ,.cells [ig Ki.2.L,I Ki.2.at_])]) (fun _=>J) (fun _=>J) (fun _=>J) J J J ?_ ?_
           ·exact aT J (bG R9) cR (.cons .p0 .nil) J J<|ae.nil ⟨_,J,J⟩
           refine AT.am 1 J J<|AM.qv (aq J) J<|AM.nil<|AT.y7 (av:=I Ha.1) (Ti:=[(aQ,.cells [ig Ki.2.L,I Ki.2.at_])]) (Pi:=[(aQ,.cells [ig Ha.2.L,I Ha.2.at_])]) (fun _=>J) (fun _=>J) (fun _=>J) J J J ?_ ?_
           ·exact aT J (iu VM) cR (.cons .p0 .nil) J J<|ae.nil ⟨_,J,J⟩
           refine AT.am 2 J J<|AM.qv (cF J J J J J) J<|AM.fG (xs:=([(⟨Ki.1,Ha.1,(0:Int),(0:Int)⟩:aM)]).map aM.av) J J J J J J<|AM.nil<|AT.FF (V:=fun b=>.sl 4 b 0 NQ.length) (Ti:=[(b5,Cj v1.1.2.bf)]) (Pi:=fun b=>[(b,Cj NQ)]) (fun _=>J) (fun _=>J) (fun _ _=>J) J (fun _=>J) J J J ?_ ?_
           ·exact iM (g:=aM.av) J J J J J J J J (.list _) VN (fun _=>.p0) J fun ZH=>ae.nil ⟨ZH,_,J,J⟩
           refine AT.sZ (fun _=>J) fun β=>?_
           generalize β 12=ZH
           clear β
           exact ae.qv (ao J) J<|rF J J J<|aD J J J J .p2 J J<|rN<|aa.stop<|aj.freeze .p3<|aj.kP (j:=2) .p2 J (Co.mg .p3) J J<|aj.freeze .p1<|aj.kP (j:=5) .p2 J (Co.mg .p1) J J<|aj.lO (xs:=([v1.1.1,(⟨v1.1.2.Key,v1.1.2.Prefix,NQ⟩:Model)]:List Model).map Model.av) e2 .p2 J J J<|aj.lq [0,1] ⟨b3,Ha.2.L,Ha.2.at_,[v1.1.1,(⟨v1.1.2.Key,v1.1.2.Prefix,NQ⟩:Model)],h,J⟩ J J
          ·refine aF<|ae.qv (bM J J) J<|rA J J<|rN<|aa.cut (fun aK=>∃ (Tw:Bk) (PU:List Int) (n61:Int) (OW:List Model),kX PU n61 OW=some r∧aK=⟨71,[(3,.sl 3 Tw 0 OW.length)],[(aQ,.cells [ig PU,I n61]),(Tw,MN OW)]⟩) ?_ ?_
           ·refine cD h J (fun h=>?_) (fun h=>?_)
            ·refine aH h fun v64 VO h=>aH h fun C5 Tx h=>aa.ik (id:=13) (A:=[0,1,3,7,0,16,48,112,0,256,0,1792,4095,8191,16383,32767,65535,131071]) (H0:=[(aQ,.cells [ig v41.2.L,I v41.2.at_])]) (HH:=fun β=>[(aQ,.cells [ig C5.2.L,I C5.2.at_]),(b3,.cells [.str v1.1.1.Key,.str v1.1.1.Prefix,.sl 4 b4 0 v1.1.1.bf.length,.str v1.1.2.Key,.str v1.1.2.Prefix,.sl 4 b5 0 v1.1.2.bf.length]),(b4,Cj v1.1.1.bf),(b5,Cj v1.1.2.bf)]) 12 mixed J (by kernel_rfl) (by kernel_rfl) [⟨none,some 9,[],fun _=>(aQ,.cells [ig v41.2.L,I v41.2.at_]),none,[]⟩,⟨some 9,some 11,[],fun _=>(aQ,.cells [ig v64.2.L,I v64.2.at_]),none,[]⟩,⟨some 11,none,[],fun _=>(aQ,.cells [ig C5.2.L,I C5.2.at_]),none,[]⟩] [] J (by kernel_rfl) J (.cons .p0 .nil) (fun _=>J)<|AT.am 9 J J<|AM.qv (aq J) J<|AM.qv (ao J) J<|AM.qv (au J J) J<|AM.qv (az J J .p0 J) J<|AM.qv (aq J) J<|AM.qv (ao J) J<|AM.qv (au J J) J<|AM.qv (az J J .p0 J) J<|AM.qv (aq J) J<|AM.nil<|AT.y7 (av:=I v64.1) (Ti:=[(aQ,.cells [ig v41.2.L,I v41.2.at_])]) (Pi:=[(aQ,.cells [ig v64.2.L,I v64.2.at_])]) (fun _=>J) (fun _=>J) (fun _=>J) J J J ?_ ?_
             ·exact aT J (iu VO) cR (.cons .p0 .nil) J J<|ae.nil ⟨_,J,J⟩
             refine AT.am 1 J J<|AM.qv (aq J) J<|AM.nil<|AT.y7 (av:=I C5.1) (Ti:=[(aQ,.cells [ig v64.2.L,I v64.2.at_])]) (Pi:=[(aQ,.cells [ig C5.2.L,I C5.2.at_])]) (fun _=>J) (fun _=>J) (fun _=>J) J J J ?_ ?_
             ·exact aT J (iu Tx) cR (.cons .p0 .nil) J J<|ae.nil ⟨_,J,J⟩
             exact AT.sZ (fun _=>J) fun β=>aH h fun v66 Ty h=>ae.qv (bh J J J Ty) J<|ae.qv (bq J J) J<|bF (g:=aM.av) (wi:=(⟨v66.Name,v66.Kind,v64.1,v66.iO⟩:aM)) J J J J Ty J .p3 J<|ae.ghost<|aj.eqs (s:=57) (dD:=.sl 4 b5 0 (v1.1.2.bf.set (0:Int).toNat (⟨v66.Name,v66.Kind,v64.1,v66.iO⟩:aM)).length) J (by rw [List.length_set])<|aj.here<|ae.ghost<|aj.eqs (s:=61) (dD:=.sl 4 b5 0 (v1.1.2.bf.set (0:Int).toNat (⟨v66.Name,v66.Kind,v64.1,v66.iO⟩:aM)).length) J (by rw [List.length_set])<|aj.here<|ae.ghost<|aj.wT (j:=5) (dD:=.sl 4 b5 0 (v1.1.2.bf.set (0:Int).toNat (⟨v66.Name,v66.Kind,v64.1,v66.iO⟩:aM)).length) .p1 J (by rw [List.length_set]) J<|aj.here<|aH h fun v67 Tz h=>ae.qv (bh J J J Tz) J<|ae.qv (bq J J) J<|bF (g:=aM.av) (wi:=(⟨v67.Name,v67.Kind,v67.wv,C5.1⟩:aM)) J J J J Tz J .p3 J<|ae.ghost<|aj.eqs (s:=57) (dD:=.sl 4 b5 0 ((v1.1.2.bf.set (0:Int).toNat (⟨v66.Name,v66.Kind,v64.1,v66.iO⟩:aM)).set (0:Int).toNat (⟨v67.Name,v67.Kind,v67.wv,C5.1⟩:aM)).length) J (by rw [List.length_set])<|aj.here<|ae.ghost<|aj.eqs (s:=61) (dD:=.sl 4 b5 0 ((v1.1.2.bf.set (0:Int).toNat (⟨v66.Name,v66.Kind,v64.1,v66.iO⟩:aM)).set (0:Int).toNat (⟨v67.Name,v67.Kind,v67.wv,C5.1⟩:aM)).length) J (by rw [List.length_set])<|aj.here<|ae.ghost<|aj.wT (j:=5) (dD:=.sl 4 b5 0 ((v1.1.2.bf.set (0:Int).toNat (⟨v66.Name,v66.Kind,v64.1,v66.iO⟩:aM)).set (0:Int).toNat (⟨v67.Name,v67.Kind,v67.wv,C5.1⟩:aM)).length) .p1 J (by rw [List.length_set]) J<|aj.here<|rN<|aa.stop<|aj.freeze .p2<|aj.kP (j:=2) .p1 J (Co.mg .p2) J J<|aj.freeze .p3<|aj.kP (j:=5) .p1 J (Co.mg .p3) J J<|aj.lO (xs:=([v1.1.1,(⟨v1.1.2.Key,v1.1.2.Prefix,(v1.1.2.bf.set (0:Int).toNat (⟨v66.Name,v66.Kind,v64.1,v66.iO⟩:aM)).set (0:Int).toNat (⟨v67.Name,v67.Kind,v67.wv,C5.1⟩:aM)⟩:Model)]:List Model).map Model.av) e2 .p1 J J J<|aj.lq [0,0] ⟨b3,C5.2.L,C5.2.at_,[v1.1.1,(⟨v1.1.2.Key,v1.1.2.Prefix,(v1.1.2.bf.set (0:Int).toNat (⟨v66.Name,v66.Kind,v64.1,v66.iO⟩:aM)).set (0:Int).toNat (⟨v67.Name,v67.Kind,v67.wv,C5.1⟩:aM)⟩:Model)],h,J⟩ J J
            ·exact tR<|rM J J<|ae.qv (cF J J J J J) J<|aR (xs:=[.agg [.str ([109,122]:ax),.str ([81,81]:ax),.nil]]) J J J J J J<|ae.ghost<|aj.SP (s:=17) (dD:=.list 3 (([(⟨([109,122]:ax),([81,81]:ax),[]⟩:Model)]:List Model).map Model.av)) J (Bc.GO (.cons .r (.cons .r (.cons .n .nil))) J J)<|aj.here<|ae.ghost<|aj.freeze .p2<|aj.here<|ae.ghost<|aj.kP (j:=2) .p1 J (Co.mg .p2) J J<|aj.here<|ae.ghost<|aj.freeze .p3<|aj.here<|ae.ghost<|aj.kP (j:=5) .p1 J (Co.mg .p3) J J<|aj.here<|ae.ghost<|aj.lO (xs:=([v1.1.1,v1.1.2]:List Model).map Model.av) e2 .p1 J J J<|aj.here<|aH h fun Vv VP h=>iM (g:=Model.av) J J J J J J J J (.list _) VP (fun _=>.p1) J fun b69=>rA J J<|rN<|aa.stop<|aj.lq [0,0] ⟨b69,v41.2.L,v41.2.at_,Vv,h,J⟩ J J
           ·rintro aK ⟨Tw,PU,n61,OW,h,rfl⟩
            unfold kX at h
            exact aa.stop<|aj.lq [0,0] ⟨Tw,PU,n61,OW,h,J⟩ J J
         ·rintro aK ⟨Tv,PS,PT,OV,h,rfl⟩
          unfold kW at h
          exact aa.stop<|aj.lq [0,0] ⟨Tv,PS,PT,OV,h,J⟩ J J
       ·rintro aK ⟨Tu,xT,n48,Bf,h,rfl⟩
        unfold kV at h
        exact aa.stop<|aj.lq [0,0] ⟨Tu,xT,n48,Bf,h,J⟩ J J
     ·rintro aK ⟨Tt,PR,n43,OU,h,rfl⟩
      unfold kU at h
      exact aa.cy<|aa.stop<|aj.lq [0,0] ⟨Tt,PR,n43,OU,h,J⟩ J J
    ·replace h:=uj Hb h
     cases h
  ·exact tK<|aa.stop<|aj.freeze .p2<|aj.kP (j:=2) .p1 J (Co.mg .p2) J J<|aj.freeze .p3<|aj.kP (j:=5) .p1 J (Co.mg .p3) J J<|aj.lO (xs:=([v1.1.1,v1.1.2]:List Model).map Model.av) e2 .p1 J J J<|aj.lq [0,0] ⟨b3,v6.2.L,v6.2.at_,[v1.1.1,v1.1.2],h,J⟩ J J
 ·rintro aK ⟨b9,l7,n8,l10,h,rfl⟩
  unfold jg at h
  refine aF<|rM J J<|rA J J<|rN<|aa.ret<|?_
  cases h
  exact aj.freeze .p1<|aj.co (s:=2) J (Co.mg .p1)<|aj.here ⟨_,.cons (.tmp _ _ J) .nil,_,.cons .p0 .nil,⟨J,J⟩⟩
theorem wy [GI:bt] {aQ:Bk} {ab:ak} {ah:Int} {r:ai×ak} (h:jN ab ah=some r):aG Tryz.prog 8 [.ptr aQ 0,I ah] [(aQ,.cells [ig ab.L,I ab.at_])] (T0 ([(aQ,.cells [ig r.2.L,I r.2.at_])]) (ai.av r.1)):=by
 unfold jN at h
 refine aG.eP ?_
 refine aG.bc Tryz.func8 J Tryz.ntmps8 Tryz.results8 J J ?_
 refine aF<|fj J J J J fun b1=>rN<|aF<|rM J J<|rM J J<|aR (xs:=([(1:Int),(1:Int),(2:Int),(2:Int),(3:Int),(4:Int),(5:Int),(6:Int),(6:Int),(7:Int),(8:Int),(9:Int)]).map I) J J J J J J<|aH h fun v2 e1 h=>aT J (dC e1) cR (.cons .p1 .nil) J J<|rM J J<|aR (xs:=([([100,97]:ax),([100,97]:ax),([100,98]:ax),([100,99]:ax)]).map AV.str) J J J J J J<|aH h fun v3 e2 h=>aT J (bG e2) cR (.cons .p0 .nil) J J<|ae.qv (cF J J J J J) J<|fj J J J J fun b4=>aD J J J J .p0 J J<|rN<|tS<|aF<|rF J J J<|rL J J .p0 J J<|rN<|aa.block<|aF<|ae.qv (bM J J) J<|rA J J<|rN<|aa.cut (fun aK=>∃ (l5:List Int) (n6:Int) (q7:ax) (q8:ax) (n9:Int) (Bh:ax) (vy:ax) (Bi:ax) (n13:Int) (n14:Int) (n15:Int),fB ah v2 v3 l5 n6 q7 q8 n9 Bh vy Bi n13 n14 n15=some r∧aK=⟨104,[(0,.ptr aQ 0),(4,.ptr b1 0),(5,.ptr b4 0)],[(aQ,.cells [ig l5,I n6]),(b1,.cells [.str [],I (0:Int),I (0:Int),I (0:Int),I (0:Int),.str [],.str [],.str [],I (0:Int),.str [],.str [],.str [],I (0:Int),I (0:Int),I (0:Int),I (0:Int)]),(b4,.cells [.str [],I (0:Int),I (0:Int),I ah,I v2.1,.str v3.1,.str q7,.str q8,I n9,.str Bh,.str vy,.str Bi,I n13,I n14,I n15,I (0:Int)])]⟩) ?_ ?_
 ·refine cD h J (fun h=>?_) (fun h=>?_)
  ·exact tR<|rM J J<|aR (xs:=([([109,97]:ax),([109,97]:ax),([109,98]:ax)]).map AV.str) J J J J J J<|aH h fun tI e3 h=>aT J (bG e3) cR (.cons .p1 .nil) J J<|rM J J<|aR (xs:=([(1:Int),(2:Int),(3:Int)]).map I) J J J J J J<|aH h fun v17 e4 h=>aT J (dC e4) cR (.cons .p0 .nil) J J<|rM J J<|aR (xs:=([([48,97]:ax),([48,98]:ax),([48,99]:ax)]).map AV.str) J J J J J J<|aH h fun DB e5 h=>aT J (bG e5) cR (.cons .p0 .nil) J J<|rF J J J<|aD J J J J .p1 J J<|rF J J J<|aD J J J J .p1 J J<|rF J J J<|aD J J J J .p1 J J<|rN<|aa.stop<|aj.lq [0,1,0] ⟨DB.2.L,DB.2.at_,tI.1,[],v17.1,DB.1,[],[],(0:Int),(0:Int),(0:Int),h,J⟩ J J
  ·refine aF<|ae.qv (bM J J) J<|rA J J<|rN<|aa.cut (fun aK=>∃ (Ia:List Int) (n20:Int) (Qi:ax) (Qj:ax) (Qk:ax) (Ql:ax) (n25:Int) (n26:Int) (n27:Int),gP ah v2 v3 Ia n20 Qi Qj Qk Ql n25 n26 n27=some r∧aK=⟨104,[(0,.ptr aQ 0),(4,.ptr b1 0),(5,.ptr b4 0)],[(aQ,.cells [ig Ia,I n20]),(b1,.cells [.str [],I (0:Int),I (0:Int),I (0:Int),I (0:Int),.str [],.str [],.str [],I (0:Int),.str [],.str [],.str [],I (0:Int),I (0:Int),I (0:Int),I (0:Int)]),(b4,.cells [.str [],I (0:Int),I (0:Int),I ah,I v2.1,.str v3.1,.str [],.str Qi,I (0:Int),.str Qj,.str Qk,.str Ql,I n25,I n26,I n27,I (0:Int)])]⟩) ?_ ?_
   ·refine cD h J (fun h=>?_) (fun h=>?_)
    ·exact tR<|rM J J<|aR (xs:=([([116,97]:ax),([116,97]:ax),([116,98]:ax),([116,99]:ax)]).map AV.str) J J J J J J<|aH h fun v28 e6 h=>aT J (bG e6) cR (.cons .p1 .nil) J J<|rF J J J<|aD J J J J .p1 J J<|rN<|aa.stop<|aj.lq [0,1,0] ⟨v28.2.L,v28.2.at_,v28.1,[],[],[],(0:Int),(0:Int),(0:Int),h,J⟩ J J
    ·refine aF<|ae.qv (bM J J) J<|rA J J<|rN<|aa.cut (fun aK=>∃ (pJ:List Int) (n30:Int) (Qm:ax) (Qn:ax) (Qo:ax) (n34:Int) (n35:Int) (n36:Int),gQ ah v2 v3 pJ n30 Qm Qn Qo n34 n35 n36=some r∧aK=⟨104,[(0,.ptr aQ 0),(4,.ptr b1 0),(5,.ptr b4 0)],[(aQ,.cells [ig pJ,I n30]),(b1,.cells [.str [],I (0:Int),I (0:Int),I (0:Int),I (0:Int),.str [],.str [],.str [],I (0:Int),.str [],.str [],.str [],I (0:Int),I (0:Int),I (0:Int),I (0:Int)]),(b4,.cells [.str [],I (0:Int),I (0:Int),I ah,I v2.1,.str v3.1,.str [],.str [],I (0:Int),.str Qm,.str Qn,.str Qo,I n34,I n35,I n36,I (0:Int)])]⟩) ?_ ?_
     ·refine cD h J (fun h=>?_) (fun h=>?_)
      ·exact tR<|rM J J<|aR (xs:=([([48,97]:ax),([49,97]:ax),([49,98]:ax),([49,99]:ax)]).map AV.str) J J J J J J<|aH h fun v37 e7 h=>aT J (bG e7) cR (.cons .p1 .nil) J J<|rM J J<|rM J J<|aR (xs:=([(0:Int),(5:Int),(50:Int),(1000:Int)]).map I) J J J J J J<|aH h fun aI e8 h=>aT J (dC e8) cR (.cons .p0 .nil) J J<|ae.qv (br J J) J<|rF J J J<|aD J J J J .p1 J J<|rF J J J<|aD J J J J .p1 J J<|rN<|aa.stop<|aj.lq [0,1,0] ⟨aI.2.L,aI.2.at_,v37.1,[],[],aZ (ah+aI.1),(0:Int),(0:Int),h,J⟩ J J
      ·refine aF<|ae.qv (bM J J) J<|rA J J<|rN<|aa.cut (fun aK=>∃ (Le:List Int) (n40:Int) (Qp:ax) (Ib:ax) (n43:Int) (n44:Int),gR ah v2 v3 Le n40 Qp Ib n43 n44=some r∧aK=⟨104,[(0,.ptr aQ 0),(4,.ptr b1 0),(5,.ptr b4 0)],[(aQ,.cells [ig Le,I n40]),(b1,.cells [.str [],I (0:Int),I (0:Int),I (0:Int),I (0:Int),.str [],.str [],.str [],I (0:Int),.str [],.str [],.str [],I (0:Int),I (0:Int),I (0:Int),I (0:Int)]),(b4,.cells [.str [],I (0:Int),I (0:Int),I ah,I v2.1,.str v3.1,.str [],.str [],I (0:Int),.str [],.str Qp,.str Ib,I (0:Int),I n43,I n44,I (0:Int)])]⟩) ?_ ?_
       ·refine cD h J (fun h=>?_) (fun h=>?_)
        ·exact tR<|rM J J<|aR (xs:=([(0:Int),(1:Int),(1:Int)]).map I) J J J J J J<|aH h fun v45 e9 h=>aT J (dC e9) cR (.cons .p1 .nil) J J<|rM J J<|aR (xs:=([(0:Int),(2:Int)]).map I) J J J J J J<|aH h fun v46 Ft h=>aT J (dC Ft) cR (.cons .p0 .nil) J J<|ae.qv (cF J J J J J) J<|rF J J J<|aD J J J J .p1 J J<|rN<|aa.stop<|aj.lq [0,1,0] ⟨v46.2.L,v46.2.at_,[],[],v45.1,v46.1,h,J⟩ J J
        ·refine aF<|ae.qv (bM J J) J<|rA J J<|rN<|aa.cut (fun aK=>∃ (xT:List Int) (n48:Int) (Qq:ax) (Qr:ax),gS ah v2 v3 xT n48 Qq Qr=some r∧aK=⟨104,[(0,.ptr aQ 0),(4,.ptr b1 0),(5,.ptr b4 0)],[(aQ,.cells [ig xT,I n48]),(b1,.cells [.str [],I (0:Int),I (0:Int),I (0:Int),I (0:Int),.str [],.str [],.str [],I (0:Int),.str [],.str [],.str [],I (0:Int),I (0:Int),I (0:Int),I (0:Int)]),(b4,.cells [.str [],I (0:Int),I (0:Int),I ah,I v2.1,.str v3.1,.str [],.str [],I (0:Int),.str [],.str Qq,.str Qr,I (0:Int),I (0:Int),I (0:Int),I (0:Int)])]⟩) ?_ ?_
         ·refine cD h J (fun h=>?_) (fun h=>?_)
          ·exact tR<|rM J J<|aR (xs:=([([115,105,116,101]:ax),([115,105,116,101]:ax),([111,112,101,110]:ax)]).map AV.str) J J J J J J<|aH h fun v51 IS h=>aT J (bG IS) cR (.cons .p1 .nil) J J<|rM J J<|aR (xs:=([([120]:ax),([121]:ax),([97,32,98]:ax),([]:ax)]).map AV.str) J J J J J J<|aH h fun O2 Ck h=>aT J (bG Ck) cR (.cons .p0 .nil) J J<|rF J J J<|aD J J J J .p1 J J<|rF J J J<|aD J J J J .p1 J J<|rN<|aa.stop<|aj.lq [0,1,0] ⟨O2.2.L,O2.2.at_,v51.1,O2.1,h,J⟩ J J
          ·exact tK<|aa.stop<|aj.lq [1,1,0] ⟨v3.2.L,v3.2.at_,[],[],h,J⟩ J J
         ·rintro aK ⟨xT,n48,Qq,Qr,h,rfl⟩
          unfold gS at h
          exact aa.stop<|aj.lq [0,0,0] ⟨xT,n48,Qq,Qr,(0:Int),(0:Int),h,J⟩ J J
       ·rintro aK ⟨Le,n40,Qp,Ib,n43,n44,h,rfl⟩
        unfold gR at h
        exact aa.stop<|aj.lq [0,0,0] ⟨Le,n40,[],Qp,Ib,(0:Int),n43,n44,h,J⟩ J J
     ·rintro aK ⟨pJ,n30,Qm,Qn,Qo,n34,n35,n36,h,rfl⟩
      unfold gQ at h
      exact aa.stop<|aj.lq [0,0,0] ⟨pJ,n30,[],Qm,Qn,Qo,n34,n35,n36,h,J⟩ J J
   ·rintro aK ⟨Ia,n20,Qi,Qj,Qk,Ql,n25,n26,n27,h,rfl⟩
    unfold gP at h
    exact aa.stop<|aj.lq [0,0,0] ⟨Ia,n20,[],Qi,(0:Int),Qj,Qk,Ql,n25,n26,n27,h,J⟩ J J
 ·rintro aK ⟨l5,n6,q7,q8,n9,Bh,vy,Bi,n13,n14,n15,h,rfl⟩
  unfold fB at h
  refine aa.cy<|tS<|aF<|rM J J<|aH h fun v53 Lh h=>aT J (pd Lh) cR (.cons .p0 .nil) J J<|rN<|aa.cut (fun aK=>∃ (RH:List Int) (RI:Int) (OX:Int) (OY:ax) (OZ:ax) (n59:Int) (NR:ax) (NS:ax) (n62:Int),fA ah q7 vy n14 n15 RH RI OX OY OZ n59 NR NS n62=some r∧aK=⟨104,[(4,.ptr b1 0),(5,.ptr b4 0)],[(aQ,.cells [ig RH,I RI]),(b1,.cells [.str [],I (0:Int),I (0:Int),I (0:Int),I (0:Int),.str [],.str [],.str [],I (0:Int),.str [],.str [],.str [],I (0:Int),I (0:Int),I (0:Int),I (0:Int)]),(b4,.cells [.str [],I (0:Int),I (0:Int),I ah,I OX,.str OY,.str q7,.str OZ,I n59,.str NR,.str vy,.str NS,I n62,I n14,I n15,I (0:Int)])]⟩) ?_ ?_
  ·refine cB h J (fun h=>?_) (fun h=>?_)
   ·refine aF<|rM J J<|aH h fun NT Kl h=>aT J (ed Kl) cR (.cons .p0 .nil) J J<|rN<|aa.block<|aF<|ae.qv (bM J J) J<|rA J J<|rN<|aa.cut (fun aK=>∃ (PV:List Int) (PW:Int) (PX:Int) (PY:ax) (PZ:ax) (n69:Int) (P0:ax) (P1:ax) (P2:Int),gM ah q7 vy n14 n15 PV PW PX PY PZ n69 P0 P1 P2=some r∧aK=⟨104,[(4,.ptr b1 0),(5,.ptr b4 0)],[(aQ,.cells [ig PV,I PW]),(b1,.cells [.str [],I (0:Int),I (0:Int),I (0:Int),I (0:Int),.str [],.str [],.str [],I (0:Int),.str [],.str [],.str [],I (0:Int),I (0:Int),I (0:Int),I (0:Int)]),(b4,.cells [.str [],I (0:Int),I (0:Int),I ah,I PX,.str PY,.str q7,.str PZ,I n69,.str P0,.str vy,.str P1,I P2,I n14,I n15,I (0:Int)])]⟩) ?_ ?_
    ·refine cD h J (fun h=>?_) (fun h=>?_)
     ·exact tR<|rM J J<|aH h fun O0 Km h=>aT J (iu Km) cR (.cons .p0 .nil) J J<|rF J J J<|aD J J J J .p2 J J<|rN<|aa.stop<|aj.lq [0,0,0] ⟨O0.2.L,O0.2.at_,O0.1,v3.1,q8,n9,Bh,Bi,n13,h,J⟩ J J
     ·refine aF<|ae.qv (bM J J) J<|rA J J<|rN<|aa.cut (fun aK=>∃ (P3:List Int) (P4:Int) (P5:ax) (P6:ax) (P7:Int) (P8:ax) (P9:ax) (Qa:Int),gN ah v2 q7 vy n14 n15 P3 P4 P5 P6 P7 P8 P9 Qa=some r∧aK=⟨104,[(4,.ptr b1 0),(5,.ptr b4 0)],[(aQ,.cells [ig P3,I P4]),(b1,.cells [.str [],I (0:Int),I (0:Int),I (0:Int),I (0:Int),.str [],.str [],.str [],I (0:Int),.str [],.str [],.str [],I (0:Int),I (0:Int),I (0:Int),I (0:Int)]),(b4,.cells [.str [],I (0:Int),I (0:Int),I ah,I v2.1,.str P5,.str q7,.str P6,I P7,.str P8,.str vy,.str P9,I Qa,I n14,I n15,I (0:Int)])]⟩) ?_ ?_
      ·refine cD h J (fun h=>?_) (fun h=>?_)
       ·exact tR<|rM J J<|aR (xs:=([([]:ax),([65]:ax),([100,97]:ax)]).map AV.str) J J J J J J<|aH h fun v82 Li h=>aT J (bG Li) cR (.cons .p0 .nil) J J<|rM J J<|aR (xs:=([([]:ax),([116]:ax)]).map AV.str) J J J J J J<|aH h fun O1 Sa h=>aT J (bG Sa) cR (.cons .p0 .nil) J J<|rF J J J<|aD J J J J .p2 J J<|rF J J J<|aD J J J J .p2 J J<|rN<|aa.stop<|aj.lq [0,0,0] ⟨O1.2.L,O1.2.at_,v82.1,O1.1,n9,Bh,Bi,n13,h,J⟩ J J
       ·refine aF<|ae.qv (bM J J) J<|rA J J<|rN<|aa.cut (fun aK=>∃ (Qb:List Int) (Qd:Int) (Qe:Int) (Qf:ax) (Qg:ax) (Qh:Int),gO ah v2 v3 q7 q8 vy n14 n15 Qb Qd Qe Qf Qg Qh=some r∧aK=⟨104,[(4,.ptr b1 0),(5,.ptr b4 0)],[(aQ,.cells [ig Qb,I Qd]),(b1,.cells [.str [],I (0:Int),I (0:Int),I (0:Int),I (0:Int),.str [],.str [],.str [],I (0:Int),.str [],.str [],.str [],I (0:Int),I (0:Int),I (0:Int),I (0:Int)]),(b4,.cells [.str [],I (0:Int),I (0:Int),I ah,I v2.1,.str v3.1,.str q7,.str q8,I Qe,.str Qf,.str vy,.str Qg,I Qh,I n14,I n15,I (0:Int)])]⟩) ?_ ?_
        ·refine cD h J (fun h=>?_) (fun h=>?_)
         ·exact tR<|rM J J<|aH h fun Tn MQ h=>aT J (iu MQ) cR (.cons .p0 .nil) J J<|rM J J<|aH h fun v91 MR h=>aT J (iu MR) cR (.cons .p0 .nil) J J<|rF J J J<|aD J J J J .p2 J J<|rF J J J<|aD J J J J .p2 J J<|rN<|aa.stop<|aj.lq [0,0,0] ⟨v91.2.L,v91.2.at_,Tn.1,Bh,Bi,v91.1,h,J⟩ J J
         ·exact tR<|rM J J<|aR (xs:=([([]:ax),([71]:ax),([48,97]:ax)]).map AV.str) J J J J J J<|aH h fun Tp MS h=>aT J (bG MS) cR (.cons .p0 .nil) J J<|rM J J<|aR (xs:=([([]:ax),([32,120]:ax),([120]:ax)]).map AV.str) J J J J J J<|aH h fun v93 R9 h=>aT J (bG R9) cR (.cons .p0 .nil) J J<|rF J J J<|aD J J J J .p2 J J<|rF J J J<|aD J J J J .p2 J J<|rN<|aa.stop<|aj.lq [0,0,0] ⟨v93.2.L,v93.2.at_,n9,Tp.1,v93.1,n13,h,J⟩ J J
        ·rintro aK ⟨Qb,Qd,Qe,Qf,Qg,Qh,h,rfl⟩
         unfold gO at h
         exact aa.stop<|aj.lq [0,0,0] ⟨Qb,Qd,v3.1,q8,Qe,Qf,Qg,Qh,h,J⟩ J J
      ·rintro aK ⟨P3,P4,P5,P6,P7,P8,P9,Qa,h,rfl⟩
       unfold gN at h
       exact aa.stop<|aj.lq [0,0,0] ⟨P3,P4,v2.1,P5,P6,P7,P8,P9,Qa,h,J⟩ J J
    ·rintro aK ⟨PV,PW,PX,PY,PZ,n69,P0,P1,P2,h,rfl⟩
     unfold gM at h
     exact aa.cy<|aa.stop<|aj.lq [0,0,0] ⟨PV,PW,PX,PY,PZ,n69,P0,P1,P2,h,J⟩ J J
   ·exact tK<|aa.stop<|aj.lq [0,0,0] ⟨v53.2.L,v53.2.at_,v2.1,v3.1,q8,n9,Bh,Bi,n13,h,J⟩ J J
  ·rintro aK ⟨RH,RI,OX,OY,OZ,n59,NR,NS,n62,h,rfl⟩
   unfold fA at h
   refine aF<|ae.qv (aU J J .p2 J) J<|aD J J J J .p1 J J<|rN<|aa.ret<|?_
   cases h
   exact aj.here ⟨_,.cons (.all _ _ _ _ _ _ J .p1 ay.h aP.h J J) .nil,_,.cons .p0 .nil,⟨J,J⟩⟩
theorem tB [GI:bt] {ab:Int} {r:Bool} (h:cmp_isNaN_int ab=r):Pu Tryz.prog 123 [I ab] (.bool r):=by
 unfold cmp_isNaN_int at h
 refine aG.bc Tryz.func123 J Tryz.ntmps123 Tryz.results123 J J ?_
 refine aF<|rA J J<|rN<|aF<|rM J J<|rM J J<|ae.qv (fe J J) J<|rA J J<|rN<|aa.ret<|?_
 obtain rfl:=h
 exact hP J J
theorem lH [GI:bt] {ab:Int} {ah:Int} {r:Int} (h:cmp_Compare_int ab ah=r):Pu Tryz.prog 75 [I ab,I ah] (I r):=by
 unfold cmp_Compare_int at h
 refine aG.bc Tryz.func75 J Tryz.ntmps75 Tryz.results75 J J ?_
 refine aF<|rA J J<|rN<|aF<|rM J J<|aL J (tB J) cR J<|rA J J<|rN<|aF<|rM J J<|aL J (tB J) cR J<|rA J J<|rN<|tS<|aF<|rM J J<|rN<|cB h J (fun h=>?_) (fun h=>?_)
 ·refine tS<|aF<|rM J J<|rN<|cB h J (fun h=>?_) (fun h=>?_)
  ·refine aF<|rA J J<|rN<|aa.ret<|?_
   obtain rfl:=h
   exact hP J J
  ·refine tK<|aF<|rA J J<|rN<|aa.ret<|?_
   obtain rfl:=h
   exact hP J J
 ·refine tK<|tS<|aF<|rM J J<|rN<|cB h J (fun h=>?_) (fun h=>?_)
  ·refine aF<|rA J J<|rN<|aa.ret<|?_
   obtain rfl:=h
   exact hP J J
  ·refine tK<|tS<|aF<|rM J J<|rM J J<|ae.qv (cu J J) J<|rN<|cD h J (fun h=>?_) (fun h=>?_)
   ·refine aF<|rA J J<|rN<|aa.ret<|?_
    obtain rfl:=h
    exact hP J J
   ·refine tK<|tS<|aF<|rM J J<|rM J J<|ae.qv (jF J J) J<|rN<|cD h J (fun h=>?_) (fun h=>?_)
    ·refine aF<|rA J J<|rN<|aa.ret<|?_
     obtain rfl:=h
     exact hP J J
    ·refine tK<|aF<|rA J J<|rN<|aa.ret<|?_
     obtain rfl:=h
     exact hP J J
theorem xp [GI:bt] {ab:List Int} {r:Int} (h:qR ab=some r):Pu Tryz.prog 74 [ig ab] (I r):=by
 unfold qR at h
 refine aG.bc Tryz.func74 J Tryz.ntmps74 Tryz.results74 J J ?_
 refine aF<|rA J J<|rN<|aF<|rA J J<|rN<|tS<|aF<|rM J J<|ae.qv (fS J) J<|rM J J<|rN<|aa.block<|aa.ff (fun x:Int=>o5 ab x) (fun x aK=>aK=⟨18,[(3,I (0:Int)),(6,ig ab),(7,I (ab.length:Int)),(8,I x)],[]⟩) h ?_ ?_
 ·exact aj.lq [] J J J
 ·intro n2 z1 aK J1 iV h lK fV
  obtain rfl:=iV
  replace h:o5 ab n2=some z1:=h
  unfold o5 at h
  refine aF<|ae.qv (cu J J) J<|rN<|tS<|cD h J (fun h=>?_) (fun h=>?_)
  ·refine tK<|tS<|aa.block<|aF<|aH h fun v3 e1 h=>ae.qv (cK J J J e1 J J) J<|ae.qv (bC J J J) J<|rA J J<|rN<|aF<|rM J J<|rM J J<|ae.qv (fe J J) J<|rN<|cD h J (fun h=>?_) (fun h=>?_)
   ·refine aF<|rM J J<|rA J J<|rN<|aa.ret<|have h:=cH h fV;?_
    cases h
    exact hP J J
   ·refine tK<|aa.cy<|tR<|ae.qv (br J J) J<|rM J J<|rN<|aa.stop<|?_
    cases h
    exact lK _ _ J<|aj.lq [] J J J
  ·refine aa.exit J<|have h:=cH h fV;aF<|rM J J<|rA J J<|rN<|aa.ret<|?_
   cases h
   exact hP J J
theorem uH [GI:bt] {ab:ai} {ah:ai} {r:Int} (h:mi ab ah=some r):Pu Tryz.prog 40 [ai.av ab,ai.av ah] (I r):=by
 unfold mi at h
 refine aG.bc Tryz.func40 J Tryz.ntmps40 Tryz.results40 J J ?_
 refine aF<|de J J J J fun b1=>de J J J J fun b2=>rA J J<|rN<|tS<|aa.bQ (id:=1) (A:=[0,1,0,4,15,0,32,0,128,511,0,1024,0,4096,16383,32767,65535,131071]) 18 mixed J (by kernel_rfl) (by kernel_rfl)<|AM.qv (au J J) J<|AM.qv (az J J .p1 J) J<|AM.qv (au J J) J<|AM.qv (az J J .p0 J) J<|AM.oE J (lH J) cR J<|AM.qv (au J J) J<|AM.qv (az J J .p1 J) J<|AM.qv (au J J) J<|AM.qv (az J J .p0 J) J<|AM.oE J (gD J) cR J<|AM.qv (au J J) J<|AM.qv (az J J .p1 J) J<|AM.qv (au J J) J<|AM.qv (az J J .p0 J) J<|AM.oE J (lH J) cR J<|AM.fG (xs:=([(cmp_Compare_int ab.aW ah.aW),(Lib.compareBytes ab.iB ah.iB),(cmp_Compare_int ab.No ah.No)]:List Int).map I) J J J J J J<|aH h fun v3 e1 h=>AM.oE J (xp e1) cR J<|AM.qv (bd J) J<|AM.nil<|rN<|aa.ret<|?_
 cases h
 exact hP J J
theorem iz [GI:bt] {aQ:Bk} {ab:List ai} {ah:Int} {aA:Int} {lN:ai→ai→Option Int} {Cl:FuncId} [ba Tryz.prog Cl] {ER:List AV} (Sb:∀ {y0 y1:_} {u:Int},lN y0 y1=some u→Pu Tryz.prog Cl (ai.av y0 :: ai.av y1 :: ER) (I u)) {r:(List ai)} (h:bJ ab ah aA lN=some r):aG Tryz.prog 121 [.sl 16 aQ 0 ab.length,I ah,I aA,.func (.func Cl) ER] [(aQ,iS ab)] (T0 ([(aQ,iS r)]) (.mN [])):=by
 unfold bJ at h
 refine aG.eP ?_
 refine aG.bc Tryz.func121 J Tryz.ntmps121 Tryz.results121 J J ?_
 refine aF<|rM J J<|ae.qv (br J J) J<|rA J J<|rN<|aa.block<|aa.ff (fun x:(List ai)×Int=>ct ah aA lN x.1 x.2) (fun x aK=>aK=⟨53,[(0,.sl 16 aQ 0 x.1.length),(1,I ah),(2,I aA),(3,.func (.func Cl) ER),(8,I x.2)],[(aQ,iS x.1)]⟩) h ?_ ?_
 ·exact aj.lq [0] J J J
 ·intro x z1 aK J1 iV h lK fV
  obtain ⟨l3,n4⟩:=x
  obtain rfl:=iV
  replace h:ct ah aA lN l3 n4=some z1:=h
  unfold ct at h
  refine tS<|aF<|rM J J<|rM J J<|ae.qv (cu J J) J<|rN<|cD h J (fun h=>?_) (fun h=>?_)
  ·refine tK<|tS<|aa.block<|aF<|rM J J<|rA J J<|rN<|aa.block<|aa.ff (fun x:(List ai)×Int=>cS ah lN n4 x.1 x.2) (fun x aK=>aK=⟨53,[(0,.sl 16 aQ 0 x.1.length),(1,I ah),(2,I aA),(3,.func (.func Cl) ER),(8,I n4),(9,I x.2)],[(aQ,iS x.1)]⟩) h ?_ ?_
   ·exact aj.lq [0] J J J
   ·intro x z2 aK J2 iV h O5 IT
    obtain ⟨l7,n8⟩:=x
    obtain rfl:=iV
    replace h:cS ah lN n4 l7 n8=some z2:=h
    unfold cS at h
    refine tS<|tS<|aa.cut (fun aK=>∃ (c9:Bool),cQ n4 l7 n8 c9=some z2∧aK=⟨53,[(0,.sl 16 aQ 0 l7.length),(1,I ah),(2,I aA),(3,.func (.func Cl) ER),(8,I n4),(9,I n8),(34,.bool c9)],[(aQ,iS l7)]⟩) ?_ ?_
    ·refine aa.bQ (id:=4) (A:=[0,0,3,7,15,15,15,111,239,15,15,1039,3599,7695,16383,32767,65535]) 17 mixed J (by kernel_rfl) (by kernel_rfl)<|AM.qv (aq J) J<|AM.qv (aq J) J<|AM.qv (jF J J) J<|AM.qv (aq J) J<|AM.bV J J J (fun hc=>?_) (fun hc=>?_)
     ·exact have h:=kM hc h;AM.qv (aq J) J<|AM.ar J J J<|AM.qv (aq J) J<|AM.ar J J J<|AM.qv (aq J) J<|AM.ar J J J<|aH h fun v10 e1 h=>AM.qv (bh J J J e1) J<|AM.ar J J J<|AM.qv (bD (g:=ai.av) J J (.inl .p0) J e1 J) J<|AM.ar J J J<|AM.qv (aq J) J<|AM.ar J J J<|AM.qv (aq J) J<|AM.ar J J J<|AM.qv (dm J J) J<|AM.ar J J J<|aH h fun v11 e2 h=>AM.qv (bh J J J e2) J<|AM.ar J J J<|AM.qv (bD (g:=ai.av) J J (.inl .p0) J e2 J) J<|AM.ar J J J<|aH h fun v12 e3 h=>AM.CW J J (Sb e3) cR J<|AM.ar J J J<|AM.qv (cu J J) J<|AM.qv (cJ J J) J<|AM.nil<|rN<|aa.stop<|aj.lq [0] ⟨decide (v12 < (0:Int)),h,J⟩ J J
     ·exact have h:=uj hc h;AM.aB J J J J<|AM.aB J J J J<|AM.aB J J J J<|AM.aB J J J J<|AM.aB J J J J<|AM.aB J J J J<|AM.aB J J J J<|AM.aB J J J J<|AM.aB J J J J<|AM.aB J J J J<|AM.aB J J J J<|AM.qv (cm J J) J<|AM.nil<|rN<|aa.stop<|aj.lq [0] ⟨false,h,J⟩ J J
    ·rintro aK ⟨c9,h,rfl⟩
     unfold cQ at h
     refine cB h J (fun h=>?_) (fun h=>?_)
     ·refine tK<|tS<|aa.block<|aH h fun Av e4 h=>aH h fun ow e5 h=>aH h fun pI e6 h=>aa.ik (id:=6) (A:=[0,0,0,0,8,0,0,64,224,480,0,0,3072,7168,16355,32739,65535,131071]) (H0:=[(aQ,iS l7)]) (HH:=fun β=>[(aQ,iS (l7.set n8.toNat Av))]) 16 mixed J (by kernel_rfl) (by kernel_rfl) [⟨none,some 15,[9,13],fun _=>(aQ,iS l7),none,[]⟩,⟨some 15,none,[],fun _=>(aQ,iS (l7.set n8.toNat Av)),none,[]⟩] [] J (by kernel_rfl) J (.cons .p0 .nil) (fun _=>J)<|AT.am 9 J J<|AM.qv (aq J) J<|AM.qv (aq J) J<|AM.qv (aq J) J<|AM.qv (aq J) J<|AM.qv (dm J J) J<|AM.qv (aq J) J<|AM.qv (aq J) J<|AM.qv (dm J J) J<|AM.qv (bh J J J e4) J<|AM.nil<|AT.rd (Rs:=[(aQ,iS l7)]) (fun _=>J) J (fun _=>J) (fun _=>J) (bD (g:=ai.av) J J (.inl .p0) J e4 J) J<|AT.am 3 J J<|AM.qv (aq J) J<|AM.qv (aq J) J<|AM.qv (bh J J J e5) J<|AM.nil<|AT.rd (Rs:=[(aQ,iS l7)]) (fun _=>J) J (fun _=>J) (fun _=>J) (bD (g:=ai.av) J J (.inl .p0) J e5 J) J<|AT.am 1 J J<|AM.qv (bh J J J e6) J<|AM.nil<|AT.wY (Ti:=[(aQ,iS l7)]) (Pi:=[(aQ,iS (l7.set n8.toNat Av))]) (fun _=>J) (fun _=>J) (fun _=>J) J J ?_ ?_
      ·exact bF (g:=ai.av) (wi:=Av) J J J J e6 J .p0 J<|ae.nil ⟨_,J⟩
      refine AT.sZ (fun _=>J) fun β=>ae.ghost<|aj.eqs (s:=0) (dD:=.sl 16 aQ 0 (l7.set n8.toNat Av).length) J (by simp)<|aj.here<|ae.ghost<|aj.eqs (s:=37) (dD:=.sl 16 aQ 0 (l7.set n8.toNat Av).length) J (by simp)<|aj.here<|ae.ghost<|aj.eqs (s:=39) (dD:=.sl 16 aQ 0 (l7.set n8.toNat Av).length) J (by simp)<|aj.here<|ae.ghost<|aj.eqs (s:=42) (dD:=.sl 16 aQ 0 (l7.set n8.toNat Av).length) J (by simp)<|aj.here<|ae.ghost<|aj.eqs (s:=47) (dD:=.sl 16 aQ 0 (l7.set n8.toNat Av).length) J (by simp)<|aj.here<|aH h fun tI e7 h=>ae.qv (bh J J J e7) J<|bF (g:=ai.av) (wi:=ow) J J J J e7 J .p0 J<|ae.ghost<|aj.eqs (s:=0) (dD:=.sl 16 aQ 0 ((l7.set n8.toNat Av).set (aZ (n8 - (1:Int))).toNat ow).length) J (by rw [List.length_set])<|aj.here<|ae.ghost<|aj.eqs (s:=37) (dD:=.sl 16 aQ 0 ((l7.set n8.toNat Av).set (aZ (n8 - (1:Int))).toNat ow).length) J (by rw [List.length_set])<|aj.here<|ae.ghost<|aj.eqs (s:=39) (dD:=.sl 16 aQ 0 ((l7.set n8.toNat Av).set (aZ (n8 - (1:Int))).toNat ow).length) J (by rw [List.length_set])<|aj.here<|ae.ghost<|aj.eqs (s:=42) (dD:=.sl 16 aQ 0 ((l7.set n8.toNat Av).set (aZ (n8 - (1:Int))).toNat ow).length) J (by rw [List.length_set])<|aj.here<|ae.ghost<|aj.eqs (s:=47) (dD:=.sl 16 aQ 0 ((l7.set n8.toNat Av).set (aZ (n8 - (1:Int))).toNat ow).length) J (by rw [List.length_set])<|aj.here<|rN<|aa.cy<|tR<|rM J J<|ae.qv (dm J J) J<|rA J J<|rN<|aa.stop<|?_
      cases h
      exact O5 _ _ J<|aj.lq [0] J J J
     ·refine aa.exit J<|have h:=cH h IT;aa.cy<|tR<|rM J J<|ae.qv (br J J) J<|rA J J<|rN<|aa.stop<|?_
      cases h
      exact lK _ _ J<|aj.lq [0] J J J
  ·refine aa.exit J<|have h:=cH h fV;aa.nil<|?_
   cases h
   exact aj.here ⟨_,.nil,_,.cons .p0 .nil,⟨J,J⟩⟩
theorem fN [GI:bt] {aQ:Bk} {ab:List ai} {ah:Int} {aA:Int} {bu:Int} {kc:ai→ai→Option Int} {fx:FuncId} [ba Tryz.prog fx] {ia:List AV} (oK:∀ {y0 y1:_} {u:Int},kc y0 y1=some u→Pu Tryz.prog fx (ai.av y0 :: ai.av y1 :: ia) (I u)) {r:(List ai)} (h:di ab ah aA bu kc=some r):aG Tryz.prog 206 [.sl 16 aQ 0 ab.length,I ah,I aA,I bu,.func (.func fx) ia] [(aQ,iS ab)] (T0 ([(aQ,iS r)]) (.mN [])):=by
 unfold di at h
 refine aG.eP ?_
 refine aG.bc Tryz.func206 J Tryz.ntmps206 Tryz.results206 J J ?_
 refine aF<|rA J J<|rN<|aa.block<|aa.ff (fun x:(List ai)×Int=>dI ah aA bu x.1 x.2) (fun x aK=>aK=⟨38,[(0,.sl 16 aQ 0 x.1.length),(1,I ah),(2,I aA),(3,I bu),(10,I x.2)],[(aQ,iS x.1)]⟩) h ?_ ?_
 ·exact aj.lq [0] J J J
 ·intro x z1 aK J1 iV h lK fV
  obtain ⟨l3,n4⟩:=x
  obtain rfl:=iV
  replace h:dI ah aA bu l3 n4=some z1:=h
  unfold dI at h
  refine tS<|aF<|rM J J<|rM J J<|ae.qv (cu J J) J<|rN<|cD h J (fun h=>?_) (fun h=>?_)
  ·refine tK<|tS<|aa.block<|aH h fun v5 e1 h=>aH h fun v6 e2 h=>aH h fun v7 e3 h=>aa.ik (id:=3) (A:=[0,0,0,6,0,0,0,96,0,0,0,1536,3840,7936,0,0,0,98304,245760,507904,1048335,2096911,4194303,8388607]) (H0:=[(aQ,iS l3)]) (HH:=fun β=>[(aQ,iS (l3.set (aZ (ah+n4)).toNat v5))]) 22 mixed J (by kernel_rfl) (by kernel_rfl) [⟨none,some 21,[13,19],fun _=>(aQ,iS l3),none,[]⟩,⟨some 21,none,[],fun _=>(aQ,iS (l3.set (aZ (ah+n4)).toNat v5)),none,[]⟩] [] J (by kernel_rfl) J (.cons .p0 .nil) (fun _=>J)<|AT.am 13 J J<|AM.qv (aq J) J<|AM.qv (aq J) J<|AM.qv (aq J) J<|AM.qv (br J J) J<|AM.qv (aq J) J<|AM.qv (aq J) J<|AM.qv (aq J) J<|AM.qv (br J J) J<|AM.qv (aq J) J<|AM.qv (aq J) J<|AM.qv (aq J) J<|AM.qv (br J J) J<|AM.qv (bh J J J e1) J<|AM.nil<|AT.rd (Rs:=[(aQ,iS l3)]) (fun _=>J) J (fun _=>J) (fun _=>J) (bD (g:=ai.av) J J (.inl .p0) J e1 J) J<|AT.am 5 J J<|AM.qv (aq J) J<|AM.qv (aq J) J<|AM.qv (aq J) J<|AM.qv (br J J) J<|AM.qv (bh J J J e2) J<|AM.nil<|AT.rd (Rs:=[(aQ,iS l3)]) (fun _=>J) J (fun _=>J) (fun _=>J) (bD (g:=ai.av) J J (.inl .p0) J e2 J) J<|AT.am 1 J J<|AM.qv (bh J J J e3) J<|AM.nil<|AT.wY (Ti:=[(aQ,iS l3)]) (Pi:=[(aQ,iS (l3.set (aZ (ah+n4)).toNat v5))]) (fun _=>J) (fun _=>J) (fun _=>J) J J ?_ ?_
   ·exact bF (g:=ai.av) (wi:=v5) J J J J e3 J .p0 J<|ae.nil ⟨_,J⟩
   refine AT.sZ (fun _=>J) fun β=>ae.ghost<|aj.eqs (s:=0) (dD:=.sl 16 aQ 0 (l3.set (aZ (ah+n4)).toNat v5).length) J (by simp)<|aj.here<|ae.ghost<|aj.eqs (s:=16) (dD:=.sl 16 aQ 0 (l3.set (aZ (ah+n4)).toNat v5).length) J (by simp)<|aj.here<|ae.ghost<|aj.eqs (s:=20) (dD:=.sl 16 aQ 0 (l3.set (aZ (ah+n4)).toNat v5).length) J (by simp)<|aj.here<|ae.ghost<|aj.eqs (s:=24) (dD:=.sl 16 aQ 0 (l3.set (aZ (ah+n4)).toNat v5).length) J (by simp)<|aj.here<|ae.ghost<|aj.eqs (s:=30) (dD:=.sl 16 aQ 0 (l3.set (aZ (ah+n4)).toNat v5).length) J (by simp)<|aj.here<|aH h fun v8 e4 h=>ae.qv (bh J J J e4) J<|bF (g:=ai.av) (wi:=v6) J J J J e4 J .p0 J<|ae.ghost<|aj.eqs (s:=0) (dD:=.sl 16 aQ 0 ((l3.set (aZ (ah+n4)).toNat v5).set (aZ (aA+n4)).toNat v6).length) J (by rw [List.length_set])<|aj.here<|ae.ghost<|aj.eqs (s:=16) (dD:=.sl 16 aQ 0 ((l3.set (aZ (ah+n4)).toNat v5).set (aZ (aA+n4)).toNat v6).length) J (by rw [List.length_set])<|aj.here<|ae.ghost<|aj.eqs (s:=20) (dD:=.sl 16 aQ 0 ((l3.set (aZ (ah+n4)).toNat v5).set (aZ (aA+n4)).toNat v6).length) J (by rw [List.length_set])<|aj.here<|ae.ghost<|aj.eqs (s:=24) (dD:=.sl 16 aQ 0 ((l3.set (aZ (ah+n4)).toNat v5).set (aZ (aA+n4)).toNat v6).length) J (by rw [List.length_set])<|aj.here<|ae.ghost<|aj.eqs (s:=30) (dD:=.sl 16 aQ 0 ((l3.set (aZ (ah+n4)).toNat v5).set (aZ (aA+n4)).toNat v6).length) J (by rw [List.length_set])<|aj.here<|rN<|aa.cy<|tR<|rM J J<|ae.qv (br J J) J<|rA J J<|rN<|aa.stop<|?_
   cases h
   exact lK _ _ J<|aj.lq [0] J J J
  ·refine aa.exit J<|have h:=cH h fV;aa.nil<|?_
   cases h
   exact aj.here ⟨_,.nil,_,.cons .p0 .nil,⟨J,J⟩⟩
theorem pP [GI:bt] {aQ:Bk} {ab:List ai} {ah:Int} {aA:Int} {bu:Int} {kc:ai→ai→Option Int} {fx:FuncId} [ba Tryz.prog fx] {ia:List AV} (oK:∀ {y0 y1:_} {u:Int},kc y0 y1=some u→Pu Tryz.prog fx (ai.av y0 :: ai.av y1 :: ia) (I u)) {r:(List ai)} (h:iP ab ah aA bu kc=some r):aG Tryz.prog 177 [.sl 16 aQ 0 ab.length,I ah,I aA,I bu,.func (.func fx) ia] [(aQ,iS ab)] (T0 ([(aQ,iS r)]) (.mN [])):=by
 unfold iP at h
 refine aG.eP ?_
 refine aG.bc Tryz.func177 J Tryz.ntmps177 Tryz.results177 J J ?_
 refine aF<|rM J J<|rM J J<|ae.qv (dm J J) J<|rA J J<|rN<|aF<|rM J J<|rM J J<|ae.qv (dm J J) J<|rA J J<|rN<|tS<|aa.block<|aa.ff (fun x:(List ai)×Int×Int=>eC aA kc x.1 x.2.1 x.2.2) (fun x aK=>aK=⟨58,[(0,.sl 16 aQ 0 x.1.length),(2,I aA),(4,.func (.func fx) ia),(10,I x.2.1),(11,I x.2.2)],[(aQ,iS x.1)]⟩) h ?_ ?_
 ·exact aj.lq [0] J J J
 ·intro x z1 aK J1 iV h lK fV
  obtain ⟨l4,n5,n6⟩:=x
  obtain rfl:=iV
  replace h:eC aA kc l4 n5 n6=some z1:=h
  unfold eC at h
  refine tS<|aF<|rM J J<|rM J J<|ae.qv (fe J J) J<|rN<|cD h J (fun h=>?_) (fun h=>?_)
  ·refine tK<|aa.block<|aF<|rM J J<|rM J J<|ae.qv (jF J J) J<|rN<|aa.cut (fun aK=>∃ (l7:List ai) (n8:Int) (n9:Int),eB l7 n8 n9=some z1∧aK=⟨58,[(0,.sl 16 aQ 0 l7.length),(2,I aA),(4,.func (.func fx) ia),(10,I n8),(11,I n9)],[(aQ,iS l7)]⟩) ?_ ?_
   ·refine cD h J (fun h=>?_) (fun h=>?_)
    ·exact aF<|rM J J<|rM J J<|rM J J<|ae.qv (dm J J) J<|rM J J<|rM J J<|rM J J<|aH h fun v10 e1 h=>aT J (fN oK (kq e1)) cR (.cons .p0 .nil) J J<|ae.ghost<|aj.eqs (s:=0) (dD:=.sl 16 aQ 0 v10.length) J (congrArg (AV.sl 16 aQ 0) (dn e1))<|aj.here<|ae.ghost<|aj.eqs (s:=24) (dD:=.sl 16 aQ 0 v10.length) J (congrArg (AV.sl 16 aQ 0) (dn e1))<|aj.here<|rN<|tR<|rM J J<|rM J J<|ae.qv (dm J J) J<|rA J J<|rN<|aa.stop<|aj.lq [0] ⟨v10,aZ (n5 - n6),n6,h,J⟩ J J
    ·exact aF<|rM J J<|rM J J<|rM J J<|ae.qv (dm J J) J<|rM J J<|rM J J<|ae.qv (br J J) J<|rM J J<|ae.qv (dm J J) J<|rM J J<|rM J J<|aH h fun v11 e2 h=>aT J (fN oK (kq e2)) cR (.cons .p0 .nil) J J<|ae.ghost<|aj.eqs (s:=0) (dD:=.sl 16 aQ 0 v11.length) J (congrArg (AV.sl 16 aQ 0) (dn e2))<|aj.here<|ae.ghost<|aj.eqs (s:=35) (dD:=.sl 16 aQ 0 v11.length) J (congrArg (AV.sl 16 aQ 0) (dn e2))<|aj.here<|rN<|tR<|rM J J<|rM J J<|ae.qv (dm J J) J<|rA J J<|rN<|aa.stop<|aj.lq [0] ⟨v11,n5,aZ (n6 - n5),h,J⟩ J J
   ·rintro aK ⟨l7,n8,n9,h,rfl⟩
    unfold eB at h
    refine aa.cy<|aa.stop<|?_
    cases h
    exact lK _ _ J<|aj.lq [0] J J J
  ·refine aa.exit J<|have h:=cH h fV;?_
   unfold kd at h
   refine tR<|rM J J<|rM J J<|rM J J<|ae.qv (dm J J) J<|rM J J<|rM J J<|rM J J<|aH h fun v12 e3 h=>aT J (fN oK (kq e3)) cR (.cons .p0 .nil) J J<|ae.ghost<|aj.eqs (s:=0) (dD:=.sl 16 aQ 0 v12.length) J (congrArg (AV.sl 16 aQ 0) (dn e3))<|aj.here<|ae.ghost<|aj.eqs (s:=50) (dD:=.sl 16 aQ 0 v12.length) J (congrArg (AV.sl 16 aQ 0) (dn e3))<|aj.here<|rN<|aa.nil<|?_
   cases h
   exact aj.here ⟨_,.nil,_,.cons .p0 .nil,⟨J,J⟩⟩
theorem nL [GI:bt] {aQ:Bk} {self:(List ai)→Int→Int→Int→(ai→ai→Option Int)→Option (List ai)} (Kn:∀ {aQ:Bk} {ab:List ai} {ah:Int} {aA:Int} {bu:Int} {kc:ai→ai→Option Int} {fx:FuncId} [ba Tryz.prog fx] {ia:List AV} (oK:∀ {y0 y1:_} {u:Int},kc y0 y1=some u→Pu Tryz.prog fx (ai.av y0 :: ai.av y1 :: ia) (I u)) {r:(List ai)},self ab ah aA bu kc=some r→aG Tryz.prog 122 [.sl 16 aQ 0 ab.length,I ah,I aA,I bu,.func (.func fx) ia] [(aQ,iS ab)] (T0 ([(aQ,iS r)]) (.mN []))) {ab:List ai} {ah:Int} {aA:Int} {bu:Int} {kc:ai→ai→Option Int} {fx:FuncId} [ba Tryz.prog fx] {ia:List AV} (oK:∀ {y0 y1:_} {u:Int},kc y0 y1=some u→Pu Tryz.prog fx (ai.av y0 :: ai.av y1 :: ia) (I u)) {r:(List ai)} (h:fM self ab ah aA bu kc=some r):aG Tryz.prog 122 [.sl 16 aQ 0 ab.length,I ah,I aA,I bu,.func (.func fx) ia] [(aQ,iS ab)] (T0 ([(aQ,iS r)]) (.mN [])):=by
 unfold fM at h
 refine aG.eP ?_
 refine aG.bc Tryz.func122 J Tryz.ntmps122 Tryz.results122 J J ?_
 refine tS<|aF<|rM J J<|rM J J<|ae.qv (dm J J) J<|ae.qv (bM J J) J<|rN<|cD h J (fun h=>?_) (fun h=>?_)
 ·refine aF<|rM J J<|rA J J<|rN<|aF<|rM J J<|rA J J<|rN<|tS<|aa.block<|aa.ff (fun x:Int×Int=>dN ab ah kc x.1 x.2) (fun x aK=>aK=⟨220,[(0,.sl 16 aQ 0 ab.length),(1,I ah),(4,.func (.func fx) ia),(10,I x.1),(11,I x.2)],[(aQ,iS ab)]⟩) h ?_ ?_
  ·exact aj.lq [0] J J J
  ·intro x z1 aK J1 iV h lK fV
   obtain ⟨n3,n4⟩:=x
   obtain rfl:=iV
   replace h:dN ab ah kc n3 n4=some z1:=h
   unfold dN at h
   refine tS<|aF<|rM J J<|rM J J<|ae.qv (cu J J) J<|rN<|cD h J (fun h=>?_) (fun h=>?_)
   ·refine tK<|aa.block<|aF<|rM J J<|rM J J<|ae.qv (br J J) J<|ae.qv (jz J) J<|ae.qv (D2 J J (by decide)) J<|ae.qv (jz J) J<|rA J J<|rN<|tS<|aa.bQ (id:=5) (A:=[0,0,0,6,14,0,0,96,224,511,1023]) 11 mixed J (by kernel_rfl) (by kernel_rfl)<|AM.qv (aq J) J<|AM.qv (aq J) J<|AM.qv (aq J) J<|aH h fun v5 e1 h=>AM.qv (bh J J J e1) J<|AM.qv (bD (g:=ai.av) J J (.inl .p0) J e1 J) J<|AM.qv (aq J) J<|AM.qv (aq J) J<|aH h fun v6 e2 h=>AM.qv (bh J J J e2) J<|AM.qv (bD (g:=ai.av) J J (.inl .p0) J e2 J) J<|aH h fun v7 e3 h=>AM.CW J J (oK e3) cR J<|AM.qv (cu J J) J<|AM.nil<|rN<|aa.cut (fun aK=>∃ (n8:Int) (n9:Int),dL n8 n9=some z1∧aK=⟨220,[(0,.sl 16 aQ 0 ab.length),(1,I ah),(4,.func (.func fx) ia),(10,I n8),(11,I n9)],[(aQ,iS ab)]⟩) ?_ ?_
    ·refine cD h J (fun h=>?_) (fun h=>?_)
     ·exact tR<|rM J J<|ae.qv (br J J) J<|rA J J<|rN<|aa.stop<|aj.lq [0] ⟨aZ ((aZ (eT .u64 (IntKind.u64.wrap (aZ (n3+n4))) (1:Int)))+(1:Int)),n4,h,J⟩ J J
     ·exact tR<|rM J J<|rA J J<|rN<|aa.stop<|aj.lq [0] ⟨n3,aZ (eT .u64 (IntKind.u64.wrap (aZ (n3+n4))) (1:Int)),h,J⟩ J J
    ·rintro aK ⟨n8,n9,h,rfl⟩
     unfold dL at h
     refine aa.cy<|aa.stop<|?_
     cases h
     exact lK _ _ J<|aj.lq [0] J J J
   ·refine aa.exit J<|have h:=cH h fV;tS<|aF<|rM J J<|rA J J<|rN<|aa.block<|aa.ff (fun x:(List ai)×Int=>dM n3 x.1 x.2) (fun x aK=>aK=⟨220,[(0,.sl 16 aQ 0 x.1.length),(10,I n3),(13,I x.2)],[(aQ,iS x.1)]⟩) h ?_ ?_
    ·exact aj.lq [0] J J J
    ·intro x z2 aK J2 iV h O5 IT
     obtain ⟨qz,n13⟩:=x
     obtain rfl:=iV
     replace h:dM n3 qz n13=some z2:=h
     unfold dM at h
     refine tS<|aF<|rM J J<|rM J J<|ae.qv (dm J J) J<|ae.qv (cu J J) J<|rN<|cD h J (fun h=>?_) (fun h=>?_)
     ·refine tK<|tS<|aa.block<|aH h fun ow e4 h=>aH h fun pI e5 h=>aH h fun tI e6 h=>aa.ik (id:=11) (A:=[0,0,0,0,8,0,0,64,224,480,0,0,3072,7168,16355,32739,65535,131071]) (H0:=[(aQ,iS qz)]) (HH:=fun β=>[(aQ,iS (qz.set n13.toNat ow))]) 16 mixed J (by kernel_rfl) (by kernel_rfl) [⟨none,some 15,[9,13],fun _=>(aQ,iS qz),none,[]⟩,⟨some 15,none,[],fun _=>(aQ,iS (qz.set n13.toNat ow)),none,[]⟩] [] J (by kernel_rfl) J (.cons .p0 .nil) (fun _=>J)<|AT.am 9 J J<|AM.qv (aq J) J<|AM.qv (aq J) J<|AM.qv (aq J) J<|AM.qv (aq J) J<|AM.qv (br J J) J<|AM.qv (aq J) J<|AM.qv (aq J) J<|AM.qv (br J J) J<|AM.qv (bh J J J e4) J<|AM.nil<|AT.rd (Rs:=[(aQ,iS qz)]) (fun _=>J) J (fun _=>J) (fun _=>J) (bD (g:=ai.av) J J (.inl .p0) J e4 J) J<|AT.am 3 J J<|AM.qv (aq J) J<|AM.qv (aq J) J<|AM.qv (bh J J J e5) J<|AM.nil<|AT.rd (Rs:=[(aQ,iS qz)]) (fun _=>J) J (fun _=>J) (fun _=>J) (bD (g:=ai.av) J J (.inl .p0) J e5 J) J<|AT.am 1 J J<|AM.qv (bh J J J e6) J<|AM.nil<|AT.wY (Ti:=[(aQ,iS qz)]) (Pi:=[(aQ,iS (qz.set n13.toNat ow))]) (fun _=>J) (fun _=>J) (fun _=>J) J J ?_ ?_
      ·exact bF (g:=ai.av) (wi:=ow) J J J J e6 J .p0 J<|ae.nil ⟨_,J⟩
      refine AT.sZ (fun _=>J) fun β=>ae.ghost<|aj.eqs (s:=0) (dD:=.sl 16 aQ 0 (qz.set n13.toNat ow).length) J (by simp)<|aj.here<|ae.ghost<|aj.eqs (s:=61) (dD:=.sl 16 aQ 0 (qz.set n13.toNat ow).length) J (by simp)<|aj.here<|ae.ghost<|aj.eqs (s:=63) (dD:=.sl 16 aQ 0 (qz.set n13.toNat ow).length) J (by simp)<|aj.here<|ae.ghost<|aj.eqs (s:=66) (dD:=.sl 16 aQ 0 (qz.set n13.toNat ow).length) J (by simp)<|aj.here<|ae.ghost<|aj.eqs (s:=71) (dD:=.sl 16 aQ 0 (qz.set n13.toNat ow).length) J (by simp)<|aj.here<|aH h fun v17 e7 h=>ae.qv (bh J J J e7) J<|bF (g:=ai.av) (wi:=pI) J J J J e7 J .p0 J<|ae.ghost<|aj.eqs (s:=0) (dD:=.sl 16 aQ 0 ((qz.set n13.toNat ow).set (aZ (n13+(1:Int))).toNat pI).length) J (by rw [List.length_set])<|aj.here<|ae.ghost<|aj.eqs (s:=61) (dD:=.sl 16 aQ 0 ((qz.set n13.toNat ow).set (aZ (n13+(1:Int))).toNat pI).length) J (by rw [List.length_set])<|aj.here<|ae.ghost<|aj.eqs (s:=63) (dD:=.sl 16 aQ 0 ((qz.set n13.toNat ow).set (aZ (n13+(1:Int))).toNat pI).length) J (by rw [List.length_set])<|aj.here<|ae.ghost<|aj.eqs (s:=66) (dD:=.sl 16 aQ 0 ((qz.set n13.toNat ow).set (aZ (n13+(1:Int))).toNat pI).length) J (by rw [List.length_set])<|aj.here<|ae.ghost<|aj.eqs (s:=71) (dD:=.sl 16 aQ 0 ((qz.set n13.toNat ow).set (aZ (n13+(1:Int))).toNat pI).length) J (by rw [List.length_set])<|aj.here<|rN<|aa.cy<|tR<|rM J J<|ae.qv (br J J) J<|rA J J<|rN<|aa.stop<|?_
      cases h
      exact O5 _ _ J<|aj.lq [0] J J J
     ·refine aa.exit J<|have h:=cH h IT;aa.ret<|?_
      cases h
      exact aj.here ⟨_,.nil,_,.cons .p0 .nil,⟨J,J⟩⟩
 ·refine tK<|tS<|aF<|rM J J<|rM J J<|ae.qv (dm J J) J<|ae.qv (bM J J) J<|rN<|cD h J (fun h=>?_) (fun h=>?_)
  ·refine aF<|rM J J<|rA J J<|rN<|aF<|rM J J<|rA J J<|rN<|tS<|aa.block<|aa.ff (fun x:Int×Int=>dQ ab aA kc x.1 x.2) (fun x aK=>aK=⟨220,[(0,.sl 16 aQ 0 ab.length),(2,I aA),(4,.func (.func fx) ia),(14,I x.1),(15,I x.2)],[(aQ,iS ab)]⟩) h ?_ ?_
   ·exact aj.lq [0] J J J
   ·intro x z3 aK J3 iV h VQ VR
    obtain ⟨n20,n21⟩:=x
    obtain rfl:=iV
    replace h:dQ ab aA kc n20 n21=some z3:=h
    unfold dQ at h
    refine tS<|aF<|rM J J<|rM J J<|ae.qv (cu J J) J<|rN<|cD h J (fun h=>?_) (fun h=>?_)
    ·refine tK<|aa.block<|aF<|rM J J<|rM J J<|ae.qv (br J J) J<|ae.qv (jz J) J<|ae.qv (D2 J J (by decide)) J<|ae.qv (jz J) J<|rA J J<|rN<|tS<|aa.bQ (id:=17) (A:=[0,0,0,6,14,0,0,96,224,511,1023,2047]) 12 mixed J (by kernel_rfl) (by kernel_rfl)<|AM.qv (aq J) J<|AM.qv (aq J) J<|AM.qv (aq J) J<|aH h fun v22 e8 h=>AM.qv (bh J J J e8) J<|AM.qv (bD (g:=ai.av) J J (.inl .p0) J e8 J) J<|AM.qv (aq J) J<|AM.qv (aq J) J<|aH h fun v23 e9 h=>AM.qv (bh J J J e9) J<|AM.qv (bD (g:=ai.av) J J (.inl .p0) J e9 J) J<|aH h fun v24 Ft h=>AM.CW J J (oK Ft) cR J<|AM.qv (cu J J) J<|AM.qv (rH J) J<|AM.nil<|rN<|aa.cut (fun aK=>∃ (n25:Int) (n26:Int),dO n25 n26=some z3∧aK=⟨220,[(0,.sl 16 aQ 0 ab.length),(2,I aA),(4,.func (.func fx) ia),(14,I n25),(15,I n26)],[(aQ,iS ab)]⟩) ?_ ?_
     ·refine cD h J (fun h=>?_) (fun h=>?_)
      ·exact tR<|rM J J<|ae.qv (br J J) J<|rA J J<|rN<|aa.stop<|aj.lq [0] ⟨aZ ((aZ (eT .u64 (IntKind.u64.wrap (aZ (n20+n21))) (1:Int)))+(1:Int)),n21,h,J⟩ J J
      ·exact tR<|rM J J<|rA J J<|rN<|aa.stop<|aj.lq [0] ⟨n20,aZ (eT .u64 (IntKind.u64.wrap (aZ (n20+n21))) (1:Int)),h,J⟩ J J
     ·rintro aK ⟨n25,n26,h,rfl⟩
      unfold dO at h
      refine aa.cy<|aa.stop<|?_
      cases h
      exact VQ _ _ J<|aj.lq [0] J J J
    ·refine aa.exit J<|have h:=cH h VR;tS<|aF<|rM J J<|rA J J<|rN<|aa.block<|aa.ff (fun x:(List ai)×Int=>dP n20 x.1 x.2) (fun x aK=>aK=⟨220,[(0,.sl 16 aQ 0 x.1.length),(14,I n20),(17,I x.2)],[(aQ,iS x.1)]⟩) h ?_ ?_
     ·exact aj.lq [0] J J J
     ·intro x z4 aK J4 iV h hJ4 hA4
      obtain ⟨pJ,n30⟩:=x
      obtain rfl:=iV
      replace h:dP n20 pJ n30=some z4:=h
      unfold dP at h
      refine tS<|aF<|rM J J<|rM J J<|ae.qv (jF J J) J<|rN<|cD h J (fun h=>?_) (fun h=>?_)
      ·refine tK<|tS<|aa.block<|aH h fun v31 IS h=>aH h fun v32 Ck h=>aH h fun v33 Lh h=>aa.ik (id:=23) (A:=[0,0,0,0,8,0,0,64,224,480,0,0,3072,7168,16355,32739,65535,131071]) (H0:=[(aQ,iS pJ)]) (HH:=fun β=>[(aQ,iS (pJ.set n30.toNat v31))]) 16 mixed J (by kernel_rfl) (by kernel_rfl) [⟨none,some 15,[9,13],fun _=>(aQ,iS pJ),none,[]⟩,⟨some 15,none,[],fun _=>(aQ,iS (pJ.set n30.toNat v31)),none,[]⟩] [] J (by kernel_rfl) J (.cons .p0 .nil) (fun _=>J)<|AT.am 9 J J<|AM.qv (aq J) J<|AM.qv (aq J) J<|AM.qv (aq J) J<|AM.qv (aq J) J<|AM.qv (dm J J) J<|AM.qv (aq J) J<|AM.qv (aq J) J<|AM.qv (dm J J) J<|AM.qv (bh J J J IS) J<|AM.nil<|AT.rd (Rs:=[(aQ,iS pJ)]) (fun _=>J) J (fun _=>J) (fun _=>J) (bD (g:=ai.av) J J (.inl .p0) J IS J) J<|AT.am 3 J J<|AM.qv (aq J) J<|AM.qv (aq J) J<|AM.qv (bh J J J Ck) J<|AM.nil<|AT.rd (Rs:=[(aQ,iS pJ)]) (fun _=>J) J (fun _=>J) (fun _=>J) (bD (g:=ai.av) J J (.inl .p0) J Ck J) J<|AT.am 1 J J<|AM.qv (bh J J J Lh) J<|AM.nil<|AT.wY (Ti:=[(aQ,iS pJ)]) (Pi:=[(aQ,iS (pJ.set n30.toNat v31))]) (fun _=>J) (fun _=>J) (fun _=>J) J J ?_ ?_
       ·exact bF (g:=ai.av) (wi:=v31) J J J J Lh J .p0 J<|ae.nil ⟨_,J⟩
       refine AT.sZ (fun _=>J) fun β=>ae.ghost<|aj.eqs (s:=0) (dD:=.sl 16 aQ 0 (pJ.set n30.toNat v31).length) J (by simp)<|aj.here<|ae.ghost<|aj.eqs (s:=113) (dD:=.sl 16 aQ 0 (pJ.set n30.toNat v31).length) J (by simp)<|aj.here<|ae.ghost<|aj.eqs (s:=115) (dD:=.sl 16 aQ 0 (pJ.set n30.toNat v31).length) J (by simp)<|aj.here<|ae.ghost<|aj.eqs (s:=118) (dD:=.sl 16 aQ 0 (pJ.set n30.toNat v31).length) J (by simp)<|aj.here<|ae.ghost<|aj.eqs (s:=123) (dD:=.sl 16 aQ 0 (pJ.set n30.toNat v31).length) J (by simp)<|aj.here<|aH h fun MI Kl h=>ae.qv (bh J J J Kl) J<|bF (g:=ai.av) (wi:=v32) J J J J Kl J .p0 J<|ae.ghost<|aj.eqs (s:=0) (dD:=.sl 16 aQ 0 ((pJ.set n30.toNat v31).set (aZ (n30 - (1:Int))).toNat v32).length) J (by rw [List.length_set])<|aj.here<|ae.ghost<|aj.eqs (s:=113) (dD:=.sl 16 aQ 0 ((pJ.set n30.toNat v31).set (aZ (n30 - (1:Int))).toNat v32).length) J (by rw [List.length_set])<|aj.here<|ae.ghost<|aj.eqs (s:=115) (dD:=.sl 16 aQ 0 ((pJ.set n30.toNat v31).set (aZ (n30 - (1:Int))).toNat v32).length) J (by rw [List.length_set])<|aj.here<|ae.ghost<|aj.eqs (s:=118) (dD:=.sl 16 aQ 0 ((pJ.set n30.toNat v31).set (aZ (n30 - (1:Int))).toNat v32).length) J (by rw [List.length_set])<|aj.here<|ae.ghost<|aj.eqs (s:=123) (dD:=.sl 16 aQ 0 ((pJ.set n30.toNat v31).set (aZ (n30 - (1:Int))).toNat v32).length) J (by rw [List.length_set])<|aj.here<|rN<|aa.cy<|tR<|rM J J<|ae.qv (dm J J) J<|rA J J<|rN<|aa.stop<|?_
       cases h
       exact hJ4 _ _ J<|aj.lq [0] J J J
      ·refine aa.exit J<|have h:=cH h hA4;aa.ret<|?_
       cases h
       exact aj.here ⟨_,.nil,_,.cons .p0 .nil,⟨J,J⟩⟩
  ·refine tK<|aF<|rM J J<|rM J J<|ae.qv (br J J) J<|ae.qv (jz J) J<|ae.qv (D2 J J (by decide)) J<|ae.qv (jz J) J<|rA J J<|rN<|aF<|rM J J<|rM J J<|ae.qv (br J J) J<|rA J J<|rN<|aF<|rA J J<|rA J J<|rN<|tS<|aF<|rM J J<|rM J J<|ae.qv (jF J J) J<|rN<|aa.cut (fun aK=>∃ (n35:Int) (n36:Int),dV self ab ah aA bu kc n35 n36=some r∧aK=⟨220,[(0,.sl 16 aQ 0 ab.length),(1,I ah),(2,I aA),(3,I bu),(4,.func (.func fx) ia),(18,I (aZ (eT .u64 (IntKind.u64.wrap (aZ (ah+bu))) (1:Int)))),(19,I (aZ ((aZ (eT .u64 (IntKind.u64.wrap (aZ (ah+bu))) (1:Int)))+aA))),(20,I n35),(21,I n36)],[(aQ,iS ab)]⟩) ?_ ?_
   ·refine cD h J (fun h=>?_) (fun h=>?_)
    ·exact aF<|rM J J<|rM J J<|ae.qv (dm J J) J<|rA J J<|rN<|tR<|rM J J<|rA J J<|rN<|aa.stop<|aj.lq [0] ⟨aZ ((aZ ((aZ (eT .u64 (IntKind.u64.wrap (aZ (ah+bu))) (1:Int)))+aA)) - bu),aZ (eT .u64 (IntKind.u64.wrap (aZ (ah+bu))) (1:Int)),h,J⟩ J J
    ·exact aF<|rM J J<|rA J J<|rN<|tR<|rM J J<|rA J J<|rN<|aa.stop<|aj.lq [0] ⟨ah,aA,h,J⟩ J J
   ·rintro aK ⟨n35,n36,h,rfl⟩
    unfold dV at h
    refine aF<|rM J J<|ae.qv (dm J J) J<|rA J J<|rN<|tS<|aa.block<|aa.ff (fun x:Int×Int=>dU self ab ah aA bu kc x.1 x.2) (fun x aK=>aK=⟨220,[(0,.sl 16 aQ 0 ab.length),(1,I ah),(2,I aA),(3,I bu),(4,.func (.func fx) ia),(18,I (aZ (eT .u64 (IntKind.u64.wrap (aZ (ah+bu))) (1:Int)))),(19,I (aZ ((aZ (eT .u64 (IntKind.u64.wrap (aZ (ah+bu))) (1:Int)))+aA))),(20,I x.1),(21,I x.2),(22,I (aZ ((aZ ((aZ (eT .u64 (IntKind.u64.wrap (aZ (ah+bu))) (1:Int)))+aA)) - (1:Int))))],[(aQ,iS ab)]⟩) h ?_ ?_
    ·exact aj.lq [0] J J J
    ·intro x z5 aK J5 iV h hJ5 hA5
     obtain ⟨n39,n40⟩:=x
     obtain rfl:=iV
     replace h:dU self ab ah aA bu kc n39 n40=some z5:=h
     unfold dU at h
     refine tS<|aF<|rM J J<|rM J J<|ae.qv (cu J J) J<|rN<|cD h J (fun h=>?_) (fun h=>?_)
     ·refine tK<|aa.block<|aF<|rM J J<|rM J J<|ae.qv (br J J) J<|ae.qv (jz J) J<|ae.qv (D2 J J (by decide)) J<|ae.qv (jz J) J<|rA J J<|rN<|tS<|aa.bQ (id:=35) (A:=[0,0,0,0,12,30,62,0,0,384,896,2047,4095,8191]) 14 mixed J (by kernel_rfl) (by kernel_rfl)<|AM.qv (aq J) J<|AM.qv (aq J) J<|AM.qv (aq J) J<|AM.qv (aq J) J<|AM.qv (dm J J) J<|aH h fun v41 Km h=>AM.qv (bh J J J Km) J<|AM.qv (bD (g:=ai.av) J J (.inl .p0) J Km J) J<|AM.qv (aq J) J<|AM.qv (aq J) J<|aH h fun zD Li h=>AM.qv (bh J J J Li) J<|AM.qv (bD (g:=ai.av) J J (.inl .p0) J Li J) J<|aH h fun Qs Sa h=>AM.CW J J (oK Sa) cR J<|AM.qv (cu J J) J<|AM.qv (rH J) J<|AM.nil<|rN<|aa.cut (fun aK=>∃ (n44:Int) (n45:Int),dR n44 n45=some z5∧aK=⟨220,[(0,.sl 16 aQ 0 ab.length),(1,I ah),(2,I aA),(3,I bu),(4,.func (.func fx) ia),(18,I (aZ (eT .u64 (IntKind.u64.wrap (aZ (ah+bu))) (1:Int)))),(19,I (aZ ((aZ (eT .u64 (IntKind.u64.wrap (aZ (ah+bu))) (1:Int)))+aA))),(20,I n44),(21,I n45),(22,I (aZ ((aZ ((aZ (eT .u64 (IntKind.u64.wrap (aZ (ah+bu))) (1:Int)))+aA)) - (1:Int))))],[(aQ,iS ab)]⟩) ?_ ?_
      ·refine cD h J (fun h=>?_) (fun h=>?_)
       ·exact tR<|rM J J<|ae.qv (br J J) J<|rA J J<|rN<|aa.stop<|aj.lq [0] ⟨aZ ((aZ (eT .u64 (IntKind.u64.wrap (aZ (n39+n40))) (1:Int)))+(1:Int)),n40,h,J⟩ J J
       ·exact tR<|rM J J<|rA J J<|rN<|aa.stop<|aj.lq [0] ⟨n39,aZ (eT .u64 (IntKind.u64.wrap (aZ (n39+n40))) (1:Int)),h,J⟩ J J
      ·rintro aK ⟨n44,n45,h,rfl⟩
       unfold dR at h
       refine aa.cy<|aa.stop<|?_
       cases h
       exact hJ5 _ _ J<|aj.lq [0] J J J
     ·refine aa.exit J<|have h:=cH h hA5;aF<|rM J J<|rM J J<|ae.qv (dm J J) J<|rA J J<|rN<|tS<|tS<|aa.cut (fun aK=>∃ (RM:Bool),fL self ab ah aA bu kc n39 RM=some r∧aK=⟨220,[(0,.sl 16 aQ 0 ab.length),(1,I ah),(2,I aA),(3,I bu),(4,.func (.func fx) ia),(18,I (aZ (eT .u64 (IntKind.u64.wrap (aZ (ah+bu))) (1:Int)))),(20,I n39),(24,I (aZ ((aZ ((aZ (eT .u64 (IntKind.u64.wrap (aZ (ah+bu))) (1:Int)))+aA)) - n39))),(185,.bool RM)],[(aQ,iS ab)]⟩) ?_ ?_
      ·refine tR<|rM J J<|rM J J<|ae.qv (cu J J) J<|rM J J<|ae.bV J J J (fun hc=>?_) (fun hc=>?_)
       ·rw [oF hc] at h
        exact rM J J<|rY J J J<|rM J J<|rY J J J<|ae.qv (cu J J) J<|rT J J J<|rN<|aa.stop<|aj.lq [0] ⟨decide (aA < (aZ ((aZ ((aZ (eT .u64 (IntKind.u64.wrap (aZ (ah+bu))) (1:Int)))+aA)) - n39))),h,J⟩ J J
       ·rw [oG hc] at h
        exact rG J J J J<|rG J J J J<|rE J J J<|rN<|aa.stop<|aj.lq [0] ⟨false,h,J⟩ J J
      ·rintro aK ⟨RM,h,rfl⟩
       unfold fL at h
       refine aa.cut (fun aK=>∃ (xT:List ai),dT self ah aA bu kc n39 xT=some r∧aK=⟨220,[(0,.sl 16 aQ 0 xT.length),(1,I ah),(3,I bu),(4,.func (.func fx) ia),(18,I (aZ (eT .u64 (IntKind.u64.wrap (aZ (ah+bu))) (1:Int)))),(20,I n39),(24,I (aZ ((aZ ((aZ (eT .u64 (IntKind.u64.wrap (aZ (ah+bu))) (1:Int)))+aA)) - n39)))],[(aQ,iS xT)]⟩) ?_ ?_
       ·refine cB h J (fun h=>?_) (fun h=>?_)
        ·exact tR<|rM J J<|rM J J<|rM J J<|rM J J<|rM J J<|aH h fun RN MQ h=>aT J (pP oK (kq MQ)) cR (.cons .p0 .nil) J J<|ae.ghost<|aj.eqs (s:=0) (dD:=.sl 16 aQ 0 RN.length) J (congrArg (AV.sl 16 aQ 0) (dn MQ))<|aj.here<|ae.ghost<|aj.eqs (s:=186) (dD:=.sl 16 aQ 0 RN.length) J (congrArg (AV.sl 16 aQ 0) (dn MQ))<|aj.here<|rN<|aa.stop<|aj.lq [0] ⟨RN,h,J⟩ J J
        ·exact tK<|aa.stop<|aj.lq [0] ⟨ab,h,J⟩ J J
       ·rintro aK ⟨xT,h,rfl⟩
        unfold dT at h
        refine tS<|tS<|aa.cut (fun aK=>∃ (c49:Bool),fK self ah aA bu kc n39 xT c49=some r∧aK=⟨220,[(0,.sl 16 aQ 0 xT.length),(1,I ah),(3,I bu),(4,.func (.func fx) ia),(18,I (aZ (eT .u64 (IntKind.u64.wrap (aZ (ah+bu))) (1:Int)))),(20,I n39),(24,I (aZ ((aZ ((aZ (eT .u64 (IntKind.u64.wrap (aZ (ah+bu))) (1:Int)))+aA)) - n39))),(199,.bool c49)],[(aQ,iS xT)]⟩) ?_ ?_
        ·refine tR<|rM J J<|rM J J<|ae.qv (cu J J) J<|rM J J<|ae.bV J J J (fun hc=>?_) (fun hc=>?_)
         ·rw [oF hc] at h
          exact rM J J<|rY J J J<|rM J J<|rY J J J<|ae.qv (cu J J) J<|rT J J J<|rN<|aa.stop<|aj.lq [0] ⟨decide (n39 < (aZ (eT .u64 (IntKind.u64.wrap (aZ (ah+bu))) (1:Int)))),h,J⟩ J J
         ·rw [oG hc] at h
          exact rG J J J J<|rG J J J J<|rE J J J<|rN<|aa.stop<|aj.lq [0] ⟨false,h,J⟩ J J
        ·rintro aK ⟨c49,h,rfl⟩
         unfold fK at h
         refine aa.cut (fun aK=>∃ (Bf:List ai),dS self ah aA bu kc n39 Bf=some r∧aK=⟨220,[(0,.sl 16 aQ 0 Bf.length),(3,I bu),(4,.func (.func fx) ia),(18,I (aZ (eT .u64 (IntKind.u64.wrap (aZ (ah+bu))) (1:Int)))),(24,I (aZ ((aZ ((aZ (eT .u64 (IntKind.u64.wrap (aZ (ah+bu))) (1:Int)))+aA)) - n39)))],[(aQ,iS Bf)]⟩) ?_ ?_
         ·refine cB h J (fun h=>?_) (fun h=>?_)
          ·exact tR<|rM J J<|rM J J<|rM J J<|rM J J<|rM J J<|aH h fun v51 MR h=>aT J (Kn oK (kq MR)) cR (.cons .p0 .nil) J J<|ae.ghost<|aj.eqs (s:=0) (dD:=.sl 16 aQ 0 v51.length) J (congrArg (AV.sl 16 aQ 0) (dn MR))<|aj.here<|ae.ghost<|aj.eqs (s:=200) (dD:=.sl 16 aQ 0 v51.length) J (congrArg (AV.sl 16 aQ 0) (dn MR))<|aj.here<|rN<|aa.stop<|aj.lq [0] ⟨v51,h,J⟩ J J
          ·exact tK<|aa.stop<|aj.lq [0] ⟨xT,h,J⟩ J J
         ·rintro aK ⟨Bf,h,rfl⟩
          unfold dS at h
          refine tS<|aa.cut (fun aK=>∃ (RL:Bool),fJ self ah aA bu kc n39 Bf RL=some r∧aK=⟨220,[(0,.sl 16 aQ 0 Bf.length),(3,I bu),(4,.func (.func fx) ia),(18,I (aZ (eT .u64 (IntKind.u64.wrap (aZ (ah+bu))) (1:Int)))),(24,I (aZ ((aZ ((aZ (eT .u64 (IntKind.u64.wrap (aZ (ah+bu))) (1:Int)))+aA)) - n39))),(213,.bool RL)],[(aQ,iS Bf)]⟩) ?_ ?_
          ·refine tR<|rM J J<|rM J J<|ae.qv (cu J J) J<|rM J J<|ae.bV J J J (fun hc=>?_) (fun hc=>?_)
           ·rw [oF hc] at h
            exact rM J J<|rY J J J<|rM J J<|rY J J J<|ae.qv (cu J J) J<|rT J J J<|rN<|aa.stop<|aj.lq [0] ⟨decide ((aZ ((aZ ((aZ (eT .u64 (IntKind.u64.wrap (aZ (ah+bu))) (1:Int)))+aA)) - n39)) < bu),h,J⟩ J J
           ·rw [oG hc] at h
            exact rG J J J J<|rG J J J J<|rE J J J<|rN<|aa.stop<|aj.lq [0] ⟨false,h,J⟩ J J
          ·rintro aK ⟨RL,h,rfl⟩
           unfold fJ at h
           refine aa.cut (fun aK=>∃ (RJ:List ai),dJ RJ=some r∧aK=⟨220,[],[(aQ,iS RJ)]⟩) ?_ ?_
           ·refine cB h J (fun h=>?_) (fun h=>?_)
            ·exact tR<|rM J J<|rM J J<|rM J J<|rM J J<|rM J J<|aH h fun v54 MS h=>aT J (Kn oK (kq MS)) cR (.cons .p0 .nil) J J<|ae.ghost<|aj.eqs (s:=0) (dD:=.sl 16 aQ 0 v54.length) J (congrArg (AV.sl 16 aQ 0) (dn MS))<|aj.here<|ae.ghost<|aj.eqs (s:=214) (dD:=.sl 16 aQ 0 v54.length) J (congrArg (AV.sl 16 aQ 0) (dn MS))<|aj.here<|rN<|aa.stop<|aj.lq [0] ⟨v54,h,J⟩ J J
            ·exact tK<|aa.stop<|aj.lq [0] ⟨Bf,h,J⟩ J J
           ·rintro aK ⟨RJ,h,rfl⟩
            unfold dJ at h
            refine aa.nil<|?_
            cases h
            exact aj.here ⟨_,.nil,_,.cons .p0 .nil,⟨J,J⟩⟩
theorem od [GI:bt]:∀ (k:Nat) {aQ:Bk} {ab:List ai} {ah:Int} {aA:Int} {bu:Int} {kc:ai→ai→Option Int} {fx:FuncId} [ba Tryz.prog fx] {ia:List AV} (oK:∀ {y0 y1:_} {u:Int},kc y0 y1=some u→Pu Tryz.prog fx (ai.av y0 :: ai.av y1 :: ia) (I u)) {r:(List ai)},fW k ab ah aA bu kc=some r→aG Tryz.prog 122 [.sl 16 aQ 0 ab.length,I ah,I aA,I bu,.func (.func fx) ia] [(aQ,iS ab)] (T0 ([(aQ,iS r)]) (.mN [])):=by
 intro k
 induction k with
 | zero=>intro aQ ab ah aA bu kc fx _ ia oK r h;cases h
 | succ k ih=>intro aQ ab ah aA bu kc fx _ ia oK r h;exact nL ih oK h
theorem j6 [GI:bt] {aQ:Bk} {ab:List ai} {ah:Int} {aA:Int} {bu:Int} {kc:ai→ai→Option Int} {fx:FuncId} [ba Tryz.prog fx] {ia:List AV} (oK:∀ {y0 y1:_} {u:Int},kc y0 y1=some u→Pu Tryz.prog fx (ai.av y0 :: ai.av y1 :: ia) (I u)) {r:(List ai)} (h:gH ab ah aA bu kc=some r):aG Tryz.prog 122 [.sl 16 aQ 0 ab.length,I ah,I aA,I bu,.func (.func fx) ia] [(aQ,iS ab)] (T0 ([(aQ,iS r)]) (.mN [])):=od depth oK h
theorem pQ [GI:bt] {aQ:Bk} {ab:List ai} {ah:Int} {o6:ai→ai→Option Int} {oL:FuncId} [ba Tryz.prog oL] {qZ:List AV} (xq:∀ {y0 y1:_} {u:Int},o6 y0 y1=some u→Pu Tryz.prog oL (ai.av y0 :: ai.av y1 :: qZ) (I u)) {r:(List ai)} (h:dZ ab ah o6=some r):aG Tryz.prog 73 [.sl 16 aQ 0 ab.length,I ah,.func (.func oL) qZ] [(aQ,iS ab)] (T0 ([(aQ,iS r)]) (.mN [])):=by
 unfold dZ at h
 refine aG.eP ?_
 refine aG.bc Tryz.func73 J Tryz.ntmps73 Tryz.results73 J J ?_
 refine aF<|rA J J<|rN<|aF<|rM J J<|rA J J<|rA J J<|rN<|tS<|aa.block<|aa.ff (fun x:(List ai)×Int×Int=>bW ah o6 x.1 x.2.1 x.2.2) (fun x aK=>aK=⟨63,[(0,.sl 16 aQ 0 x.1.length),(1,I ah),(2,.func (.func oL) qZ),(6,I (20:Int)),(7,I x.2.1),(8,I x.2.2)],[(aQ,iS x.1)]⟩) h ?_ ?_
 ·exact aj.lq [0] J J J
 ·intro x z1 aK J1 iV h lK fV
  obtain ⟨l4,n5,n6⟩:=x
  obtain rfl:=iV
  replace h:bW ah o6 l4 n5 n6=some z1:=h
  unfold bW at h
  refine tS<|aF<|rM J J<|rM J J<|ae.qv (tY J J) J<|rN<|cD h J (fun h=>?_) (fun h=>?_)
  ·refine tK<|aa.block<|aF<|rM J J<|rM J J<|rM J J<|rM J J<|aH h fun v7 e1 h=>aT J (iz xq (kq e1)) cR (.cons .p0 .nil) J J<|ae.ghost<|aj.eqs (s:=0) (dD:=.sl 16 aQ 0 v7.length) J (congrArg (AV.sl 16 aQ 0) (dn e1))<|aj.here<|ae.ghost<|aj.eqs (s:=14) (dD:=.sl 16 aQ 0 v7.length) J (congrArg (AV.sl 16 aQ 0) (dn e1))<|aj.here<|rN<|aF<|rM J J<|rA J J<|rN<|tR<|rM J J<|rM J J<|ae.qv (br J J) J<|rA J J<|rN<|aa.cy<|aa.stop<|?_
   cases h
   exact lK _ _ J<|aj.lq [0] J J J
  ·refine aa.exit J<|have h:=cH h fV;?_
   unfold eF at h
   refine aF<|rM J J<|rM J J<|rM J J<|rM J J<|aH h fun v8 e2 h=>aT J (iz xq (kq e2)) cR (.cons .p0 .nil) J J<|ae.ghost<|aj.eqs (s:=0) (dD:=.sl 16 aQ 0 v8.length) J (congrArg (AV.sl 16 aQ 0) (dn e2))<|aj.here<|ae.ghost<|aj.eqs (s:=23) (dD:=.sl 16 aQ 0 v8.length) J (congrArg (AV.sl 16 aQ 0) (dn e2))<|aj.here<|rN<|aa.block<|aa.ff (fun x:(List ai)×Int=>cz ah o6 x.1 x.2) (fun x aK=>aK=⟨63,[(0,.sl 16 aQ 0 x.1.length),(1,I ah),(2,.func (.func oL) qZ),(6,I x.2)],[(aQ,iS x.1)]⟩) h ?_ ?_
   ·exact aj.lq [0] J J J
   ·intro x z2 aK J2 iV h O5 IT
    obtain ⟨tL,n12⟩:=x
    obtain rfl:=iV
    replace h:cz ah o6 tL n12=some z2:=h
    unfold cz at h
    refine tS<|aF<|rM J J<|rM J J<|ae.qv (cu J J) J<|rN<|cD h J (fun h=>?_) (fun h=>?_)
    ·refine tK<|aa.block<|aF<|rM J J<|ae.qv (xU J J) J<|rA J J<|rA J J<|rN<|tS<|aa.block<|aa.ff (fun x:(List ai)×Int×Int=>eE ah o6 n12 x.1 x.2.1 x.2.2) (fun x aK=>aK=⟨63,[(0,.sl 16 aQ 0 x.1.length),(1,I ah),(2,.func (.func oL) qZ),(6,I n12),(7,I x.2.1),(8,I x.2.2)],[(aQ,iS x.1)]⟩) h ?_ ?_
     ·exact aj.lq [0] J J J
     ·intro x z3 aK J3 iV h VQ VR
      obtain ⟨Ci,n17,n18⟩:=x
      obtain rfl:=iV
      replace h:eE ah o6 n12 Ci n17 n18=some z3:=h
      unfold eE at h
      refine tS<|aF<|rM J J<|rM J J<|ae.qv (tY J J) J<|rN<|cD h J (fun h=>?_) (fun h=>?_)
      ·refine tK<|aa.block<|aF<|rM J J<|rM J J<|rM J J<|rM J J<|ae.qv (br J J) J<|rM J J<|rM J J<|aH h fun tJ e3 h=>aT J (j6 xq (kq e3)) cR (.cons .p0 .nil) J J<|ae.ghost<|aj.eqs (s:=0) (dD:=.sl 16 aQ 0 tJ.length) J (congrArg (AV.sl 16 aQ 0) (dn e3))<|aj.here<|ae.ghost<|aj.eqs (s:=36) (dD:=.sl 16 aQ 0 tJ.length) J (congrArg (AV.sl 16 aQ 0) (dn e3))<|aj.here<|rN<|aF<|rM J J<|rA J J<|rN<|tR<|rM J J<|rM J J<|ae.qv (xU J J) J<|ae.qv (br J J) J<|rA J J<|rN<|aa.cy<|aa.stop<|?_
       cases h
       exact VQ _ _ J<|aj.lq [0] J J J
      ·refine aa.exit J<|have h:=cH h VR;?_
       unfold ke at h
       refine tS<|aF<|rM J J<|rM J J<|ae.qv (br J J) J<|rA J J<|rN<|aF<|rM J J<|rM J J<|ae.qv (cu J J) J<|rN<|aa.cut (fun aK=>∃ (C6:List ai),eD n12 C6=some z2∧aK=⟨63,[(0,.sl 16 aQ 0 C6.length),(1,I ah),(2,.func (.func oL) qZ),(6,I n12)],[(aQ,iS C6)]⟩) ?_ ?_
       ·refine cD h J (fun h=>?_) (fun h=>?_)
        ·exact tR<|rM J J<|rM J J<|rM J J<|rM J J<|rM J J<|aH h fun v21 e4 h=>aT J (j6 xq (kq e4)) cR (.cons .p0 .nil) J J<|ae.ghost<|aj.eqs (s:=0) (dD:=.sl 16 aQ 0 v21.length) J (congrArg (AV.sl 16 aQ 0) (dn e4))<|aj.here<|ae.ghost<|aj.eqs (s:=55) (dD:=.sl 16 aQ 0 v21.length) J (congrArg (AV.sl 16 aQ 0) (dn e4))<|aj.here<|rN<|aa.stop<|aj.lq [0] ⟨v21,h,J⟩ J J
        ·exact tK<|aa.stop<|aj.lq [0] ⟨Ci,h,J⟩ J J
       ·rintro aK ⟨C6,h,rfl⟩
        unfold eD at h
        refine tR<|rM J J<|ae.qv (xU J J) J<|rA J J<|rN<|aa.cy<|aa.stop<|?_
        cases h
        exact O5 _ _ J<|aj.lq [0] J J J
    ·refine aa.exit J<|have h:=cH h IT;aa.nil<|?_
     cases h
     exact aj.here ⟨_,.nil,_,.cons .p0 .nil,⟨J,J⟩⟩
theorem na [GI:bt] {aQ:Bk} {ab:List ai} {fX:ai→ai→Option Int} {cY:FuncId} [ba Tryz.prog cY] {eQ:List AV} (lI:∀ {y0 y1:_} {u:Int},fX y0 y1=some u→Pu Tryz.prog cY (ai.av y0 :: ai.av y1 :: eQ) (I u)) {r:(List ai)} (h:cA ab fX=some r):aG Tryz.prog 39 [.sl 16 aQ 0 ab.length,.func (.func cY) eQ] [(aQ,iS ab)] (T0 ([(aQ,iS r)]) (.mN [])):=by
 unfold cA at h
 refine aG.eP ?_
 refine aG.bc Tryz.func39 J Tryz.ntmps39 Tryz.results39 J J ?_
 refine tR<|rM J J<|rM J J<|ae.qv (iN J) J<|rM J J<|aH h fun v1 e1 h=>aT J (pQ lI (kq e1)) cR (.cons .p0 .nil) J J<|ae.ghost<|aj.eqs (s:=0) (dD:=.sl 16 aQ 0 v1.length) J (congrArg (AV.sl 16 aQ 0) (dn e1))<|aj.here<|ae.ghost<|aj.eqs (s:=4) (dD:=.sl 16 aQ 0 v1.length) J (congrArg (AV.sl 16 aQ 0) (dn e1))<|aj.here<|ae.ghost<|aj.eqs (s:=5) (dD:=.sl 16 aQ 0 v1.length) J (congrArg (AV.sl 16 aQ 0) (dn e1))<|aj.here<|rN<|aa.nil<|?_
 cases h
 exact aj.here ⟨_,.nil,_,.cons .p0 .nil,⟨J,J⟩⟩
theorem zc [GI:bt] {aQ:Bk} {ab:ak} {ah:Int} {r:(List ai)×ak} (h:mU ab ah=some r):aG Tryz.prog 6 [.ptr aQ 0,I ah] [(aQ,.cells [ig ab.L,I ab.at_])] (T1 (fun pM=>[(aQ,.cells [ig r.2.L,I r.2.at_]),(pM,iS r.1)]) (fun pM=>.sl 16 pM 0 r.1.length)):=by
 unfold mU at h
 refine aG.eP ?_
 refine aG.bc Tryz.func6 J Tryz.ntmps6 Tryz.results6 J J ?_
 refine aF<|rA J J<|rN<|aF<|rA J J<|rN<|aF<|nD J fun b1=>rA J J<|rN<|aF<|rM J J<|aH h fun v2 e1 h=>aT J (ed e1) cR (.cons .p1 .nil) J J<|rA J J<|rA J J<|rN<|tS<|aF<|rM J J<|rM J J<|rN<|aa.block<|aa.ff (fun x:(List Int)×Int×(List ai)×(List (ax×Int))×Int×Int×Int=>jP ah x.1 x.2.1 x.2.2.1 x.2.2.2.1 x.2.2.2.2.1 x.2.2.2.2.2.1 x.2.2.2.2.2.2) (fun x aK=>∃ (pD:Bk),aK=⟨111,[(0,.ptr aQ 0),(5,.sl 16 pD 0 x.2.2.1.length),(6,.cd b1),(7,I x.2.2.2.2.1),(8,I x.2.2.2.2.2.1),(14,I ah),(15,I x.2.2.2.2.2.2)],[(aQ,.cells [ig x.1,I x.2.1]),(pD,iS x.2.2.1),(b1,R4 x.2.2.2.1)]⟩) h ?_ ?_
 ·exact aj.arr (s:=5) 16 J fun VS=>aj.lq [1,0,0] ⟨VS,J⟩ J J
 ·intro x z1 aK J1 iV h lK fV
  obtain ⟨tL,n12,xl,za,n16,n17,n18⟩:=x
  obtain ⟨pD,rfl⟩:=iV
  replace h:jP ah tL n12 xl za n16 n17 n18=some z1:=h
  unfold jP at h
  refine aF<|ae.qv (cu J J) J<|rN<|tS<|cD h J (fun h=>?_) (fun h=>?_)
  ·refine tK<|tS<|aa.block<|aF<|rM J J<|rM J J<|aH h fun v20 e2 h=>aT J (wy e2) cR (.cons .p0 .nil) J J<|fj J J J J fun b21=>aD J J J J .p0 J J<|rN<|aF<|rM J J<|aR (xs:=([([104,97]:ax),([104,97]:ax),([104,98]:ax)]).map AV.str) J J J J J J<|aH h fun v22 e3 h=>aT J (bG e3) cR (.cons .p1 .nil) J J<|rF J J J<|aD J J J J .p1 J J<|rN<|aF<|rM J J<|rF J J J<|rL J J .p1 J J<|aH h fun v23 e4 h=>ae.qv (uq (gk:=AV.str) (gv:=I) (M:=za) (key:=v22.1) (Z:=(0:Int)) J J .p3 J J J e4 J) J<|ae.qv (br J J) J<|jl (gk:=AV.str) (gv:=I) (M:=za) (key:=v22.1) (v:=aZ (v23+(1:Int))) J J J J .p3<|rN<|aF<|rM J J<|rF J J J<|rL J J .p1 J J<|aH h fun v24 e5 h=>ae.qv (uq (gk:=AV.str) (gv:=I) (M:=(ny za v22.1 (aZ (v23+(1:Int))))) (key:=v22.1) (Z:=(0:Int)) J J .p3 J J J e5 J) J<|rF J J J<|aD J J J J .p1 J J<|rN<|aF<|rM J J<|rM J J<|aR (xs:=([(0:Int),(1:Int),(1:Int),(2:Int)]).map I) J J J J J J<|aH h fun v25 e6 h=>aT J (dC e6) cR (.cons .p0 .nil) J J<|ae.qv (br J J) J<|rA J J<|rN<|aF<|rM J J<|rF J J J<|rL J J .p1 J J<|ae.qv (OO J J J) J<|rA J J<|rN<|aF<|rM J J<|rF J J J<|aD J J J J .p1 J J<|rN<|aF<|rM J J<|ae.qv (aU J J .p1 J) J<|aR (xs:=([(⟨v22.1,v24,max (max (aZ (n16+v25.1)) v24) (1:Int),v20.1.At,v20.1.Kind,v20.1.Device,v20.1.Model,v20.1.aO,v20.1.aC,v20.1.Key,v20.1.Name,v20.1.Value,v20.1.bj,v20.1.an⟩:ai)]).map ai.av) J J J J J J<|aH h fun zC e7 h=>iM (g:=ai.av) J J J J J J J J (.list _) e7 (fun _=>.p2) J fun ZI=>rA J J<|rN<|tR<|rM J J<|rM J J<|aR (xs:=([(0:Int),(1:Int),(5:Int),(20:Int)]).map I) J J J J J J<|aH h fun v28 e8 h=>aT J (dC e8) cR (.cons .p0 .nil) J J<|ae.qv (br J J) J<|rA J J<|rN<|aa.cy<|tR<|ae.qv (br J J) J<|rM J J<|rN<|aa.stop<|?_
   cases h
   exact lK _ _ J<|aj.lq [0,1,1] ⟨ZI,J⟩ J J
  ·refine aa.exit J<|have h:=cH h fV;?_
   unfold mj at h
   refine aF<|rM J J<|aH h fun oS e9 h=>aT J (na (fun e=>uH e) (kq e9)) cR (.cons .p1 .nil) J J<|ae.ghost<|aj.eqs (s:=5) (dD:=.sl 16 pD 0 oS.length) J (congrArg (AV.sl 16 pD 0) (dn e9))<|aj.here<|ae.ghost<|aj.eqs (s:=55) (dD:=.sl 16 pD 0 oS.length) J (congrArg (AV.sl 16 pD 0) (dn e9))<|aj.here<|rN<|tS<|tS<|aa.cut (fun aK=>∃ (O3:List Int) (n31:Int) (RO:Bool),iC oS O3 n31 RO=some r∧aK=⟨111,[(0,.ptr aQ 0),(5,.sl 16 pD 0 oS.length),(63,.bool RO)],[(aQ,.cells [ig O3,I n31]),(pD,iS oS)]⟩) ?_ ?_
   ·refine tR<|rM J J<|ae.qv (iN J) J<|ae.qv (jF J J) J<|rM J J<|gT h J J J (fun h=>?_) (fun h=>?_)
    ·exact rM J J<|rY J J J<|aH h fun v33 Ft h=>aT J (pd Ft) cR (.cons .p1 .nil) J J<|rT J J J<|rN<|aa.stop<|aj.lq [0,0] ⟨v33.2.L,v33.2.at_,v33.1,h,J⟩ J J
    ·exact rG J J J J<|rE J J J<|rN<|aa.stop<|aj.lq [1,0] ⟨tL,n12,false,h,J⟩ J J
   ·rintro aK ⟨O3,n31,RO,h,rfl⟩
    unfold iC at h
    refine aa.cut (fun aK=>∃ (EP:List Int) (n35:Int) (F0:List ai),jO EP n35 F0=some r∧aK=⟨111,[(5,.sl 16 pD 0 F0.length)],[(aQ,.cells [ig EP,I n35]),(pD,iS F0)]⟩) ?_ ?_
    ·refine cB h J (fun h=>?_) (fun h=>?_)
     ·refine aF<|rM J J<|rM J J<|rM J J<|ae.qv (iN J) J<|aH h fun v37 IS h=>aT J (ed IS) cR (.cons .p0 .nil) J J<|aH h fun aI Ck h=>ae.qv (bh J J J Ck) J<|rA J J<|rN<|aH h fun v39 Lh h=>aH h fun v40 Kl h=>aH h fun v41 Km h=>aH h fun zD Li h=>aa.ik (id:=19) (A:=[0,0,0,0,0,0,32,96,224,480,1008,0,0,4096,12288,28672,61440,131056,0,0,524288,1572864,3670016,7864320,16777200,0,0,67108864,201326592,469762048,1006632960,2147483632,4294967281,8589934577,17179869169,34359738355,68719476723,137438953459,274877906935,549755813879,1099511627767,2199023255551,4398046511103,8796093022207]) (H0:=[(aQ,.cells [ig v37.2.L,I v37.2.at_]),(pD,iS oS)]) (HH:=fun β=>[(aQ,.cells [ig zD.2.L,I zD.2.at_]),(pD,iS (((oS.set v37.1.toNat (⟨v39.1,aI.No,aI.aW,aI.At,aI.Kind,aI.Device,aI.Model,aI.aO,aI.aC,aI.Key,aI.Name,aI.Value,aI.bj,aI.an⟩:ai)).set v37.1.toNat (⟨v39.1,v40.1,aI.aW,aI.At,aI.Kind,aI.Device,aI.Model,aI.aO,aI.aC,aI.Key,aI.Name,aI.Value,aI.bj,aI.an⟩:ai)).set v37.1.toNat (⟨v39.1,v40.1,v41.1,aI.At,aI.Kind,aI.Device,aI.Model,aI.aO,aI.aC,aI.Key,aI.Name,aI.Value,aI.bj,aI.an⟩:ai)))]) 41 mixed J (by kernel_rfl) (by kernel_rfl) [⟨none,some 10,[],fun _=>(aQ,.cells [ig v37.2.L,I v37.2.at_]),none,[]⟩,⟨none,some 34,[8,15,22,29],fun _=>(pD,iS oS),none,[]⟩,⟨some 10,some 17,[],fun _=>(aQ,.cells [ig v39.2.L,I v39.2.at_]),none,[]⟩,⟨some 17,some 24,[],fun _=>(aQ,.cells [ig v40.2.L,I v40.2.at_]),none,[]⟩,⟨some 24,some 31,[],fun _=>(aQ,.cells [ig v41.2.L,I v41.2.at_]),none,[]⟩,⟨some 31,none,[],fun _=>(aQ,.cells [ig zD.2.L,I zD.2.at_]),none,[]⟩,⟨some 34,some 37,[],fun _=>(pD,iS (oS.set v37.1.toNat (⟨v39.1,aI.No,aI.aW,aI.At,aI.Kind,aI.Device,aI.Model,aI.aO,aI.aC,aI.Key,aI.Name,aI.Value,aI.bj,aI.an⟩:ai))),none,[]⟩,⟨some 37,some 40,[],fun _=>(pD,iS ((oS.set v37.1.toNat (⟨v39.1,aI.No,aI.aW,aI.At,aI.Kind,aI.Device,aI.Model,aI.aO,aI.aC,aI.Key,aI.Name,aI.Value,aI.bj,aI.an⟩:ai)).set v37.1.toNat (⟨v39.1,v40.1,aI.aW,aI.At,aI.Kind,aI.Device,aI.Model,aI.aO,aI.aC,aI.Key,aI.Name,aI.Value,aI.bj,aI.an⟩:ai))),none,[]⟩,⟨some 40,none,[],fun _=>(pD,iS (((oS.set v37.1.toNat (⟨v39.1,aI.No,aI.aW,aI.At,aI.Kind,aI.Device,aI.Model,aI.aO,aI.aC,aI.Key,aI.Name,aI.Value,aI.bj,aI.an⟩:ai)).set v37.1.toNat (⟨v39.1,v40.1,aI.aW,aI.At,aI.Kind,aI.Device,aI.Model,aI.aO,aI.aC,aI.Key,aI.Name,aI.Value,aI.bj,aI.an⟩:ai)).set v37.1.toNat (⟨v39.1,v40.1,v41.1,aI.At,aI.Kind,aI.Device,aI.Model,aI.aO,aI.aC,aI.Key,aI.Name,aI.Value,aI.bj,aI.an⟩:ai))),none,[]⟩] [] J (by kernel_rfl) J (.cons .p0 (.cons .p0 .nil)) (fun _=>J)<|AT.am 8 J J<|AM.qv (aq J) J<|AM.qv (aq J) J<|AM.qv (aq J) J<|AM.qv (aq J) J<|AM.qv (aq J) J<|AM.qv (aq J) J<|AM.qv (bx J) J<|AM.qv (bq J J) J<|AM.nil<|AT.rd (Rs:=[(pD,iS oS)]) (fun _=>J) J (fun _=>J) (fun _=>J) (df (g:=ai.av) J J (.inl .p0) Ck J) J<|AT.am 1 J J<|AM.fG (xs:=([aI.iB,([]:ax),([104,122]:ax)]).map AV.str) J J J J J J<|AM.nil<|AT.y7 (av:=.str v39.1) (Ti:=[(aQ,.cells [ig v37.2.L,I v37.2.at_])]) (Pi:=[(aQ,.cells [ig v39.2.L,I v39.2.at_])]) (fun _=>J) (fun _=>J) (fun _=>J) J J J ?_ ?_
      ·exact aT J (bG Lh) cR (.cons .p0 .nil) J J<|ae.nil ⟨_,J,J⟩
      refine AT.am 4 J J<|AM.qv (aq J) J<|AM.qv (aq J) J<|AM.qv (bx J) J<|AM.qv (bq J J) J<|AM.nil<|AT.rd (Rs:=[(pD,iS oS)]) (fun _=>J) J (fun _=>J) (fun _=>J) (df (g:=ai.av) J J (.inl .p0) Ck J) J<|AT.am 1 J J<|AM.fG (xs:=([aI.No,(0:Int),(9:Int)]).map I) J J J J J J<|AM.nil<|AT.y7 (av:=I v40.1) (Ti:=[(aQ,.cells [ig v39.2.L,I v39.2.at_])]) (Pi:=[(aQ,.cells [ig v40.2.L,I v40.2.at_])]) (fun _=>J) (fun _=>J) (fun _=>J) J J J ?_ ?_
      ·exact aT J (dC Kl) cR (.cons .p0 .nil) J J<|ae.nil ⟨_,J,J⟩
      refine AT.am 4 J J<|AM.qv (aq J) J<|AM.qv (aq J) J<|AM.qv (bx J) J<|AM.qv (bq J J) J<|AM.nil<|AT.rd (Rs:=[(pD,iS oS)]) (fun _=>J) J (fun _=>J) (fun _=>J) (df (g:=ai.av) J J (.inl .p0) Ck J) J<|AT.am 1 J J<|AM.fG (xs:=([aI.aW,(0:Int),(1:Int)]).map I) J J J J J J<|AM.nil<|AT.y7 (av:=I v41.1) (Ti:=[(aQ,.cells [ig v40.2.L,I v40.2.at_])]) (Pi:=[(aQ,.cells [ig v41.2.L,I v41.2.at_])]) (fun _=>J) (fun _=>J) (fun _=>J) J J J ?_ ?_
      ·exact aT J (dC Km) cR (.cons .p0 .nil) J J<|ae.nil ⟨_,J,J⟩
      refine AT.am 4 J J<|AM.qv (aq J) J<|AM.qv (aq J) J<|AM.qv (bx J) J<|AM.qv (bq J J) J<|AM.nil<|AT.rd (Rs:=[(pD,iS oS)]) (fun _=>J) J (fun _=>J) (fun _=>J) (df (g:=ai.av) J J (.inl .p0) Ck J) J<|AT.am 1 J J<|AM.fG (xs:=([aI.At,(-1:Int),(345686400000:Int)]).map I) J J J J J J<|AM.nil<|AT.y7 (av:=I zD.1) (Ti:=[(aQ,.cells [ig v41.2.L,I v41.2.at_])]) (Pi:=[(aQ,.cells [ig zD.2.L,I zD.2.at_])]) (fun _=>J) (fun _=>J) (fun _=>J) J J J ?_ ?_
      ·exact aT J (dC Li) cR (.cons .p0 .nil) J J<|ae.nil ⟨_,J,J⟩
      refine AT.am 2 J J<|AM.qv (bx J) J<|AM.qv (bq J J) J<|AM.nil<|AT.wY (Ti:=[(pD,iS oS)]) (Pi:=[(pD,iS (oS.set v37.1.toNat (⟨v39.1,aI.No,aI.aW,aI.At,aI.Kind,aI.Device,aI.Model,aI.aO,aI.aC,aI.Key,aI.Name,aI.Value,aI.bj,aI.an⟩:ai)))]) (fun _=>J) (fun _=>J) (fun _=>J) J J ?_ ?_
      ·exact bF (g:=ai.av) (wi:=(⟨v39.1,aI.No,aI.aW,aI.At,aI.Kind,aI.Device,aI.Model,aI.aO,aI.aC,aI.Key,aI.Name,aI.Value,aI.bj,aI.an⟩:ai)) J J J J Ck J .p0 J<|ae.nil ⟨_,J⟩
      refine AT.am 2 J J<|AM.qv (bx J) J<|AM.qv (bq J J) J<|AM.nil<|AT.wY (Ti:=[(pD,iS (oS.set v37.1.toNat (⟨v39.1,aI.No,aI.aW,aI.At,aI.Kind,aI.Device,aI.Model,aI.aO,aI.aC,aI.Key,aI.Name,aI.Value,aI.bj,aI.an⟩:ai)))]) (Pi:=[(pD,iS ((oS.set v37.1.toNat (⟨v39.1,aI.No,aI.aW,aI.At,aI.Kind,aI.Device,aI.Model,aI.aO,aI.aC,aI.Key,aI.Name,aI.Value,aI.bj,aI.an⟩:ai)).set v37.1.toNat (⟨v39.1,v40.1,aI.aW,aI.At,aI.Kind,aI.Device,aI.Model,aI.aO,aI.aC,aI.Key,aI.Name,aI.Value,aI.bj,aI.an⟩:ai)))]) (fun _=>J) (fun _=>J) (fun _=>J) J J ?_ ?_
      ·exact bF (g:=ai.av) (wi:=(⟨v39.1,v40.1,aI.aW,aI.At,aI.Kind,aI.Device,aI.Model,aI.aO,aI.aC,aI.Key,aI.Name,aI.Value,aI.bj,aI.an⟩:ai)) J J J J (gm (v:=(⟨v39.1,aI.No,aI.aW,aI.At,aI.Kind,aI.Device,aI.Model,aI.aO,aI.aC,aI.Key,aI.Name,aI.Value,aI.bj,aI.an⟩:ai)) Ck) J .p0 J<|ae.nil ⟨_,J⟩
      refine AT.am 2 J J<|AM.qv (bx J) J<|AM.qv (bq J J) J<|AM.nil<|AT.wY (Ti:=[(pD,iS ((oS.set v37.1.toNat (⟨v39.1,aI.No,aI.aW,aI.At,aI.Kind,aI.Device,aI.Model,aI.aO,aI.aC,aI.Key,aI.Name,aI.Value,aI.bj,aI.an⟩:ai)).set v37.1.toNat (⟨v39.1,v40.1,aI.aW,aI.At,aI.Kind,aI.Device,aI.Model,aI.aO,aI.aC,aI.Key,aI.Name,aI.Value,aI.bj,aI.an⟩:ai)))]) (Pi:=[(pD,iS (((oS.set v37.1.toNat (⟨v39.1,aI.No,aI.aW,aI.At,aI.Kind,aI.Device,aI.Model,aI.aO,aI.aC,aI.Key,aI.Name,aI.Value,aI.bj,aI.an⟩:ai)).set v37.1.toNat (⟨v39.1,v40.1,aI.aW,aI.At,aI.Kind,aI.Device,aI.Model,aI.aO,aI.aC,aI.Key,aI.Name,aI.Value,aI.bj,aI.an⟩:ai)).set v37.1.toNat (⟨v39.1,v40.1,v41.1,aI.At,aI.Kind,aI.Device,aI.Model,aI.aO,aI.aC,aI.Key,aI.Name,aI.Value,aI.bj,aI.an⟩:ai)))]) (fun _=>J) (fun _=>J) (fun _=>J) J J ?_ ?_
      ·exact bF (g:=ai.av) (wi:=(⟨v39.1,v40.1,v41.1,aI.At,aI.Kind,aI.Device,aI.Model,aI.aO,aI.aC,aI.Key,aI.Name,aI.Value,aI.bj,aI.an⟩:ai)) J J J J (gm (v:=(⟨v39.1,v40.1,aI.aW,aI.At,aI.Kind,aI.Device,aI.Model,aI.aO,aI.aC,aI.Key,aI.Name,aI.Value,aI.bj,aI.an⟩:ai)) (gm (v:=(⟨v39.1,aI.No,aI.aW,aI.At,aI.Kind,aI.Device,aI.Model,aI.aO,aI.aC,aI.Key,aI.Name,aI.Value,aI.bj,aI.an⟩:ai)) Ck)) J .p0 J<|ae.nil ⟨_,J⟩
      exact AT.sZ (fun _=>J) fun β=>ae.ghost<|aj.eqs (s:=5) (dD:=.sl 16 pD 0 (((oS.set v37.1.toNat (⟨v39.1,aI.No,aI.aW,aI.At,aI.Kind,aI.Device,aI.Model,aI.aO,aI.aC,aI.Key,aI.Name,aI.Value,aI.bj,aI.an⟩:ai)).set v37.1.toNat (⟨v39.1,v40.1,aI.aW,aI.At,aI.Kind,aI.Device,aI.Model,aI.aO,aI.aC,aI.Key,aI.Name,aI.Value,aI.bj,aI.an⟩:ai)).set v37.1.toNat (⟨v39.1,v40.1,v41.1,aI.At,aI.Kind,aI.Device,aI.Model,aI.aO,aI.aC,aI.Key,aI.Name,aI.Value,aI.bj,aI.an⟩:ai)).length) J (by simp)<|aj.here<|ae.ghost<|aj.eqs (s:=64) (dD:=.sl 16 pD 0 (((oS.set v37.1.toNat (⟨v39.1,aI.No,aI.aW,aI.At,aI.Kind,aI.Device,aI.Model,aI.aO,aI.aC,aI.Key,aI.Name,aI.Value,aI.bj,aI.an⟩:ai)).set v37.1.toNat (⟨v39.1,v40.1,aI.aW,aI.At,aI.Kind,aI.Device,aI.Model,aI.aO,aI.aC,aI.Key,aI.Name,aI.Value,aI.bj,aI.an⟩:ai)).set v37.1.toNat (⟨v39.1,v40.1,v41.1,aI.At,aI.Kind,aI.Device,aI.Model,aI.aO,aI.aC,aI.Key,aI.Name,aI.Value,aI.bj,aI.an⟩:ai)).length) J (by simp)<|aj.here<|ae.ghost<|aj.eqs (s:=66) (dD:=.sl 16 pD 0 (((oS.set v37.1.toNat (⟨v39.1,aI.No,aI.aW,aI.At,aI.Kind,aI.Device,aI.Model,aI.aO,aI.aC,aI.Key,aI.Name,aI.Value,aI.bj,aI.an⟩:ai)).set v37.1.toNat (⟨v39.1,v40.1,aI.aW,aI.At,aI.Kind,aI.Device,aI.Model,aI.aO,aI.aC,aI.Key,aI.Name,aI.Value,aI.bj,aI.an⟩:ai)).set v37.1.toNat (⟨v39.1,v40.1,v41.1,aI.At,aI.Kind,aI.Device,aI.Model,aI.aO,aI.aC,aI.Key,aI.Name,aI.Value,aI.bj,aI.an⟩:ai)).length) J (by simp)<|aj.here<|ae.qv (bx J) J<|ae.qv (bq J J) J<|bF (g:=ai.av) (wi:=(⟨v39.1,v40.1,v41.1,zD.1,aI.Kind,aI.Device,aI.Model,aI.aO,aI.aC,aI.Key,aI.Name,aI.Value,aI.bj,aI.an⟩:ai)) J J J J (gm (v:=(⟨v39.1,v40.1,v41.1,aI.At,aI.Kind,aI.Device,aI.Model,aI.aO,aI.aC,aI.Key,aI.Name,aI.Value,aI.bj,aI.an⟩:ai)) (gm (v:=(⟨v39.1,v40.1,aI.aW,aI.At,aI.Kind,aI.Device,aI.Model,aI.aO,aI.aC,aI.Key,aI.Name,aI.Value,aI.bj,aI.an⟩:ai)) (gm (v:=(⟨v39.1,aI.No,aI.aW,aI.At,aI.Kind,aI.Device,aI.Model,aI.aO,aI.aC,aI.Key,aI.Name,aI.Value,aI.bj,aI.an⟩:ai)) Ck))) J .p1 J<|ae.ghost<|aj.eqs (s:=5) (dD:=.sl 16 pD 0 ((((oS.set v37.1.toNat (⟨v39.1,aI.No,aI.aW,aI.At,aI.Kind,aI.Device,aI.Model,aI.aO,aI.aC,aI.Key,aI.Name,aI.Value,aI.bj,aI.an⟩:ai)).set v37.1.toNat (⟨v39.1,v40.1,aI.aW,aI.At,aI.Kind,aI.Device,aI.Model,aI.aO,aI.aC,aI.Key,aI.Name,aI.Value,aI.bj,aI.an⟩:ai)).set v37.1.toNat (⟨v39.1,v40.1,v41.1,aI.At,aI.Kind,aI.Device,aI.Model,aI.aO,aI.aC,aI.Key,aI.Name,aI.Value,aI.bj,aI.an⟩:ai)).set v37.1.toNat (⟨v39.1,v40.1,v41.1,zD.1,aI.Kind,aI.Device,aI.Model,aI.aO,aI.aC,aI.Key,aI.Name,aI.Value,aI.bj,aI.an⟩:ai)).length) J (by rw [List.length_set])<|aj.here<|ae.ghost<|aj.eqs (s:=64) (dD:=.sl 16 pD 0 ((((oS.set v37.1.toNat (⟨v39.1,aI.No,aI.aW,aI.At,aI.Kind,aI.Device,aI.Model,aI.aO,aI.aC,aI.Key,aI.Name,aI.Value,aI.bj,aI.an⟩:ai)).set v37.1.toNat (⟨v39.1,v40.1,aI.aW,aI.At,aI.Kind,aI.Device,aI.Model,aI.aO,aI.aC,aI.Key,aI.Name,aI.Value,aI.bj,aI.an⟩:ai)).set v37.1.toNat (⟨v39.1,v40.1,v41.1,aI.At,aI.Kind,aI.Device,aI.Model,aI.aO,aI.aC,aI.Key,aI.Name,aI.Value,aI.bj,aI.an⟩:ai)).set v37.1.toNat (⟨v39.1,v40.1,v41.1,zD.1,aI.Kind,aI.Device,aI.Model,aI.aO,aI.aC,aI.Key,aI.Name,aI.Value,aI.bj,aI.an⟩:ai)).length) J (by rw [List.length_set])<|aj.here<|ae.ghost<|aj.eqs (s:=66) (dD:=.sl 16 pD 0 ((((oS.set v37.1.toNat (⟨v39.1,aI.No,aI.aW,aI.At,aI.Kind,aI.Device,aI.Model,aI.aO,aI.aC,aI.Key,aI.Name,aI.Value,aI.bj,aI.an⟩:ai)).set v37.1.toNat (⟨v39.1,v40.1,aI.aW,aI.At,aI.Kind,aI.Device,aI.Model,aI.aO,aI.aC,aI.Key,aI.Name,aI.Value,aI.bj,aI.an⟩:ai)).set v37.1.toNat (⟨v39.1,v40.1,v41.1,aI.At,aI.Kind,aI.Device,aI.Model,aI.aO,aI.aC,aI.Key,aI.Name,aI.Value,aI.bj,aI.an⟩:ai)).set v37.1.toNat (⟨v39.1,v40.1,v41.1,zD.1,aI.Kind,aI.Device,aI.Model,aI.aO,aI.aC,aI.Key,aI.Name,aI.Value,aI.bj,aI.an⟩:ai)).length) J (by rw [List.length_set])<|aj.here<|rN<|aa.stop<|aj.lq [0,0] ⟨zD.2.L,zD.2.at_,(((oS.set v37.1.toNat (⟨v39.1,aI.No,aI.aW,aI.At,aI.Kind,aI.Device,aI.Model,aI.aO,aI.aC,aI.Key,aI.Name,aI.Value,aI.bj,aI.an⟩:ai)).set v37.1.toNat (⟨v39.1,v40.1,aI.aW,aI.At,aI.Kind,aI.Device,aI.Model,aI.aO,aI.aC,aI.Key,aI.Name,aI.Value,aI.bj,aI.an⟩:ai)).set v37.1.toNat (⟨v39.1,v40.1,v41.1,aI.At,aI.Kind,aI.Device,aI.Model,aI.aO,aI.aC,aI.Key,aI.Name,aI.Value,aI.bj,aI.an⟩:ai)).set v37.1.toNat (⟨v39.1,v40.1,v41.1,zD.1,aI.Kind,aI.Device,aI.Model,aI.aO,aI.aC,aI.Key,aI.Name,aI.Value,aI.bj,aI.an⟩:ai),h,J⟩ J J
     ·exact tK<|aa.stop<|aj.lq [0,0] ⟨O3,n31,oS,h,J⟩ J J
    ·rintro aK ⟨EP,n35,F0,h,rfl⟩
     unfold jO at h
     refine aF<|rM J J<|rA J J<|rN<|aa.ret<|?_
     cases h
     exact hH J [0,0] J ⟨pD,J,J⟩
theorem BA [GI:bt] {aQ:Bk} {ab:ak} {r:Int×ak} (h:po ab=some r):aG Tryz.prog 22 [.ptr aQ 0] [(aQ,.cells [ig ab.L,I ab.at_])] (T0 ([(aQ,.cells [ig r.2.L,I r.2.at_])]) (I r.1)):=by
 unfold po at h
 refine aG.eP ?_
 refine aG.bc Tryz.func22 J Tryz.ntmps22 Tryz.results22 J J ?_
 refine aF<|rA J J<|rN<|aF<|rM J J<|rM J J<|aH h fun v1 e1 h=>aT J (ed e1) cR (.cons .p0 .nil) J J<|rM J J<|aH h fun v2 e2 h=>aT J (ed e2) cR (.cons .p0 .nil) J J<|rM J J<|aR (xs:=([(345686399999:Int),(-1:Int),(345686400000:Int)]).map I) J J J J J J<|aH h fun v3 e3 h=>aT J (dC e3) cR (.cons .p0 .nil) J J<|aR (xs:=([(0:Int),(5:Int),(20:Int),(40:Int),(60:Int),(80:Int),(120:Int),v1.1,v2.1,v3.1]).map I) J J J J J J<|aH h fun v4 e4 h=>aT J (dC e4) cR (.cons .p0 .nil) J J<|rA J J<|rN<|aa.ret<|?_
 cases h
 exact hH J [0] J ⟨J,J⟩
theorem l6 [GI:bt] {ab:ax} {r:Bool} (h:kY ab=some r):Pu Tryz.prog 58 [.str ab] (.bool r):=by
 unfold kY at h
 refine aG.bc Tryz.func58 J Tryz.ntmps58 Tryz.results58 J J ?_
 refine aF<|rA J J<|rN<|tS<|tS<|aa.cut (fun aK=>∃ (c1:Bool),lQ ab c1=some r∧aK=⟨54,[(0,.str ab),(21,.bool c1)],[]⟩) ?_ ?_
 ·refine tR<|rM J J<|ae.qv (gr J J) J<|rM J J<|gF h J J J (fun h=>?_) (fun h=>?_)
  ·refine rM J J<|rY J J J<|ae.qv (dA J) J<|rY J J J<|ae.qv (jF J J) J<|rE J J J<|rM J J<|gF h J J J (fun h=>?_) (fun h=>?_)
   ·refine rM J J<|rY J J J<|aH h fun c2 e1 h=>ae.qv (j9 J J e1) J<|rY J J J<|ae.qv (cu J J) J<|rE J J J<|rM J J<|gF h J J J (fun h=>?_) (fun h=>?_)
    ·exact rM J J<|rY J J J<|aH h fun c3 e2 h=>ae.qv (j9 J J e2) J<|rY J J J<|ae.qv (jF J J) J<|rE J J J<|rN<|aa.stop<|aj.lq [] ⟨decide ((122:Int) < (c3.toNat:Int)),h,J⟩ J J
    ·exact rG J J J J<|rG J J J J<|rT J J J<|rN<|aa.stop<|aj.lq [] ⟨true,h,J⟩ J J
   ·exact rG J J J J<|rG J J J J<|rT J J J<|rM J J<|rG J J J J<|rG J J J J<|rG J J J J<|rT J J J<|rN<|aa.stop<|aj.lq [] ⟨true,h,J⟩ J J
  ·exact rG J J J J<|rG J J J J<|rT J J J<|rM J J<|rG J J J J<|rG J J J J<|rG J J J J<|rT J J J<|rM J J<|rG J J J J<|rG J J J J<|rG J J J J<|rT J J J<|rN<|aa.stop<|aj.lq [] ⟨true,h,J⟩ J J
 ·rintro aK ⟨c1,h,rfl⟩
  unfold lQ at h
  refine cB h J (fun h=>?_) (fun h=>?_)
  ·refine aF<|rA J J<|rN<|aa.ret<|?_
   cases h
   exact hP J J
  ·refine tK<|tS<|aF<|rM J J<|ae.qv (dA J) J<|rM J J<|rN<|aa.block<|aa.ff (fun x:Int=>lP ab x) (fun x aK=>aK=⟨54,[(0,.str ab),(23,I (ab.length:Int)),(24,I x)],[]⟩) h ?_ ?_
   ·exact aj.lq [] J J J
   ·intro n5 z1 aK J1 iV h lK fV
    obtain rfl:=iV
    replace h:lP ab n5=some z1:=h
    unfold lP at h
    refine aF<|ae.qv (cu J J) J<|rN<|tS<|cD h J (fun h=>?_) (fun h=>?_)
    ·refine tK<|tS<|aa.block<|aF<|rM J J<|rA J J<|rN<|aF<|rM J J<|rM J J<|aH h fun c6 e3 h=>ae.qv (j9 J J e3) J<|rA J J<|rN<|tS<|aa.cut (fun aK=>∃ (c7:Bool),rO n5 c7=some z1∧aK=⟨54,[(0,.str ab),(23,I (ab.length:Int)),(24,I n5),(52,.bool c7)],[]⟩) ?_ ?_
     ·refine tR<|rM J J<|ae.qv (nN J J) J<|rM J J<|ae.bV J J J (fun hc=>?_) (fun hc=>?_)
      ·rw [if_pos hc] at h
       refine rM J J<|rY J J J<|ae.qv (tY J J) J<|rT J J J<|rM J J<|ae.iK J J J (fun hc=>?_) (fun hc=>?_)
       ·rw [if_neg hc] at h
        refine rM J J<|rY J J J<|ae.qv (nN J J) J<|rY J J J<|rM J J<|ae.bV J J J (fun hc=>?_) (fun hc=>?_)
        ·rw [if_pos hc] at h
         refine rM J J<|rY J J J<|ae.qv (tY J J) J<|rY J J J<|rT J J J<|rE J J J<|rM J J<|ae.iK J J J (fun hc=>?_) (fun hc=>?_)
         ·rw [if_neg hc] at h
          refine rM J J<|rY J J J<|ae.qv (bM J J) J<|rE J J J<|rM J J<|ae.iK J J J (fun hc=>?_) (fun hc=>?_)
          ·rw [if_neg hc] at h
           exact rM J J<|rY J J J<|ae.qv (bM J J) J<|rE J J J<|ae.qv (rH J) J<|rN<|aa.stop<|aj.lq [] ⟨decide (¬ ((c6.toNat:Int)=(95:Int))),h,J⟩ J J
          ·rw [if_pos hc] at h
           exact rG J J J J<|rT J J J<|ae.qv (cq J) J<|rN<|aa.stop<|aj.lq [] ⟨!true,h,J⟩ J J
         ·rw [if_pos hc] at h
          exact rG J J J J<|rT J J J<|rM J J<|rG J J J J<|rG J J J J<|rT J J J<|ae.qv (cq J) J<|rN<|aa.stop<|aj.lq [] ⟨!true,h,J⟩ J J
        ·rw [if_neg hc] at h
         refine rG J J J J<|rY J J J<|rE J J J<|rE J J J<|rM J J<|rY J J J<|rM J J<|rY J J J<|ae.qv (bM J J) J<|rE J J J<|rM J J<|ae.iK J J J (fun hc=>?_) (fun hc=>?_)
         ·rw [if_neg hc] at h
          exact rM J J<|rY J J J<|ae.qv (bM J J) J<|rE J J J<|ae.qv (rH J) J<|rN<|aa.stop<|aj.lq [] ⟨decide (¬ ((c6.toNat:Int)=(95:Int))),h,J⟩ J J
         ·rw [if_pos hc] at h
          exact rG J J J J<|rT J J J<|ae.qv (cq J) J<|rN<|aa.stop<|aj.lq [] ⟨!true,h,J⟩ J J
       ·rw [if_pos hc] at h
        exact rG J J J J<|rG J J J J<|ae.aX J J J<|ae.aX J J J<|rG J J J J<|rT J J J<|rM J J<|rG J J J J<|rG J J J J<|rT J J J<|rM J J<|rG J J J J<|rG J J J J<|rT J J J<|ae.qv (cq J) J<|rN<|aa.stop<|aj.lq [] ⟨!true,h,J⟩ J J
      ·rw [if_neg hc] at h
       refine rG J J J J<|rE J J J<|rM J J<|rY J J J<|rM J J<|rY J J J<|ae.qv (nN J J) J<|rY J J J<|rM J J<|ae.bV J J J (fun hc=>?_) (fun hc=>?_)
       ·rw [if_pos hc] at h
        refine rM J J<|rY J J J<|ae.qv (tY J J) J<|rY J J J<|rT J J J<|rE J J J<|rM J J<|ae.iK J J J (fun hc=>?_) (fun hc=>?_)
        ·rw [if_neg hc] at h
         refine rM J J<|rY J J J<|ae.qv (bM J J) J<|rE J J J<|rM J J<|ae.iK J J J (fun hc=>?_) (fun hc=>?_)
         ·rw [if_neg hc] at h
          exact rM J J<|rY J J J<|ae.qv (bM J J) J<|rE J J J<|ae.qv (rH J) J<|rN<|aa.stop<|aj.lq [] ⟨decide (¬ ((c6.toNat:Int)=(95:Int))),h,J⟩ J J
         ·rw [if_pos hc] at h
          exact rG J J J J<|rT J J J<|ae.qv (cq J) J<|rN<|aa.stop<|aj.lq [] ⟨!true,h,J⟩ J J
        ·rw [if_pos hc] at h
         exact rG J J J J<|rT J J J<|rM J J<|rG J J J J<|rG J J J J<|rT J J J<|ae.qv (cq J) J<|rN<|aa.stop<|aj.lq [] ⟨!true,h,J⟩ J J
       ·rw [if_neg hc] at h
        refine rG J J J J<|rY J J J<|rE J J J<|rE J J J<|rM J J<|rY J J J<|rM J J<|rY J J J<|ae.qv (bM J J) J<|rE J J J<|rM J J<|ae.iK J J J (fun hc=>?_) (fun hc=>?_)
        ·rw [if_neg hc] at h
         exact rM J J<|rY J J J<|ae.qv (bM J J) J<|rE J J J<|ae.qv (rH J) J<|rN<|aa.stop<|aj.lq [] ⟨decide (¬ ((c6.toNat:Int)=(95:Int))),h,J⟩ J J
        ·rw [if_pos hc] at h
         exact rG J J J J<|rT J J J<|ae.qv (cq J) J<|rN<|aa.stop<|aj.lq [] ⟨!true,h,J⟩ J J
     ·rintro aK ⟨c7,h,rfl⟩
      unfold rO at h
      refine cB h J (fun h=>?_) (fun h=>?_)
      ·refine aF<|rA J J<|rN<|aa.ret<|have h:=cH h fV;?_
       cases h
       exact hP J J
      ·refine tK<|aa.cy<|tR<|ae.qv (br J J) J<|rM J J<|rN<|aa.stop<|?_
       cases h
       exact lK _ _ J<|aj.lq [] J J J
    ·refine aa.exit J<|have h:=cH h fV;aF<|rA J J<|rN<|aa.ret<|?_
     cases h
     exact hP J J
theorem fy [GI:bt] {ab:Int} {ah:Int} {aA:Int} {r:Bool} (h:eM ab ah aA=r):Pu Tryz.prog 78 [I ab,I ah,I aA] (.bool r):=by
 unfold eM at h
 refine aG.bc Tryz.func78 J Tryz.ntmps78 Tryz.results78 J J ?_
 refine aF<|rA J J<|rN<|tS<|aa.cut (fun aK=>∃ (c1:Bool),uC c1=r∧aK=⟨15,[(6,.bool c1)],[]⟩) ?_ ?_
 ·refine tR<|rM J J<|rM J J<|ae.qv (cu J J) J<|rM J J<|ae.iK J J J (fun hc=>?_) (fun hc=>?_)
  ·rw [HD hc] at h
   exact rM J J<|rY J J J<|rM J J<|rY J J J<|ae.qv (jF J J) J<|rE J J J<|rA J J<|rN<|aa.stop<|aj.lq [] ⟨decide (aA < ab),h,J⟩ J J
  ·rw [HC hc] at h
   exact rG J J J J<|rG J J J J<|rT J J J<|rA J J<|rN<|aa.stop<|aj.lq [] ⟨true,h,J⟩ J J
 ·rintro aK ⟨c1,h,rfl⟩
  unfold uC at h
  refine aa.ret<|?_
  obtain rfl:=h
  exact hP J J
theorem xu {ab:ax} {r:Bool} (h:kZ ab=some r):Pu Tryz.prog 124 [.str ab] (.bool r):=by
 unfold kZ at h
 refine aG.bc Tryz.func124 J Tryz.ntmps124 Tryz.results124 J J ?_
 refine aF<|rA J J<|rN<|tS<|aa.cut (fun aK=>∃ (c1:Bool),iQ c1=some r∧aK=⟨12,[(2,.bool c1)],[]⟩) ?_ ?_
 ·refine tR<|rM J J<|ae.qv (dA J) J<|aL J (fy J) cR J<|ae.qv (cq J) J<|rM J J<|ae.guard J J J (fun hc=>?_) (fun hc=>?_)
  ·exact have h:=kM hc h;rM J J<|rY J J J<|aH h fun v2 e1 h=>aL J (jM e1) cR J<|rY J J J<|ae.qv (gr J J) J<|rT J J J<|rA J J<|rN<|aa.stop<|aj.lq [] ⟨decide (v2=([]:ax)),h,J⟩ J J
  ·exact have h:=mR hc h;rG J J J J<|rG J J J J<|rE J J J<|rA J J<|rN<|aa.stop<|aj.lq [] ⟨false,h,J⟩ J J
 ·rintro aK ⟨c1,h,rfl⟩
  unfold iQ at h
  refine aa.ret<|?_
  cases h
  exact hP J J
theorem sL [GI:bt] {ab:Model} {ah:Model} {r:Bool} (h:iW ab ah=r):Pu Tryz.prog 125 [Model.av ab,.ji [.str ah.Key,.str ah.Prefix,Bj ah.bf]] (.bool r):=by
 unfold iW at h
 refine aG.bc Tryz.func125 J Tryz.ntmps125 Tryz.results125 J J ?_
 refine aF<|de J J J J fun b1=>rA J J<|rN<|aF<|rF J J J<|rL J J .p0 J J<|ae.qv (fk J J) J<|ae.qv (bC J J J) J<|ae.qv (gr J J) J<|rA J J<|rN<|aa.ret<|?_
 obtain rfl:=h
 exact hP J J
theorem gj [GI:bt] {ab:List Model} {fX:Model→Option Bool} {cY:FuncId} [ba Tryz.prog cY] {eQ:List AV} (lI:∀ {y0:_} {u:Bool},fX y0=some u→Pu Tryz.prog cY (Model.av y0 :: eQ) (.bool u)) {r:Int} (h:bP ab fX=some r):Pu Tryz.prog 99 [sa ab,.func (.func cY) eQ] (I r):=by
 unfold bP at h
 refine aG.bc Tryz.func99 J Tryz.ntmps99 Tryz.results99 J J ?_
 refine aF<|rA J J<|rN<|tS<|aF<|rM J J<|ae.qv (fS J) J<|rM J J<|rN<|aa.block<|aa.ff (fun x:Int=>dW ab fX x) (fun x aK=>aK=⟨19,[(0,sa ab),(1,.func (.func cY) eQ),(7,I (ab.length:Int)),(8,I x)],[]⟩) h ?_ ?_
 ·exact aj.lq [] J J J
 ·intro n2 z1 aK J1 iV h lK fV
  obtain rfl:=iV
  replace h:dW ab fX n2=some z1:=h
  unfold dW at h
  refine aF<|ae.qv (cu J J) J<|rN<|tS<|cD h J (fun h=>?_) (fun h=>?_)
  ·refine tK<|tS<|aa.block<|aF<|rM J J<|rA J J<|rN<|aF<|rM J J<|rM J J<|rM J J<|aH h fun v3 e1 h=>ae.qv (cK J J J e1 J J) J<|ae.qv (bn J J J) J<|aH h fun v4 e2 h=>nQ J J (lI e2) cR J<|rN<|cB h J (fun h=>?_) (fun h=>?_)
   ·refine aF<|rM J J<|rA J J<|rN<|aa.ret<|have h:=cH h fV;?_
    cases h
    exact hP J J
   ·refine tK<|aa.cy<|tR<|ae.qv (br J J) J<|rM J J<|rN<|aa.stop<|?_
    cases h
    exact lK _ _ J<|aj.lq [] J J J
  ·refine aa.exit J<|have h:=cH h fV;aF<|rA J J<|rN<|aa.ret<|?_
   cases h
   exact hP J J
theorem iY [GI:bt] {ab:List Model} {fX:Model→Option Bool} {cY:FuncId} [ba Tryz.prog cY] {eQ:List AV} (lI:∀ {y0:_} {u:Bool},fX y0=some u→Pu Tryz.prog cY (Model.av y0 :: eQ) (.bool u)) {r:Bool} (h:cM ab fX=some r):Pu Tryz.prog 51 [sa ab,.func (.func cY) eQ] (.bool r):=by
 unfold cM at h
 refine aG.bc Tryz.func51 J Tryz.ntmps51 Tryz.results51 J J ?_
 refine aF<|rA J J<|rN<|aF<|rM J J<|rM J J<|aH h fun v1 e1 h=>fR J (gj lI e1) (.cons (.co (.refl _)) (.cons (.co (.refl _)) .nil)) J J<|ae.qv (nN J J) J<|rA J J<|rN<|aa.ret<|?_
 cases h
 exact hP J J
theorem BB {ab:ax} {ah:Int} {r:Bool} (h:rP ab ah=some r):Pu Tryz.prog 207 [.str ab,I ah] (.bool r):=by
 unfold rP at h
 refine aG.bc Tryz.func207 J Tryz.ntmps207 Tryz.results207 J J ?_
 refine aF<|rA J J<|rN<|tS<|aF<|rA J J<|rN<|aa.block<|aa.ff (fun x:ax×Int=>gx ah x.1 x.2) (fun x aK=>aK=⟨26,[(0,.str x.1),(1,I ah),(5,I x.2)],[]⟩) h ?_ ?_
 ·exact aj.lq [] J J J
 ·intro x z1 aK J1 iV h lK fV
  obtain ⟨q3,n4⟩:=x
  obtain rfl:=iV
  replace h:gx ah q3 n4=some z1:=h
  unfold gx at h
  refine tS<|aF<|rM J J<|rM J J<|ae.qv (cu J J) J<|rN<|cD h J (fun h=>?_) (fun h=>?_)
  ·refine tK<|tS<|aa.block<|aF<|rM J J<|aH h fun v5 e1 h=>aL J (Bw e1) cR J<|rM J J<|rX J J J<|rX J J J<|rX J J J<|rA J J<|rA J J<|rA J J<|rN<|tS<|aF<|rM J J<|aH h fun v6 e2 h=>aL J (l6 e2) cR J<|ae.qv (cq J) J<|rN<|cB h J (fun h=>?_) (fun h=>?_)
   ·refine aF<|rA J J<|rN<|aa.ret<|have h:=cH h fV;?_
    cases h
    exact hP J J
   ·refine tK<|tS<|aF<|rM J J<|ae.qv (cq J) J<|rN<|cB h J (fun h=>?_) (fun h=>?_)
    ·refine aF<|rA J J<|rN<|aa.ret<|have h:=cH h fV;?_
     cases h
     exact hP J J
    ·refine tK<|tR<|rM J J<|rA J J<|rN<|aa.cy<|tR<|rM J J<|ae.qv (br J J) J<|rA J J<|rN<|aa.stop<|?_
     cases h
     exact lK _ _ J<|aj.lq [] J J J
  ·refine aa.exit J<|have h:=cH h fV;aF<|rA J J<|rN<|aa.ret<|?_
   cases h
   exact hP J J
theorem zd {ab:ax} {r:Bool} (h:mV ab=some r):Pu Tryz.prog 178 [.str ab] (.bool r):=by
 unfold mV at h
 refine aG.bc Tryz.func178 J Tryz.ntmps178 Tryz.results178 J J ?_
 refine aF<|rA J J<|rN<|tS<|aa.cut (fun aK=>∃ (c1:Bool),jQ c1=some r∧aK=⟨10,[(2,.bool c1)],[]⟩) ?_ ?_
 ·refine tR<|rM J J<|ae.qv (dA J) J<|ae.qv (tY J J) J<|rM J J<|gT h J J J (fun h=>?_) (fun h=>?_)
  ·exact rM J J<|rY J J J<|aH h fun v2 e1 h=>aL J (BB e1) cR J<|rT J J J<|rA J J<|rN<|aa.stop<|aj.lq [] ⟨v2,h,J⟩ J J
  ·exact rG J J J J<|rE J J J<|rA J J<|rN<|aa.stop<|aj.lq [] ⟨false,h,J⟩ J J
 ·rintro aK ⟨c1,h,rfl⟩
  unfold jQ at h
  refine aa.ret<|?_
  cases h
  exact hP J J
theorem vA {ab:List aM} {r:Int} (h:jr ab=some r):Pu Tryz.prog 126 [Bj ab] (I r):=by
 unfold jr at h
 refine aG.bc Tryz.func126 J Tryz.ntmps126 Tryz.results126 J J ?_
 refine aF<|rA J J<|rN<|tS<|aF<|rM J J<|ae.qv (fS J) J<|rM J J<|rN<|aa.block<|aa.ff (fun x:Int=>dj ab x) (fun x aK=>aK=⟨67,[(0,Bj ab),(6,Bj ab),(7,I (ab.length:Int)),(8,I x)],[]⟩) h ?_ ?_
 ·exact aj.lq [] J J J
 ·intro n2 z1 aK J1 iV h lK fV
  obtain rfl:=iV
  replace h:dj ab n2=some z1:=h
  unfold dj at h
  refine aF<|ae.qv (cu J J) J<|rN<|tS<|cD h J (fun h=>?_) (fun h=>?_)
  ·refine tK<|tS<|aa.block<|aF<|rM J J<|aH h fun v3 e1 h=>ae.qv (cK J J J e1 J J) J<|ae.qv (bn J J J) J<|fj J J J J fun b4=>rA J J<|aD J J J J .p0 J J<|rN<|aF<|rF J J J<|rL J J .p0 J J<|ae.qv (bM J J) J<|rA J J<|rN<|aa.block<|aF<|rF J J J<|rL J J .p0 J J<|aH h fun v5 e2 h=>aL J (zd e2) cR J<|ae.qv (cq J) J<|rA J J<|rN<|cB h J (fun h=>?_) (fun h=>?_)
   ·refine aF<|rA J J<|rN<|aa.ret<|have h:=cH h fV;?_
    cases h
    exact hP J J
   ·refine tS<|aa.cut (fun aK=>∃ (c6:Bool),eU n2 v3 c6=some z1∧aK=⟨67,[(0,Bj ab),(4,.ptr b4 0),(5,.bool (decide (v3.Kind=(2:Int)))),(6,Bj ab),(7,I (ab.length:Int)),(8,I n2),(21,.bool c6)],[(b4,.cells (Tr v3))]⟩) ?_ ?_
    ·refine aa.bQ (id:=7) (A:=[0,1,3,7,15,7,7,71,231,487,999,2047,4095,8191]) 14 mixed J (by kernel_rfl) (by kernel_rfl)<|AM.qv (aq J) J<|AM.qv (jF J J) J<|AM.qv (aq J) J<|AM.bV J J J (fun hc=>?_) (fun hc=>?_)
     ·exact have h:=kM hc h;AM.qv (au J J) J<|AM.ar J J J<|AM.qv (az J J .p0 J) J<|AM.ar J J J<|AM.qv (aq J) J<|AM.ar J J J<|AM.qv (aq J) J<|AM.ar J J J<|AM.qv (dm J J) J<|AM.ar J J J<|aH h fun v7 e3 h=>AM.qv (cK J J J e3 J J) J<|AM.ar J J J<|AM.qv (fk J J) J<|AM.ar J J J<|AM.qv (bC J J J) J<|AM.ar J J J<|AM.qv (CO J J) J<|AM.qv (cJ J J) J<|AM.qv (bd J) J<|AM.nil<|rN<|aa.stop<|aj.lq [0] ⟨Op.bytesLess v3.Name v7.Name||v3.Name==v7.Name,h,J⟩ J J
     ·exact have h:=uj hc h;AM.aB J J J J<|AM.aB J J J J<|AM.aB J J J J<|AM.aB J J J J<|AM.aB J J J J<|AM.aB J J J J<|AM.aB J J J J<|AM.aB J J J J<|AM.qv (cm J J) J<|AM.qv (bd J) J<|AM.nil<|rN<|aa.stop<|aj.lq [0] ⟨false,h,J⟩ J J
    ·rintro aK ⟨c6,h,rfl⟩
     unfold eU at h
     refine cB h J (fun h=>?_) (fun h=>?_)
     ·refine aF<|rA J J<|rN<|aa.ret<|have h:=cH h fV;?_
      cases h
      exact hP J J
     ·refine aF<|rF J J J<|rL J J .p0 J J<|aL J (fy J) cR J<|rA J J<|rN<|cB h J (fun h=>?_) (fun h=>?_)
      ·refine aF<|rA J J<|rN<|aa.ret<|have h:=cH h fV;?_
       cases h
       exact hP J J
      ·refine tS<|aa.cut (fun aK=>∃ (c8:Bool),jq n2 v3 c8=some z1∧aK=⟨67,[(0,Bj ab),(4,.ptr b4 0),(5,.bool (decide (v3.Kind=(2:Int)))),(6,Bj ab),(7,I (ab.length:Int)),(8,I n2),(39,.bool c8)],[(b4,.cells (Tr v3))]⟩) ?_ ?_
       ·refine tR<|rM J J<|rM J J<|ae.bV J J J (fun hc=>?_) (fun hc=>?_)
        ·rw [oF hc] at h
         refine rF J J J<|rY J J J<|rL J J .p0 J J<|rY J J J<|rF J J J<|rY J J J<|rL J J .p0 J J<|rY J J J<|aL J (fy J) cR J<|rY J J J<|rM J J<|ae.guard J J J (fun hc=>?_) (fun hc=>?_)
         ·rw [FB hc] at h
          exact rF J J J<|rY J J J<|rL J J .p0 J J<|rY J J J<|ae.qv (jF J J) J<|rY J J J<|rE J J J<|rT J J J<|rA J J<|rN<|aa.stop<|aj.lq [0] ⟨decide ((1000000000:Int) < v3.iO),h,J⟩ J J
         ·rw [FA hc] at h
          exact rG J J J J<|rG J J J J<|rY J J J<|rT J J J<|rT J J J<|rA J J<|rN<|aa.stop<|aj.lq [0] ⟨true,h,J⟩ J J
        ·rw [oG hc] at h
         exact rG J J J J<|rG J J J J<|rG J J J J<|rG J J J J<|rG J J J J<|ae.aX J J J<|ae.aX J J J<|ae.aX J J J<|rG J J J J<|rE J J J<|rA J J<|rN<|aa.stop<|aj.lq [0] ⟨false,h,J⟩ J J
       ·rintro aK ⟨c8,h,rfl⟩
        unfold jq at h
        refine cB h J (fun h=>?_) (fun h=>?_)
        ·refine aF<|rA J J<|rN<|aa.ret<|have h:=cH h fV;?_
         cases h
         exact hP J J
        ·refine tS<|aa.cut (fun aK=>∃ (c9:Bool),jo n2 c9=some z1∧aK=⟨67,[(0,Bj ab),(6,Bj ab),(7,I (ab.length:Int)),(8,I n2),(53,.bool c9)],[]⟩) ?_ ?_
         ·refine tR<|rM J J<|ae.qv (rH J) J<|rM J J<|ae.bV J J J (fun hc=>?_) (fun hc=>?_)
          ·rw [oF hc] at h
           refine rF J J J<|rY J J J<|rL J J .p0 J J<|rY J J J<|ae.qv (fe J J) J<|rY J J J<|rM J J<|ae.iK J J J (fun hc=>?_) (fun hc=>?_)
           ·rw [HD hc] at h
            exact rF J J J<|rY J J J<|rL J J .p0 J J<|rY J J J<|ae.qv (fe J J) J<|rY J J J<|rE J J J<|rT J J J<|rA J J<|rN<|aa.stop<|aj.lq [] ⟨decide (v3.iO≠(0:Int)),h,J⟩ J J
           ·rw [HC hc] at h
            exact rG J J J J<|rG J J J J<|rY J J J<|rT J J J<|rT J J J<|rA J J<|rN<|aa.stop<|aj.lq [] ⟨true,h,J⟩ J J
          ·rw [oG hc] at h
           exact rG J J J J<|rG J J J J<|rG J J J J<|ae.aX J J J<|ae.aX J J J<|ae.aX J J J<|rG J J J J<|rE J J J<|rA J J<|rN<|aa.stop<|aj.lq [] ⟨false,h,J⟩ J J
         ·rintro aK ⟨c9,h,rfl⟩
          unfold jo at h
          refine cB h J (fun h=>?_) (fun h=>?_)
          ·refine aF<|rA J J<|rN<|aa.ret<|have h:=cH h fV;?_
           cases h
           exact hP J J
          ·refine tK<|aa.cy<|aa.cy<|tR<|ae.qv (br J J) J<|rM J J<|rN<|aa.stop<|?_
           cases h
           exact lK _ _ J<|aj.lq [] J J J
  ·refine aa.exit J<|have h:=cH h fV;aF<|rA J J<|rN<|aa.ret<|?_
   cases h
   exact hP J J
theorem pE {ab:List Model} {r:Int} (h:fY ab=some r):Pu Tryz.prog 76 [sa ab] (I r):=by
 unfold fY at h
 refine aG.bc Tryz.func76 J Tryz.ntmps76 Tryz.results76 J J ?_
 refine aF<|rA J J<|rN<|tS<|aF<|rM J J<|ae.qv (fS J) J<|ae.qv (jF J J) J<|rN<|cD h J (fun h=>?_) (fun h=>?_)
 ·refine aF<|rA J J<|rN<|aa.ret<|?_
  cases h
  exact hP J J
 ·refine tK<|tS<|aF<|rM J J<|ae.qv (fS J) J<|rM J J<|rN<|aa.block<|aa.ff (fun x:Int=>cP ab x) (fun x aK=>aK=⟨58,[(0,sa ab),(9,sa ab),(10,I (ab.length:Int)),(11,I x)],[]⟩) h ?_ ?_
  ·exact aj.lq [] J J J
  ·intro n2 z1 aK J1 iV h lK fV
   obtain rfl:=iV
   replace h:cP ab n2=some z1:=h
   unfold cP at h
   refine aF<|ae.qv (cu J J) J<|rN<|tS<|cD h J (fun h=>?_) (fun h=>?_)
   ·refine tK<|tS<|aa.block<|aF<|rM J J<|aH h fun v3 e1 h=>ae.qv (cK J J J e1 J J) J<|ae.qv (bn J J J) J<|fj J J J J fun b4=>rA J J<|aD J J J J .p0 J J<|rN<|tS<|aa.block<|aF<|rF J J J<|rL J J .p0 J J<|aH h fun v5 e2 h=>aL J (l6 e2) cR J<|ae.qv (cq J) J<|rA J J<|rN<|cB h J (fun h=>?_) (fun h=>?_)
    ·refine aF<|rA J J<|rN<|aa.ret<|have h:=cH h fV;?_
     cases h
     exact hP J J
    ·refine tS<|aa.cut (fun aK=>∃ (c6:Bool),eK ab n2 v3 c6=some z1∧aK=⟨58,[(0,sa ab),(3,I n2),(4,.ptr b4 0),(9,sa ab),(10,I (ab.length:Int)),(11,I n2),(21,.bool c6)],[(b4,.cells [.str v3.Key,.str v3.Prefix,Bj v3.bf])]⟩) ?_ ?_
     ·refine aa.bQ (id:=8) (A:=[0,1,3,7,15,7,7,71,231,487,999,2047,4095,8191]) 14 mixed J (by kernel_rfl) (by kernel_rfl)<|AM.qv (aq J) J<|AM.qv (jF J J) J<|AM.qv (aq J) J<|AM.bV J J J (fun hc=>?_) (fun hc=>?_)
      ·exact have h:=kM hc h;AM.qv (au J J) J<|AM.ar J J J<|AM.qv (az J J .p0 J) J<|AM.ar J J J<|AM.qv (aq J) J<|AM.ar J J J<|AM.qv (aq J) J<|AM.ar J J J<|AM.qv (dm J J) J<|AM.ar J J J<|aH h fun v7 e3 h=>AM.qv (cK J J J e3 J J) J<|AM.ar J J J<|AM.qv (fk J J) J<|AM.ar J J J<|AM.qv (bC J J J) J<|AM.ar J J J<|AM.qv (CO J J) J<|AM.qv (cJ J J) J<|AM.qv (bd J) J<|AM.nil<|rN<|aa.stop<|aj.lq [0] ⟨Op.bytesLess v3.Key v7.Key||v3.Key==v7.Key,h,J⟩ J J
      ·exact have h:=uj hc h;AM.aB J J J J<|AM.aB J J J J<|AM.aB J J J J<|AM.aB J J J J<|AM.aB J J J J<|AM.aB J J J J<|AM.aB J J J J<|AM.aB J J J J<|AM.qv (cm J J) J<|AM.qv (bd J) J<|AM.nil<|rN<|aa.stop<|aj.lq [0] ⟨false,h,J⟩ J J
     ·rintro aK ⟨c6,h,rfl⟩
      unfold eK at h
      refine cB h J (fun h=>?_) (fun h=>?_)
      ·refine aF<|rA J J<|rN<|aa.ret<|have h:=cH h fV;?_
       cases h
       exact hP J J
      ·refine aF<|rF J J J<|rL J J .p0 J J<|aH h fun v8 e4 h=>aL J (xu e4) cR J<|ae.qv (cq J) J<|rA J J<|rN<|cB h J (fun h=>?_) (fun h=>?_)
       ·refine aF<|rA J J<|rN<|aa.ret<|have h:=cH h fV;?_
        cases h
        exact hP J J
       ·refine aF<|rM J J<|rM J J<|aH h fun l9 e5 h=>ae.qv (wS J J .none (.some _ _ _ J) J J e5) J<|ae.qv (gG J) J<|aH h fun v10 e6 h=>fR J (iY (fun e=>sL (Option.some.inj e)) e6) (.cons (.co (.refl _)) (.cons (.rD _ _ _ (.cons (.xX _ _ _ .p0 (.cons (.co (.refl _)) (.cons (.co (.refl _)) (.cons (.co (.refl _)) .nil)))) .nil)) .nil)) J J<|rA J J<|rN<|cB h J (fun h=>?_) (fun h=>?_)
        ·refine aF<|rA J J<|rN<|aa.ret<|have h:=cH h fV;?_
         cases h
         exact hP J J
        ·refine aF<|rF J J J<|rL J J .p0 J J<|ae.qv (fS J) J<|ae.qv (jF J J) J<|rA J J<|rN<|cD h J (fun h=>?_) (fun h=>?_)
         ·refine aF<|rA J J<|rN<|aa.ret<|have h:=cH h fV;?_
          cases h
          exact hP J J
         ·refine tK<|aa.cy<|aF<|rF J J J<|rL J J .p0 J J<|aH h fun v11 e7 h=>aL J (vA e7) cR J<|rA J J<|rN<|aF<|rM J J<|ae.qv (fe J J) J<|rN<|cD h J (fun h=>?_) (fun h=>?_)
          ·refine aF<|rM J J<|rA J J<|rN<|aa.ret<|have h:=cH h fV;?_
           cases h
           exact hP J J
          ·refine tK<|aa.cy<|tR<|ae.qv (br J J) J<|rM J J<|rN<|aa.stop<|?_
           cases h
           exact lK _ _ J<|aj.lq [] J J J
   ·refine aa.exit J<|have h:=cH h fV;aF<|rA J J<|rN<|aa.ret<|?_
    cases h
    exact hP J J
theorem vO [GI:bt] {ab:Int} {r:Bool} (h:eV ab=r):Pu Tryz.prog 62 [I ab] (.bool r):=by
 unfold eV at h
 refine aG.bc Tryz.func62 J Tryz.ntmps62 Tryz.results62 J J ?_
 refine aF<|rA J J<|rN<|aF<|rM J J<|aL J (fy J) cR J<|ae.qv (cq J) J<|rA J J<|rN<|aa.ret<|?_
 obtain rfl:=h
 exact hP J J
theorem xv [GI:bt] {ab:Model} {ah:ax} {r:Bool} (h:gI ab ah=r):Pu Tryz.prog 153 [Model.av ab,.ji [.str ah]] (.bool r):=by
 unfold gI at h
 refine aG.bc Tryz.func153 J Tryz.ntmps153 Tryz.results153 J J ?_
 refine aF<|de J J J J fun b1=>rA J J<|rN<|aF<|rF J J J<|rL J J .p0 J J<|ae.qv (bC J J J) J<|ae.qv (gr J J) J<|rA J J<|rN<|aa.ret<|?_
 obtain rfl:=h
 exact hP J J
theorem uI [GI:bt] {ab:List Model} {ah:ax} {r:Int} (h:kC ab ah=some r):Pu Tryz.prog 106 [sa ab,.str ah] (I r):=by
 unfold kC at h
 refine aG.bc Tryz.func106 J Tryz.ntmps106 Tryz.results106 J J ?_
 refine aF<|de J J J J fun b1=>rA J J<|rN<|aF<|rM J J<|ae.qv (gG J) J<|aH h fun v2 e1 h=>fR J (gj (fun e=>xv (Option.some.inj e)) e1) (.cons (.co (.refl _)) (.cons (.rD _ _ _ (.cons (.xX _ _ _ .p0 (.cons (.co (.refl _)) .nil)) .nil)) .nil)) J J<|rA J J<|rN<|aa.ret<|?_
 cases h
 exact hP J J
theorem cj [GI:bt] {IU:Bk} {ab:Bool} {ah:Int} {aA:Int} {r:Int} (h:aS ab ah aA=r):aG Tryz.prog 128 [.bool ab,I ah,.ptr IU 0] [(IU,.cells [I aA])] (T0 ([(IU,.cells [I r])]) (.mN [])):=by
 unfold aS at h
 refine aG.eP ?_
 refine aG.bc Tryz.func128 J Tryz.ntmps128 Tryz.results128 J J ?_
 refine tS<|aa.cut (fun aK=>∃ (c1:Bool),im ah aA c1=r∧aK=⟨11,[(1,I ah),(2,.ptr IU 0),(9,.bool c1)],[(IU,.cells [I aA])]⟩) ?_ ?_
 ·refine tR<|rM J J<|rM J J<|ae.guard J J J (fun hc=>?_) (fun hc=>?_)
  ·rw [wU hc] at h
   exact rL J J .p0 J J<|rY J J J<|ae.qv (bM J J) J<|rT J J J<|rN<|aa.stop<|aj.lq [0] ⟨decide (aA=(0:Int)),h,J⟩ J J
  ·rw [wV hc] at h
   exact rG J J J J<|rE J J J<|rN<|aa.stop<|aj.lq [0] ⟨false,h,J⟩ J J
 ·rintro aK ⟨c1,h,rfl⟩
  unfold im at h
  refine aa.cut (fun aK=>∃ (n2:Int),fp n2=r∧aK=⟨11,[],[(IU,.cells [I n2])]⟩) ?_ ?_
  ·refine cB h J (fun h=>?_) (fun h=>?_)
   ·exact tR<|rM J J<|aD J J J J .p0 J J<|rN<|aa.stop<|aj.lq [0] ⟨ah,h,J⟩ J J
   ·exact tK<|aa.stop<|aj.lq [0] ⟨aA,h,J⟩ J J
  ·rintro aK ⟨n2,h,rfl⟩
   unfold fp at h
   refine aa.nil<|?_
   obtain rfl:=h
   exact aj.here ⟨_,.nil,_,.cons .p0 .nil,⟨J,J⟩⟩
theorem l8 {ab:ax} {r:Bool} (h:eR ab=some r):Pu Tryz.prog 61 [.str ab] (.bool r):=by
 unfold eR at h
 refine aG.bc Tryz.func61 J Tryz.ntmps61 Tryz.results61 J J ?_
 refine aF<|rA J J<|rN<|tS<|aa.cut (fun aK=>∃ (c1:Bool),fT c1=some r∧aK=⟨12,[(2,.bool c1)],[]⟩) ?_ ?_
 ·refine tR<|rM J J<|ae.qv (dA J) J<|aL J (fy J) cR J<|ae.qv (cq J) J<|rM J J<|ae.guard J J J (fun hc=>?_) (fun hc=>?_)
  ·exact have h:=kM hc h;rM J J<|rY J J J<|aH h fun v2 e1 h=>aL J (jM e1) cR J<|rY J J J<|ae.qv (gr J J) J<|rT J J J<|rA J J<|rN<|aa.stop<|aj.lq [] ⟨decide (v2=([]:ax)),h,J⟩ J J
  ·exact have h:=mR hc h;rG J J J J<|rG J J J J<|rE J J J<|rA J J<|rN<|aa.stop<|aj.lq [] ⟨false,h,J⟩ J J
 ·rintro aK ⟨c1,h,rfl⟩
  unfold fT at h
  refine aa.ret<|?_
  cases h
  exact hP J J
theorem AB [GI:bt] {ab:Version} {r:Bool} (h:ml ab=r):Pu Tryz.prog 129 [Version.av ab] (.bool r):=by
 unfold ml at h
 refine aG.bc Tryz.func129 J Tryz.ntmps129 Tryz.results129 J J ?_
 refine aF<|de J J J J fun b1=>rA J J<|rN<|tS<|aa.cut (fun aK=>∃ (c2:Bool),nn c2=r∧aK=⟨19,[(2,.bool c2)],[]⟩) ?_ ?_
 ·refine tR<|rF J J J<|rL J J .p0 J J<|aL J (fy J) cR J<|ae.qv (cq J) J<|rM J J<|ae.guard J J J (fun hc=>?_) (fun hc=>?_)
  ·rw [wU hc] at h
   refine rF J J J<|rY J J J<|rL J J .p0 J J<|rY J J J<|aL J (fy J) cR J<|rY J J J<|ae.qv (cq J) J<|rT J J J<|rM J J<|ae.guard J J J (fun hc=>?_) (fun hc=>?_)
   ·rw [wU hc] at h
    exact rF J J J<|rY J J J<|rL J J .p0 J J<|rY J J J<|aL J (fy J) cR J<|rY J J J<|ae.qv (cq J) J<|rT J J J<|rA J J<|rN<|aa.stop<|aj.lq [] ⟨!(eM ab.dY (0:Int) (9999:Int)),h,J⟩ J J
   ·rw [wV hc] at h
    exact rG J J J J<|rG J J J J<|rG J J J J<|rE J J J<|rA J J<|rN<|aa.stop<|aj.lq [] ⟨false,h,J⟩ J J
  ·rw [wV hc] at h
   exact rG J J J J<|rG J J J J<|rG J J J J<|rE J J J<|rM J J<|rG J J J J<|rG J J J J<|rG J J J J<|rG J J J J<|rE J J J<|rA J J<|rN<|aa.stop<|aj.lq [] ⟨false,h,J⟩ J J
 ·rintro aK ⟨c2,h,rfl⟩
  unfold nn at h
  refine aa.ret<|?_
  obtain rfl:=h
  exact hP J J
theorem ze {ab:ax} {r:Bool} (h:mW ab=some r):Pu Tryz.prog 179 [.str ab] (.bool r):=by
 unfold mW at h
 refine aG.bc Tryz.func179 J Tryz.ntmps179 Tryz.results179 J J ?_
 refine aF<|rA J J<|rN<|tS<|aF<|rM J J<|ae.qv (dA J) J<|rM J J<|rN<|aa.block<|aa.ff (fun x:Int=>eh ab x) (fun x aK=>aK=⟨22,[(0,.str ab),(5,I (ab.length:Int)),(6,I x)],[]⟩) h ?_ ?_
 ·exact aj.lq [] J J J
 ·intro n2 z1 aK J1 iV h lK fV
  obtain rfl:=iV
  replace h:eh ab n2=some z1:=h
  unfold eh at h
  refine aF<|ae.qv (cu J J) J<|rN<|tS<|cD h J (fun h=>?_) (fun h=>?_)
  ·refine tK<|tS<|aa.block<|aF<|rM J J<|rA J J<|rN<|tS<|aa.cut (fun aK=>∃ (c3:Bool),jR n2 c3=some z1∧aK=⟨22,[(0,.str ab),(5,I (ab.length:Int)),(6,I n2),(18,.bool c3)],[]⟩) ?_ ?_
   ·refine tR<|rM J J<|rM J J<|aH h fun c4 e1 h=>ae.qv (j9 J J e1) J<|ae.qv (cu J J) J<|rM J J<|gF h J J J (fun h=>?_) (fun h=>?_)
    ·exact rM J J<|rY J J J<|rM J J<|rY J J J<|aH h fun c5 e2 h=>ae.qv (j9 J J e2) J<|rY J J J<|ae.qv (bM J J) J<|rE J J J<|rN<|aa.stop<|aj.lq [] ⟨decide ((c5.toNat:Int)=(127:Int)),h,J⟩ J J
    ·exact rG J J J J<|rG J J J J<|rG J J J J<|rT J J J<|rN<|aa.stop<|aj.lq [] ⟨true,h,J⟩ J J
   ·rintro aK ⟨c3,h,rfl⟩
    unfold jR at h
    refine cB h J (fun h=>?_) (fun h=>?_)
    ·refine aF<|rA J J<|rN<|aa.ret<|have h:=cH h fV;?_
     cases h
     exact hP J J
    ·refine tK<|aa.cy<|tR<|ae.qv (br J J) J<|rM J J<|rN<|aa.stop<|?_
     cases h
     exact lK _ _ J<|aj.lq [] J J J
  ·refine aa.exit J<|have h:=cH h fV;?_
   unfold oT at h
   refine aF<|rM J J<|aH h fun v6 e3 h=>aL J (qQ e3) cR J<|rA J J<|rN<|aa.ret<|?_
   cases h
   exact hP J J
theorem oe [GI:bt] {ab:ax} {ah:ax} {r:Bool} (h:cV ab ah=some r):Pu Tryz.prog 199 [.str ab,.str ah] (.bool r):=by
 unfold cV at h
 refine aG.bc Tryz.func199 J Tryz.ntmps199 Tryz.results199 J J ?_
 refine aF<|rA J J<|rN<|tS<|aa.cut (fun aK=>∃ (c1:Bool),cC c1=some r∧aK=⟨18,[(4,.bool c1)],[]⟩) ?_ ?_
 ·refine tR<|rM J J<|ae.qv (dA J) J<|rM J J<|ae.qv (dA J) J<|ae.qv (nN J J) J<|rM J J<|gT h J J J (fun h=>?_) (fun h=>?_)
  ·exact rM J J<|rY J J J<|rM J J<|rY J J J<|ae.qv (dA J) J<|rY J J J<|aH h fun l2 e1 h=>ae.qv (yI J .none (.some _ _ _ J) J J e1) J<|rY J J J<|rM J J<|rY J J J<|ae.qv (gr J J) J<|rT J J J<|rA J J<|rN<|aa.stop<|aj.lq [] ⟨decide (l2=ah),h,J⟩ J J
  ·exact rG J J J J<|rG J J J J<|rG J J J J<|rG J J J J<|rG J J J J<|rE J J J<|rA J J<|rN<|aa.stop<|aj.lq [] ⟨false,h,J⟩ J J
 ·rintro aK ⟨c1,h,rfl⟩
  unfold cC at h
  refine aa.ret<|?_
  cases h
  exact hP J J
theorem vB [GI:bt] {ab:ax} {ah:ax} {r:Bool} (h:strings_HasPrefix ab ah=some r):Pu Tryz.prog 156 [.str ab,.str ah] (.bool r):=by
 unfold strings_HasPrefix at h
 refine aG.bc Tryz.func156 J Tryz.ntmps156 Tryz.results156 J J ?_
 refine aF<|rA J J<|rN<|aF<|rM J J<|rM J J<|aH h fun v1 e1 h=>aL J (oe e1) cR J<|rA J J<|rN<|aa.ret<|?_
 cases h
 exact hP J J
theorem og [GI:bt] {ab:ax} {ah:ax} {r:Bool} (h:cW ab ah=some r):Pu Tryz.prog 208 [.str ab,.str ah] (.bool r):=by
 unfold cW at h
 refine aG.bc Tryz.func208 J Tryz.ntmps208 Tryz.results208 J J ?_
 refine aF<|rA J J<|rN<|tS<|aa.cut (fun aK=>∃ (c1:Bool),cE c1=some r∧aK=⟨21,[(4,.bool c1)],[]⟩) ?_ ?_
 ·refine tR<|rM J J<|ae.qv (dA J) J<|rM J J<|ae.qv (dA J) J<|ae.qv (nN J J) J<|rM J J<|gT h J J J (fun h=>?_) (fun h=>?_)
  ·exact rM J J<|rY J J J<|rM J J<|rY J J J<|ae.qv (dA J) J<|rY J J J<|rM J J<|rY J J J<|ae.qv (dA J) J<|rY J J J<|ae.qv (dm J J) J<|rY J J J<|aH h fun l2 e1 h=>ae.qv (yI J (.some _ _ _ J) .none J J e1) J<|rY J J J<|rM J J<|rY J J J<|ae.qv (gr J J) J<|rT J J J<|rA J J<|rN<|aa.stop<|aj.lq [] ⟨decide (l2=ah),h,J⟩ J J
  ·exact rG J J J J<|rG J J J J<|rG J J J J<|rG J J J J<|rG J J J J<|rG J J J J<|rG J J J J<|rG J J J J<|rE J J J<|rA J J<|rN<|aa.stop<|aj.lq [] ⟨false,h,J⟩ J J
 ·rintro aK ⟨c1,h,rfl⟩
  unfold cE at h
  refine aa.ret<|?_
  cases h
  exact hP J J
theorem vC [GI:bt] {ab:ax} {ah:ax} {r:Bool} (h:strings_HasSuffix ab ah=some r):Pu Tryz.prog 180 [.str ab,.str ah] (.bool r):=by
 unfold strings_HasSuffix at h
 refine aG.bc Tryz.func180 J Tryz.ntmps180 Tryz.results180 J J ?_
 refine aF<|rA J J<|rN<|aF<|rM J J<|rM J J<|aH h fun v1 e1 h=>aL J (og e1) cR J<|rA J J<|rN<|aa.ret<|?_
 cases h
 exact hP J J
theorem nA {ab:ax} {ah:ax} {r:Bool} (h:strings_Contains ab ah=some r):Pu Tryz.prog 105 [.str ab,.str ah] (.bool r):=by
 unfold strings_Contains at h
 refine aG.bc Tryz.func105 J Tryz.ntmps105 Tryz.results105 J J ?_
 refine aF<|rA J J<|rN<|aF<|rM J J<|rM J J<|aH h fun v1 e1 h=>aL J (y9 e1) cR J<|ae.qv (nN J J) J<|rA J J<|rN<|aa.ret<|?_
 cases h
 exact hP J J
theorem C9 {ab:ax} {r:Bool} (h:qS ab=some r):Pu Tryz.prog 130 [.str ab] (.bool r):=by
 unfold qS at h
 refine aG.bc Tryz.func130 J Tryz.ntmps130 Tryz.results130 J J ?_
 refine aF<|rA J J<|rN<|tS<|aa.cut (fun aK=>∃ (c1:Bool),jA c1=some r∧aK=⟨20,[(2,.bool c1)],[]⟩) ?_ ?_
 ·refine tR<|rM J J<|aH h fun v2 e1 h=>aL J (ze e1) cR J<|rM J J<|ae.guard J J J (fun hc=>?_) (fun hc=>?_)
  ·refine have h:=kM hc h;rM J J<|rY J J J<|aH h fun v3 e2 h=>aL J (vB e2) cR J<|rY J J J<|ae.qv (cq J) J<|rT J J J<|rM J J<|ae.guard J J J (fun hc=>?_) (fun hc=>?_)
   ·refine have h:=kM hc h;rM J J<|rY J J J<|aH h fun v4 e3 h=>aL J (vC e3) cR J<|rY J J J<|ae.qv (cq J) J<|rT J J J<|rM J J<|ae.guard J J J (fun hc=>?_) (fun hc=>?_)
    ·exact have h:=kM hc h;rM J J<|rY J J J<|aH h fun v5 e4 h=>aL J (nA e4) cR J<|rY J J J<|ae.qv (cq J) J<|rT J J J<|rA J J<|rN<|aa.stop<|aj.lq [] ⟨!v5,h,J⟩ J J
    ·exact have h:=mR hc h;rG J J J J<|rG J J J J<|rE J J J<|rA J J<|rN<|aa.stop<|aj.lq [] ⟨false,h,J⟩ J J
   ·exact have h:=mR hc h;rG J J J J<|rG J J J J<|rE J J J<|rM J J<|rG J J J J<|rG J J J J<|rG J J J J<|rE J J J<|rA J J<|rN<|aa.stop<|aj.lq [] ⟨false,h,J⟩ J J
  ·exact have h:=mR hc h;rG J J J J<|rG J J J J<|rE J J J<|rM J J<|rG J J J J<|rG J J J J<|rG J J J J<|rE J J J<|rM J J<|rG J J J J<|rG J J J J<|rG J J J J<|rE J J J<|rA J J<|rN<|aa.stop<|aj.lq [] ⟨false,h,J⟩ J J
 ·rintro aK ⟨c1,h,rfl⟩
  unfold jA at h
  refine aa.ret<|?_
  cases h
  exact hP J J
theorem wz {ab:List Model} {ah:ai} {r:ai×Int} (h:jS ab ah=some r):Pu Tryz.prog 79 [sa ab,ai.av ah] (.mN [ai.av r.1,I r.2]):=by
 unfold jS at h
 refine aG.bc Tryz.func79 J Tryz.ntmps79 Tryz.results79 J J ?_
 refine aF<|de J J J J fun b1=>fj J J J J fun b2=>fj J J J J fun b3=>rN<|aF<|rF J J J<|rL J J .p2 J J<|rF J J J<|rL J J .p2 J J<|rF J J J<|rL J J .p2 J J<|rF J J J<|rL J J .p2 J J<|rF J J J<|rL J J .p2 J J<|rF J J J<|rL J J .p2 J J<|ae.qv (cF J J J J J) J<|aD J J J J .p1 J J<|rN<|aF<|ae.qv (gG J) J<|rA J J<|rN<|tS<|aF<|rF J J J<|rL J J .p2 J J<|rN<|aa.block<|aF<|ae.qv (bM J J) J<|rA J J<|rN<|aa.cut (fun aK=>∃ (q4:ax) (q5:ax) (n6:Int) (q7:ax) (q8:ax) (q9:ax) (n10:Int) (n11:Int) (n12:Int) (n13:Int) (n14:Int),cT ah q4 q5 n6 q7 q8 q9 n10 n11 n12 n13 n14=some r∧aK=⟨123,[(4,.ptr b2 0),(5,.ptr b3 0)],[(b2,.cells [.str ah.iB,I ah.No,I ah.aW,I ah.At,I ah.Kind,.str ah.Device,.str q4,.str q5,I n6,.str q7,.str q8,.str q9,I n10,I n11,I n12,I n13]),(b3,.cells [I n14])]⟩) ?_ ?_
 ·refine cD h J (fun h=>?_) (fun h=>?_)
  ·refine tS<|aa.ik (id:=5) (A:=[0,1,0,4,0,16,3,67,207,463,1023,2047]) (H0:=[(b2,.cells [.str ah.iB,I ah.No,I ah.aW,I ah.At,I ah.Kind,.str ah.Device,.str [],.str [],I (0:Int),.str [],.str [],.str [],I (0:Int),I (0:Int),I (0:Int),I (0:Int)])]) (HH:=fun β=>[(b2,.cells [.str ah.iB,I ah.No,I ah.aW,I ah.At,I ah.Kind,.str ah.Device,.str ah.Model,.str [],I ah.aC,.str [],.str [],.str [],I (0:Int),I (0:Int),I (0:Int),I (0:Int)]),(b3,.cells [I (0:Int)]),(b1,.cells (Bl ah))]) 10 mixed J (by kernel_rfl) (by kernel_rfl) [⟨none,some 7,[],fun _=>(b2,.cells [.str ah.iB,I ah.No,I ah.aW,I ah.At,I ah.Kind,.str ah.Device,.str [],.str [],I (0:Int),.str [],.str [],.str [],I (0:Int),I (0:Int),I (0:Int),I (0:Int)]),none,[]⟩,⟨some 7,some 9,[],fun _=>(b2,.cells [.str ah.iB,I ah.No,I ah.aW,I ah.At,I ah.Kind,.str ah.Device,.str ah.Model,.str [],I (0:Int),.str [],.str [],.str [],I (0:Int),I (0:Int),I (0:Int),I (0:Int)]),none,[]⟩,⟨some 9,none,[],fun _=>(b2,.cells [.str ah.iB,I ah.No,I ah.aW,I ah.At,I ah.Kind,.str ah.Device,.str ah.Model,.str [],I ah.aC,.str [],.str [],.str [],I (0:Int),I (0:Int),I (0:Int),I (0:Int)]),none,[]⟩] [] J (by kernel_rfl) J (.cons .p1 .nil) (fun _=>J)<|AT.am 7 J J<|AM.qv (au J J) J<|AM.qv (az J J .p1 J) J<|AM.qv (au J J) J<|AM.qv (az J J .p1 J) J<|AM.qv (au J J) J<|AM.qv (az J J .p1 J) J<|AM.qv (au J J) J<|AM.nil<|AT.wY (Ti:=[(b2,.cells [.str ah.iB,I ah.No,I ah.aW,I ah.At,I ah.Kind,.str ah.Device,.str [],.str [],I (0:Int),.str [],.str [],.str [],I (0:Int),I (0:Int),I (0:Int),I (0:Int)])]) (Pi:=[(b2,.cells [.str ah.iB,I ah.No,I ah.aW,I ah.At,I ah.Kind,.str ah.Device,.str ah.Model,.str [],I (0:Int),.str [],.str [],.str [],I (0:Int),I (0:Int),I (0:Int),I (0:Int)])]) (fun _=>J) (fun _=>J) (fun _=>J) J J ?_ ?_
   ·exact aD J J J J .p0 J J<|ae.nil ⟨_,J⟩
   refine AT.am 1 J J<|AM.qv (au J J) J<|AM.nil<|AT.wY (Ti:=[(b2,.cells [.str ah.iB,I ah.No,I ah.aW,I ah.At,I ah.Kind,.str ah.Device,.str ah.Model,.str [],I (0:Int),.str [],.str [],.str [],I (0:Int),I (0:Int),I (0:Int),I (0:Int)])]) (Pi:=[(b2,.cells [.str ah.iB,I ah.No,I ah.aW,I ah.At,I ah.Kind,.str ah.Device,.str ah.Model,.str [],I ah.aC,.str [],.str [],.str [],I (0:Int),I (0:Int),I (0:Int),I (0:Int)])]) (fun _=>J) (fun _=>J) (fun _=>J) J J ?_ ?_
   ·exact aD J J J J .p0 J J<|ae.nil ⟨_,J⟩
   exact AT.sZ (fun _=>J) fun β=>rF J J J<|aD J J J J .p0 J J<|rN<|aF<|rM J J<|rM J J<|rF J J J<|rL J J .p2 J J<|aH h fun pI e1 h=>aL J (uI e1) cR J<|ae.qv (cu J J) J<|mS J J J (cj J) cR (.cons .p1 .nil) J J<|rN<|aF<|rM J J<|rF J J J<|rL J J .p2 J J<|aL J (fy J) cR J<|mS J J J (cj J) cR (.cons .p0 .nil) J J<|rN<|tR<|rM J J<|rF J J J<|rL J J .p2 J J<|aH h fun tI e2 h=>aL J (l8 e2) cR J<|ae.qv (cq J) J<|mS J J J (cj J) cR (.cons .p0 .nil) J J<|rN<|aa.stop<|aj.lq [1,0] ⟨ah.Model,[],ah.aC,ah.Key,[],[],(0:Int),(0:Int),(0:Int),(0:Int),(aS (!tI) (5:Int) (aS (eM ah.aC (1:Int) (99999999:Int)) (1:Int) (aS (decide (pI < (0:Int))) (8:Int) (0:Int)))),h,J⟩ J J
  ·refine aF<|ae.qv (bM J J) J<|rA J J<|rN<|aa.cut (fun aK=>∃ (Qt:ax) (Qu:ax) (Qv:ax) (Qw:ax) (n21:Int) (n22:Int) (n23:Int) (n24:Int) (n25:Int),dE ah Qt Qu Qv Qw n21 n22 n23 n24 n25=some r∧aK=⟨123,[(4,.ptr b2 0),(5,.ptr b3 0)],[(b2,.cells [.str ah.iB,I ah.No,I ah.aW,I ah.At,I ah.Kind,.str ah.Device,.str [],.str Qt,I (0:Int),.str Qu,.str Qv,.str Qw,I n21,I n22,I n23,I n24]),(b3,.cells [I n25])]⟩) ?_ ?_
   ·refine cD h J (fun h=>?_) (fun h=>?_)
    ·exact aF<|rF J J J<|rL J J .p2 J J<|rF J J J<|aD J J J J .p1 J J<|rN<|tR<|rM J J<|rF J J J<|rL J J .p2 J J<|aH h fun v26 e3 h=>aL J (l6 e3) cR J<|ae.qv (cq J) J<|mS J J J (cj J) cR (.cons .p0 .nil) J J<|rN<|aa.stop<|aj.lq [1,0] ⟨ah.aO,[],[],[],(0:Int),(0:Int),(0:Int),(0:Int),(aS (!v26) (5:Int) (0:Int)),h,J⟩ J J
    ·refine aF<|ae.qv (bM J J) J<|rA J J<|rN<|aa.cut (fun aK=>∃ (NU:ax) (NV:ax) (Qx:ax) (n30:Int) (n31:Int) (n32:Int) (n33:Int) (n34:Int),eA ah NU NV Qx n30 n31 n32 n33 n34=some r∧aK=⟨123,[(4,.ptr b2 0),(5,.ptr b3 0)],[(b2,.cells [.str ah.iB,I ah.No,I ah.aW,I ah.At,I ah.Kind,.str ah.Device,.str [],.str [],I (0:Int),.str NU,.str NV,.str Qx,I n30,I n31,I n32,I n33]),(b3,.cells [I n34])]⟩) ?_ ?_
     ·refine cD h J (fun h=>?_) (fun h=>?_)
      ·refine tS<|aa.ik (id:=13) (A:=[0,1,0,4,3,19,63,127]) (H0:=[(b2,.cells [.str ah.iB,I ah.No,I ah.aW,I ah.At,I ah.Kind,.str ah.Device,.str [],.str [],I (0:Int),.str [],.str [],.str [],I (0:Int),I (0:Int),I (0:Int),I (0:Int)])]) (HH:=fun β=>[(b2,.cells [.str ah.iB,I ah.No,I ah.aW,I ah.At,I ah.Kind,.str ah.Device,.str [],.str [],I (0:Int),.str ah.Key,.str [],.str [],I (0:Int),I (0:Int),I (0:Int),I (0:Int)]),(b3,.cells [I (0:Int)]),(b1,.cells (Bl ah))]) 6 mixed J (by kernel_rfl) (by kernel_rfl) [⟨none,some 5,[],fun _=>(b2,.cells [.str ah.iB,I ah.No,I ah.aW,I ah.At,I ah.Kind,.str ah.Device,.str [],.str [],I (0:Int),.str [],.str [],.str [],I (0:Int),I (0:Int),I (0:Int),I (0:Int)]),none,[]⟩,⟨some 5,none,[],fun _=>(b2,.cells [.str ah.iB,I ah.No,I ah.aW,I ah.At,I ah.Kind,.str ah.Device,.str [],.str [],I (0:Int),.str ah.Key,.str [],.str [],I (0:Int),I (0:Int),I (0:Int),I (0:Int)]),none,[]⟩] [] J (by kernel_rfl) J (.cons .p1 .nil) (fun _=>J)<|AT.am 5 J J<|AM.qv (au J J) J<|AM.qv (az J J .p1 J) J<|AM.qv (au J J) J<|AM.qv (az J J .p1 J) J<|AM.qv (au J J) J<|AM.nil<|AT.wY (Ti:=[(b2,.cells [.str ah.iB,I ah.No,I ah.aW,I ah.At,I ah.Kind,.str ah.Device,.str [],.str [],I (0:Int),.str [],.str [],.str [],I (0:Int),I (0:Int),I (0:Int),I (0:Int)])]) (Pi:=[(b2,.cells [.str ah.iB,I ah.No,I ah.aW,I ah.At,I ah.Kind,.str ah.Device,.str [],.str [],I (0:Int),.str ah.Key,.str [],.str [],I (0:Int),I (0:Int),I (0:Int),I (0:Int)])]) (fun _=>J) (fun _=>J) (fun _=>J) J J ?_ ?_
       ·exact aD J J J J .p0 J J<|ae.nil ⟨_,J⟩
       exact AT.sZ (fun _=>J) fun β=>rF J J J<|aD J J J J .p0 J J<|rN<|aF<|rM J J<|rF J J J<|rL J J .p2 J J<|aH h fun v35 e4 h=>aL J (l8 e4) cR J<|ae.qv (cq J) J<|mS J J J (cj J) cR (.cons .p1 .nil) J J<|rN<|tR<|rM J J<|rF J J J<|rL J J .p2 J J<|rF J J J<|rL J J .p2 J J<|aL J (fy J) cR J<|mS J J J (cj J) cR (.cons .p0 .nil) J J<|rN<|aa.stop<|aj.lq [1,0] ⟨ah.Key,[],[],ah.bj,(0:Int),(0:Int),(0:Int),(aS (eM ah.bj ah.At (345686400000:Int)) (1:Int) (aS (!v35) (5:Int) (0:Int))),h,J⟩ J J
      ·refine aF<|ae.qv (bM J J) J<|rA J J<|rN<|aa.cut (fun aK=>∃ (Qy:ax) (Qz:ax) (n38:Int) (n39:Int) (n40:Int) (n41:Int),fC ah Qy Qz n38 n39 n40 n41=some r∧aK=⟨123,[(4,.ptr b2 0),(5,.ptr b3 0)],[(b2,.cells [.str ah.iB,I ah.No,I ah.aW,I ah.At,I ah.Kind,.str ah.Device,.str [],.str [],I (0:Int),.str [],.str Qy,.str Qz,I (0:Int),I n38,I n39,I n40]),(b3,.cells [I n41])]⟩) ?_ ?_
       ·refine cD h J (fun h=>?_) (fun h=>?_)
        ·exact aF<|rF J J J<|ae.qv (cw J J .p2 J J) J<|rF J J J<|aD J J J J .p1 J J<|rN<|tR<|rM J J<|rF J J J<|ae.qv (cw J J .p2 J J) J<|aL J (AB J) cR J<|ae.qv (cq J) J<|mS J J J (cj J) cR (.cons .p0 .nil) J J<|rN<|aa.stop<|aj.lq [1,0] ⟨[],[],ah.an.er,ah.an.et,ah.an.dY,(aS (!(ml ah.an)) (1:Int) (0:Int)),h,J⟩ J J
        ·refine aF<|ae.qv (bM J J) J<|rA J J<|rN<|aa.cut (fun aK=>∃ (Ib:ax) (QA:ax) (n44:Int),gV ah Ib QA n44=some r∧aK=⟨123,[(4,.ptr b2 0),(5,.ptr b3 0)],[(b2,.cells [.str ah.iB,I ah.No,I ah.aW,I ah.At,I ah.Kind,.str ah.Device,.str [],.str [],I (0:Int),.str [],.str Ib,.str QA,I (0:Int),I (0:Int),I (0:Int),I (0:Int)]),(b3,.cells [I n44])]⟩) ?_ ?_
         ·refine cD h J (fun h=>?_) (fun h=>?_)
          ·refine tS<|aa.ik (id:=20) (A:=[0,1,0,4,3,19,63,127]) (H0:=[(b2,.cells [.str ah.iB,I ah.No,I ah.aW,I ah.At,I ah.Kind,.str ah.Device,.str [],.str [],I (0:Int),.str [],.str [],.str [],I (0:Int),I (0:Int),I (0:Int),I (0:Int)])]) (HH:=fun β=>[(b2,.cells [.str ah.iB,I ah.No,I ah.aW,I ah.At,I ah.Kind,.str ah.Device,.str [],.str [],I (0:Int),.str [],.str ah.Name,.str [],I (0:Int),I (0:Int),I (0:Int),I (0:Int)]),(b3,.cells [I (0:Int)]),(b1,.cells (Bl ah))]) 6 mixed J (by kernel_rfl) (by kernel_rfl) [⟨none,some 5,[],fun _=>(b2,.cells [.str ah.iB,I ah.No,I ah.aW,I ah.At,I ah.Kind,.str ah.Device,.str [],.str [],I (0:Int),.str [],.str [],.str [],I (0:Int),I (0:Int),I (0:Int),I (0:Int)]),none,[]⟩,⟨some 5,none,[],fun _=>(b2,.cells [.str ah.iB,I ah.No,I ah.aW,I ah.At,I ah.Kind,.str ah.Device,.str [],.str [],I (0:Int),.str [],.str ah.Name,.str [],I (0:Int),I (0:Int),I (0:Int),I (0:Int)]),none,[]⟩] [] J (by kernel_rfl) J (.cons .p1 .nil) (fun _=>J)<|AT.am 5 J J<|AM.qv (au J J) J<|AM.qv (az J J .p1 J) J<|AM.qv (au J J) J<|AM.qv (az J J .p1 J) J<|AM.qv (au J J) J<|AM.nil<|AT.wY (Ti:=[(b2,.cells [.str ah.iB,I ah.No,I ah.aW,I ah.At,I ah.Kind,.str ah.Device,.str [],.str [],I (0:Int),.str [],.str [],.str [],I (0:Int),I (0:Int),I (0:Int),I (0:Int)])]) (Pi:=[(b2,.cells [.str ah.iB,I ah.No,I ah.aW,I ah.At,I ah.Kind,.str ah.Device,.str [],.str [],I (0:Int),.str [],.str ah.Name,.str [],I (0:Int),I (0:Int),I (0:Int),I (0:Int)])]) (fun _=>J) (fun _=>J) (fun _=>J) J J ?_ ?_
           ·exact aD J J J J .p0 J J<|ae.nil ⟨_,J⟩
           refine AT.sZ (fun _=>J) fun β=>rF J J J<|aD J J J J .p0 J J<|rN<|aF<|rM J J<|rF J J J<|rL J J .p2 J J<|aH h fun v45 e5 h=>aL J (l6 e5) cR J<|ae.qv (cq J) J<|mS J J J (cj J) cR (.cons .p1 .nil) J J<|rN<|aa.cut (fun aK=>∃ (n46:Int),gW ah n46=some r∧aK=⟨123,[(4,.ptr b2 0),(5,.ptr b3 0)],[(b2,.cells [.str ah.iB,I ah.No,I ah.aW,I ah.At,I ah.Kind,.str ah.Device,.str [],.str [],I (0:Int),.str [],.str ah.Name,.str ah.Value,I (0:Int),I (0:Int),I (0:Int),I (0:Int)]),(b3,.cells [I n46])]⟩) ?_ ?_
           ·refine tR<|rM J J<|rF J J J<|rL J J .p2 J J<|ae.qv (dA J) J<|ae.qv (jF J J) J<|rM J J<|gF h J J J (fun h=>?_) (fun h=>?_)
            ·exact rF J J J<|rY J J J<|rL J J .p2 J J<|rY J J J<|aH h fun Vw e6 h=>aL J (C9 e6) cR J<|rY J J J<|ae.qv (cq J) J<|rE J J J<|mS J J J (cj J) cR (.cons .p0 .nil) J J<|rN<|aa.stop<|aj.lq [1,0] ⟨(aS (!Vw) (3:Int) (aS (!v45) (5:Int) (0:Int))),h,J⟩ J J
            ·exact rG J J J J<|rG J J J J<|rG J J J J<|rT J J J<|mS J J J (cj J) cR (.cons .p0 .nil) J J<|rN<|aa.stop<|aj.lq [1,0] ⟨(aS true (3:Int) (aS (!v45) (5:Int) (0:Int))),h,J⟩ J J
           ·rintro aK ⟨n46,h,rfl⟩
            unfold gW at h
            exact aa.stop<|aj.lq [0,0] ⟨ah.Name,ah.Value,n46,h,J⟩ J J
          ·exact tK<|aa.stop<|aj.lq [1,0] ⟨[],[],(0:Int),h,J⟩ J J
         ·rintro aK ⟨Ib,QA,n44,h,rfl⟩
          unfold gV at h
          exact aa.stop<|aj.lq [0,0] ⟨Ib,QA,(0:Int),(0:Int),(0:Int),n44,h,J⟩ J J
       ·rintro aK ⟨Qy,Qz,n38,n39,n40,n41,h,rfl⟩
        unfold fC at h
        exact aa.stop<|aj.lq [0,0] ⟨[],Qy,Qz,(0:Int),n38,n39,n40,n41,h,J⟩ J J
     ·rintro aK ⟨NU,NV,Qx,n30,n31,n32,n33,n34,h,rfl⟩
      unfold eA at h
      exact aa.stop<|aj.lq [0,0] ⟨[],NU,NV,Qx,n30,n31,n32,n33,n34,h,J⟩ J J
   ·rintro aK ⟨Qt,Qu,Qv,Qw,n21,n22,n23,n24,n25,h,rfl⟩
    unfold dE at h
    exact aa.stop<|aj.lq [0,0] ⟨[],Qt,(0:Int),Qu,Qv,Qw,n21,n22,n23,n24,n25,h,J⟩ J J
 ·rintro aK ⟨q4,q5,n6,q7,q8,q9,n10,n11,n12,n13,n14,h,rfl⟩
  unfold cT at h
  refine aa.cy<|tS<|aa.ik (id:=23) (A:=[0,0,1,7]) (H0:=[(b2,.cells [.str ah.iB,I ah.No,I ah.aW,I ah.At,I ah.Kind,.str ah.Device,.str q4,.str q5,I n6,.str q7,.str q8,.str q9,I n10,I n11,I n12,I n13])]) (HH:=fun β=>[(b2,.cells [.str ah.iB,I ah.No,I ah.aW,I ah.At,I ah.Kind,.str ah.Device,.str q4,.str q5,I n6,.str q7,.str q8,.str q9,I n10,I n11,I n12,I n13]),(b3,.cells [I n14])]) 3 mixed J (by kernel_rfl) (by kernel_rfl) [⟨none,some 2,[0],fun _=>(b2,.cells [.str ah.iB,I ah.No,I ah.aW,I ah.At,I ah.Kind,.str ah.Device,.str q4,.str q5,I n6,.str q7,.str q8,.str q9,I n10,I n11,I n12,I n13]),none,[]⟩,⟨some 2,none,[],fun _=>(b2,.cells [.str ah.iB,I ah.No,I ah.aW,I ah.At,I ah.Kind,.str ah.Device,.str q4,.str q5,I n6,.str q7,.str q8,.str q9,I n10,I n11,I n12,I n13]),none,[]⟩] [] J (by kernel_rfl) J (.cons .p0 .nil) (fun _=>J)<|AT.rd (Rs:=[(b2,.cells [.str ah.iB,I ah.No,I ah.aW,I ah.At,I ah.Kind,.str ah.Device,.str q4,.str q5,I n6,.str q7,.str q8,.str q9,I n10,I n11,I n12,I n13])]) (fun _=>J) J (fun _=>J) (fun _=>J) (aU J J .p0 J) J<|AT.am 1 J J<|AM.qv (az J J .p0 J) J<|AM.nil<|AT.wY (Ti:=[(b2,.cells [.str ah.iB,I ah.No,I ah.aW,I ah.At,I ah.Kind,.str ah.Device,.str q4,.str q5,I n6,.str q7,.str q8,.str q9,I n10,I n11,I n12,I n13])]) (Pi:=[(b2,.cells [.str ah.iB,I ah.No,I ah.aW,I ah.At,I ah.Kind,.str ah.Device,.str q4,.str q5,I n6,.str q7,.str q8,.str q9,I n10,I n11,I n12,I n13])]) (fun _=>J) (fun _=>J) (fun _=>J) J J ?_ ?_
  ·exact aD J J J J .p0 J J<|ae.nil ⟨_,J⟩
  refine AT.sZ (fun _=>J) fun β=>aD J J J J .p1 J J<|rN<|aa.ret<|?_
  cases h
  exact aj.here ⟨_,.cons (.all _ _ _ _ _ _ J .p0 ay.h aP.h J J) (.cons (.one _ _ _ _ _ _ J .p1 ay.h J J) .nil),J⟩
end Go.Proofs.YtjgdilohhcheoaaGreatDoor
