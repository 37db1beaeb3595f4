/- The code computes the plain functions: proofs written by shal.py. -/
import Derived.Test.YtifmjkaghhkhfaaGreatDoorCauP
import Derived.Test.YtifmjkaghhkhfaaGreatDoorLib
set_option maxHeartbeats 4000000
set_option maxRecDepth 100000
set_option linter.unusedVariables false
set_option linter.unusedSimpArgs false
namespace Go.Proofs.YtifmjkaghhkhfaaGreatDoor
open Go Go.Eng Go.Proofs Go.Beacon
attribute [local irreducible] ah ae AQ QV aG aj M1 AM
instance X8:tB Tryz.prog 58 2 aH.av:=⟨fun x y w S v u hv hu=>by
 obtain ⟨vs,rfl,hl,ha⟩:=At.nn hv
 obtain ⟨us,rfl,yN,DB⟩:=At.nn hu
 obtain ⟨v0,p0,q0⟩:=lZ.get hl ha (off:=0) rfl
 obtain ⟨u0,Tm,Tn⟩:=lZ.get yN DB (off:=0) rfl
 obtain ⟨v1,p1,q1⟩:=lZ.get hl ha (off:=1) rfl
 obtain ⟨u1,Qv,Qw⟩:=lZ.get yN DB (off:=1) rfl
 obtain ⟨v2,p2,q2⟩:=lZ.get hl ha (off:=2) rfl
 obtain ⟨u2,Tp,Tq⟩:=lZ.get yN DB (off:=2) rfl
 obtain ⟨v3,p3,q3⟩:=lZ.get hl ha (off:=3) rfl
 obtain ⟨u3,p3',q3'⟩:=lZ.get yN DB (off:=3) rfl
 obtain ⟨v4,p4,q4⟩:=lZ.get hl ha (off:=4) rfl
 obtain ⟨u4,p4',q4'⟩:=lZ.get yN DB (off:=4) rfl
 obtain ⟨v5,p5,q5⟩:=lZ.get hl ha (off:=5) rfl
 obtain ⟨u5,p5',q5'⟩:=lZ.get yN DB (off:=5) rfl
 refine yV.cast (yV.struct Tryz.underlying58 (by kernel_rfl) (.cons (by decide) (fG J p0) (fG J Tm) (yV.up (tB.h (g:=AV.str) x.Device y.Device w S _ _ q0 Tn) 0) (.cons (by decide) (fG J p1) (fG J Qv) (yV.up (tB.h (g:=AV.str) x.aZ y.aZ w S _ _ q1 Qw) 0) (.cons (by decide) (fG J p2) (fG J Tp) (yV.up (tB.h (g:=I) x.State y.State w S _ _ q2 Tq) 0) (.cons (by decide) (fG J p3) (fG J p3') (yV.up (tB.h (g:=I) x.Since y.Since w S _ _ q3 q3') 0) (.cons (by decide) (fG J p4) (fG J p4') (yV.up (tB.h (g:=I) x.o3 y.o3 w S _ _ q4 q4') 0) (.cons (by decide) (fG J p5) (fG J p5') (yV.up (tB.h (g:=I) x.gP y.gP w S _ _ q5 q5') 0) .nil))))))) ?_
 obtain ⟨_,_,_,_,_,_⟩:=x
 obtain ⟨_,_,_,_,_,_⟩:=y
 rw [Bool.eq_iff_iff];simp [and_assoc]⟩
instance Tr:N0 Tryz.prog 111:=⟨by kernel_rfl⟩
instance Ts:tB Tryz.prog 111 3 Shown.av:=⟨fun x y w S v u hv hu=>by
 obtain ⟨vs,rfl,hl,ha⟩:=At.nn hv
 obtain ⟨us,rfl,yN,DB⟩:=At.nn hu
 obtain ⟨v1,p1,q1⟩:=lZ.get hl ha (off:=6) rfl
 obtain ⟨u1,Qv,Qw⟩:=lZ.get yN DB (off:=6) rfl
 obtain ⟨v2,p2,q2⟩:=lZ.get hl ha (off:=7) rfl
 obtain ⟨u2,Tp,Tq⟩:=lZ.get yN DB (off:=7) rfl
 refine yV.cast (yV.struct Tryz.underlying111 (by kernel_rfl) (.cons (by decide) (EJ J J) (EJ J J) (yV.up (tB.h (g:=aH.av) x.aH y.aH w S _ _ (lZ.sub hl ha 0 6 (Nat.le_of_ble_eq_true J)) (lZ.sub yN DB 0 6 (Nat.le_of_ble_eq_true J))) 0) (.cons (by decide) (fG J p1) (fG J Qv) (yV.up (tB.h (g:=I) x.Level y.Level w S _ _ q1 Qw) 1) (.cons (by decide) (fG J p2) (fG J Tp) (yV.up (tB.h (g:=I) x.Below y.Below w S _ _ q2 Tq) 1) .nil)))) ?_
 obtain ⟨_,_,_⟩:=x
 obtain ⟨_,_,_⟩:=y
 rw [Bool.eq_iff_iff];simp [and_assoc]⟩
instance Tt:tB Tryz.prog 157 2 al.av:=⟨fun x y w S v u hv hu=>by
 obtain ⟨vs,rfl,hl,ha⟩:=At.nn hv
 obtain ⟨us,rfl,yN,DB⟩:=At.nn hu
 obtain ⟨v0,p0,q0⟩:=lZ.get hl ha (off:=0) rfl
 obtain ⟨u0,Tm,Tn⟩:=lZ.get yN DB (off:=0) rfl
 obtain ⟨v1,p1,q1⟩:=lZ.get hl ha (off:=1) rfl
 obtain ⟨u1,Qv,Qw⟩:=lZ.get yN DB (off:=1) rfl
 refine yV.cast (yV.struct Tryz.underlying157 (by kernel_rfl) (.cons (by decide) (fG J p0) (fG J Tm) (yV.up (tB.h (g:=AV.str) x.aO y.aO w S _ _ q0 Tn) 0) (.cons (by decide) (fG J p1) (fG J Qv) (yV.up (tB.h (g:=AV.str) x.bf y.bf w S _ _ q1 Qw) 0) .nil))) ?_
 obtain ⟨_,_⟩:=x
 obtain ⟨_,_⟩:=y
 rw [Bool.eq_iff_iff];simp [and_assoc]⟩
instance Tu:kL Tryz.prog 157 al.av:=kL.struct (n:=2) J Tryz.underlying157 (fun f hf=>by
 simp only [List.mem_cons,List.not_mem_nil,or_false] at hf
 rcases hf with rfl | rfl
 ·exact ⟨_,aD.h (P:=Tryz.prog) (t:=9),J,by decide⟩
 ·exact ⟨_,aD.h (P:=Tryz.prog) (t:=9),J,by decide⟩) (fun x=>⟨_,J,J,fun c hc=>by
 simp only [List.mem_cons,List.not_mem_nil,or_false] at hc
 rcases hc with rfl | rfl<;>rfl⟩) (fun a b h=>by
 obtain ⟨_,_⟩:=a
 obtain ⟨_,_⟩:=b
 simpa [al.av] using h)
abbrev gQ (xs:List Int):AV:=.list 1 (xs.map I)
abbrev IE (xs:List aS):AV:=.list 1 (xs.map AV.str)
abbrev H8 (xs:List cP):Ob:=.arr 2 (xs.map cP.av)
abbrev Mh (xs:List bC):Ob:=.arr 3 (xs.map bC.av)
abbrev X9 (x:bd) (b3 b4:Bk):List AV:=[I x.bW.kM,I x.bW.ao,I x.bW.Calm,.sl 2 b3 0 x.Links.length,.sl 3 b4 0 x.aW.length]
abbrev fS (xs:List Signal):Ob:=.arr 6 (xs.map Signal.av)
abbrev nw (xs:List Signal):AV:=.list 6 (xs.map Signal.av)
abbrev Gh (xs:List cP):AV:=.list 2 (xs.map cP.av)
abbrev Mi (xs:List bC):AV:=.list 3 (xs.map bC.av)
abbrev xB (x:bd):List AV:=[I x.bW.kM,I x.bW.ao,I x.bW.Calm,Gh x.Links,Mi x.aW]
abbrev IF (xs:List aS):Ob:=.arr 1 (xs.map AV.str)
abbrev BW (xs:List (aS×aS)):Ob:=.mp (xs.map (fun e=>(AV.str e.1,AV.str e.2)))
abbrev wU (x:Signal):List AV:=[I x.At,I x.Kind,.str x.Device,.str x.aZ,.str x.By,I x.bh]
abbrev Gi (xs:List (aS×bC)):Ob:=.mp (xs.map (fun e=>(AV.str e.1,bC.av e.2)))
abbrev Gj (xs:List (aS×Bool)):Ob:=.mp (xs.map (fun e=>(AV.str e.1,AV.bool e.2)))
abbrev fE0 (x:ar):List AV:=[.str x.bz.aO,.str x.bz.bf,I x.aK,I x.cr,.list 1 (x.aQ.map I),I x.az,.list 2 (x.nH.map ao.av),.list 2 (x.bN.map ao.av),.list 2 (x.bx.map ao.av),.list 1 (x.cq.map I),.list 1 (x.bH.map I)]
abbrev yk (b:Bk) (s:Nat→Bk) (x:ar):List (Bk×PO):=[(b,.cells [.str x.bz.aO,.str x.bz.bf,I x.aK,I x.cr,.sl 1 (s 0) 0 x.aQ.length,I x.az,.sl 2 (s 1) 0 x.nH.length,.sl 2 (s 2) 0 x.bN.length,.sl 2 (s 3) 0 x.bx.length,.sl 1 (s 4) 0 x.cq.length,.sl 1 (s 5) 0 x.bH.length]),(s 0,.arr 1 (x.aQ.map I)),(s 1,.arr 2 (x.nH.map ao.av)),(s 2,.arr 2 (x.bN.map ao.av)),(s 3,.arr 2 (x.bx.map ao.av)),(s 4,.arr 1 (x.cq.map I)),(s 5,.arr 1 (x.bH.map I))]
theorem Tv:KB yk fE0:=⟨⟨fun x=>[.v (.str x.bz.aO),.v (.str x.bz.bf),.v (I x.aK),.v (I x.cr),.l 1 I x.aQ,.v (I x.az),.l 2 ao.av x.nH,.l 2 ao.av x.bN,.l 2 ao.av x.bx,.l 1 I x.cq,.l 1 I x.bH],fun _ _ _=>J,fun _=>J⟩⟩
abbrev IG (xs:List ao):AV:=.list 2 (xs.map ao.av)
abbrev iI (xs:List ao):Ob:=.arr 2 (xs.map ao.av)
abbrev Gk (x:ar) (b4 b6 b7 b8 b9 pz:Bk):List AV:=[.str x.bz.aO,.str x.bz.bf,I x.aK,I x.cr,.sl 1 b4 0 x.aQ.length,I x.az,.sl 2 b6 0 x.nH.length,.sl 2 b7 0 x.bN.length,.sl 2 b8 0 x.bx.length,.sl 1 b9 0 x.cq.length,.sl 1 pz 0 x.bH.length]
abbrev iH (xs:List Int):Ob:=.arr 1 (xs.map I)
abbrev vi (xs:List aH):Ob:=.arr 6 (xs.map aH.av)
abbrev Tw (xs:List aH):AV:=.list 6 (xs.map aH.av)
abbrev JX (x:bE) (b0 b1 b2 b3:Bk):List AV:=[.gD b0,.gD b1,.sl 6 b2 0 x.o4.length,.gD b3]
abbrev Ya (x:an):List AV:=[.str x.aO,.str x.bf,.list 6 (x.bK.map Signal.av),I x.aK,I x.az.dR,I x.az.To]
abbrev Lc (b:Bk) (s:Nat→Bk) (x:an):List (Bk×PO):=[(b,.cells [.str x.aO,.str x.bf,.sl 6 (s 0) 0 x.bK.length,I x.aK,I x.az.dR,I x.az.To]),(s 0,.arr 6 (x.bK.map Signal.av))]
theorem Tx:KB Lc Ya:=⟨⟨fun x=>[.v (.str x.aO),.v (.str x.bf),.l 6 Signal.av x.bK,.v (I x.aK),.v (I x.az.dR),.v (I x.az.To)],fun _ _ _=>J,fun _=>J⟩⟩
abbrev Cb (xs:List an):AV:=.list 1 (xs.map (fun x=>AV.gg (Ya x)))
abbrev JY (xs:List dh):Ob:=.arr 2 (xs.map dh.av)
abbrev Mj (xs:List (aS×Int)):Ob:=.mp (xs.map (fun e=>(AV.str e.1,I e.2)))
abbrev cO (xs:List Shown):Ob:=.arr 8 (xs.map Shown.av)
abbrev Mk (xs:List Shown):AV:=.list 8 (xs.map Shown.av)
theorem DH [GI:bA] {aa:Int} {ai:Int} {r:Int} (h:Below aa ai=some r):Pu Tryz.prog 75 [I aa,I ai] (I r):=by
 unfold Below at h
 refine aG.bw Tryz.func75 J Tryz.ntmps75 Tryz.results75 J J ?_
 refine aI<|rA J J<|rN<|tS<|aI<|rM J J<|ah.qv (bB J J) J<|rN<|cD h J (fun h=>?_) (fun h=>?_)
 ·refine aI<|rA J J<|rN<|ae.ret<|?_
  cases h
  exact hP J J
 ·refine tK<|aI<|rM J J<|rM J J<|aA h fun n1 e1 h=>ah.qv (Jd J J e1) J<|rA J J<|rN<|tS<|aI<|rM J J<|ah.qv (bB J J) J<|rN<|ae.cut (fun aC=>∃ (n2:Int),vG n2=some r∧aC=⟨16,[(0,I n2)],[]⟩) ?_ ?_
  ·refine cD h J (fun h=>?_) (fun h=>?_)
   ·exact tR<|rM J J<|rM J J<|ah.qv (aV J J) J<|rA J J<|rN<|ae.stop<|aj.lq [] ⟨aN (n1+ai),h,J⟩ J J
   ·exact tK<|ae.stop<|aj.lq [] ⟨n1,h,J⟩ J J
  ·rintro aC ⟨n2,h,rfl⟩
   unfold vG at h
   refine aI<|rM J J<|rA J J<|rN<|ae.ret<|?_
   cases h
   exact hP J J
theorem iw [GI:bA] {aM:Bk} {aa:ak} {ai:Int} {r:Int×ak} (h:fo aa ai=some r):aG Tryz.prog 13 [.ptr aM 0,I ai] [(aM,.cells [gQ aa.L,I aa.at_])] (T0 ([(aM,.cells [gQ r.2.L,I r.2.at_])]) (I r.1)):=by
 unfold fo at h
 refine aG.dD ?_
 refine aG.bw Tryz.func13 J Tryz.ntmps13 Tryz.results13 J J ?_
 refine aI<|rA J J<|rN<|aI<|rM J J<|ah.qv (ay J) J<|rF J J J<|rL J J .p0 J J<|ah.qv (aV J J) J<|ah.qv (ay J) J<|rF J J J<|aE J J J J .p0 J J<|rN<|tS<|aI<|rM J J<|ah.qv (ay J) J<|rF J J J<|rL J J .p0 J J<|ah.qv (ey J) J<|ah.qv (cH J J) J<|rN<|cD h J (fun h=>?_) (fun h=>?_)
 ·refine aI<|rM J J<|ah.qv (ay J) J<|rF J J J<|rL J J .p0 J J<|ah.qv (vr J J) J<|rM J J<|aA h fun v1 e1 h=>bc J (DH e1) cR J<|rA J J<|rN<|ae.ret<|?_
  cases h
  exact hH J [0] J ⟨J,J⟩
 ·refine tK<|tS<|ae.bV (id:=4) (A:=[0,1,3,7,15,0,32,96,224,480,1023,2047]) 12 mixed J (by kernel_rfl) (by kernel_rfl)<|AM.qv (ax J) J<|AM.qv (ay J) J<|AM.qv (au J J) J<|AM.qv (aB J J .p0 J) J<|AM.qv (bF J J) J<|AM.qv (ax J) J<|AM.qv (ay J) J<|AM.qv (au J J) J<|AM.qv (aB J J .p0 J) J<|AM.qv (ey J) J<|aA h fun n2 e2 h=>AM.qv (Jd J J e2) J<|AM.qv (c0 J) J<|AM.nil<|rN<|tS<|ae.bV (id:=5) (A:=[0,1,3,7,15,0,32,96,224,480,1023,2047]) 12 mixed J (by kernel_rfl) (by kernel_rfl)<|AM.qv (ax J) J<|AM.qv (ay J) J<|AM.qv (au J J) J<|AM.qv (aB J J .p0 J) J<|AM.qv (bF J J) J<|AM.qv (ax J) J<|AM.qv (ay J) J<|AM.qv (au J J) J<|AM.qv (aB J J .p0 J) J<|AM.qv (ey J) J<|aA h fun n3 e3 h=>AM.qv (NZ J J e3) J<|AM.qv (c0 J) J<|AM.nil<|rN<|aI<|rM J J<|ah.qv (ay J) J<|rF J J J<|rL J J .p0 J J<|rM J J<|aA h fun v4 e4 h=>ah.qv (bO J J J e4 J J) J<|ah.qv (aU J J J) J<|aA h fun v5 e5 h=>bc J (DH e5) cR J<|rM J J<|rM J J<|ah.qv (aV J J) J<|ah.qv (vr J J) J<|ah.qv (aV J J) J<|rM J J<|aA h fun v6 e6 h=>bc J (DH e6) cR J<|rA J J<|rN<|ae.ret<|?_
  cases h
  exact hH J [0] J ⟨J,J⟩
theorem cI [GI:bA] {aM:Bk} {aa:ak} {ai:List Int} {r:Int×ak} (h:cw aa ai=some r):aG Tryz.prog 69 [.ptr aM 0,gQ ai] [(aM,.cells [gQ aa.L,I aa.at_])] (T0 ([(aM,.cells [gQ r.2.L,I r.2.at_])]) (I r.1)):=by
 unfold cw at h
 refine aG.dD ?_
 refine aG.bw Tryz.func69 J Tryz.ntmps69 Tryz.results69 J J ?_
 refine aI<|rA J J<|rN<|aI<|rM J J<|rM J J<|rM J J<|ah.qv (ey J) J<|aA h fun v1 e1 h=>ba J (iw e1) cR (.cons .p0 .nil) J J<|aA h fun v2 e2 h=>ah.qv (bO J J J e2 J J) J<|ah.qv (aU J J J) J<|rA J J<|rN<|ae.ret<|?_
 cases h
 exact hH J [0] J ⟨J,J⟩
theorem iy [GI:bA] {aM:Bk} {aa:ak} {ai:Int} {r:Bool×ak} (h:fq aa ai=some r):aG Tryz.prog 14 [.ptr aM 0,I ai] [(aM,.cells [gQ aa.L,I aa.at_])] (T0 ([(aM,.cells [gQ r.2.L,I r.2.at_])]) (.bool r.1)):=by
 unfold fq at h
 refine aG.dD ?_
 refine aG.bw Tryz.func14 J Tryz.ntmps14 Tryz.results14 J J ?_
 refine aI<|rA J J<|rN<|aI<|rM J J<|rM J J<|aA h fun v1 e1 h=>ba J (iw e1) cR (.cons .p0 .nil) J J<|ah.qv (cH J J) J<|rA J J<|rN<|ae.ret<|?_
 cases h
 exact hH J [0] J ⟨J,J⟩
theorem iz [GI:bA] {aM:Bk} {aa:ak} {ai:List aS} {r:aS×ak} (h:fr aa ai=some r):aG Tryz.prog 11 [.ptr aM 0,IE ai] [(aM,.cells [gQ aa.L,I aa.at_])] (T0 ([(aM,.cells [gQ r.2.L,I r.2.at_])]) (.str r.1)):=by
 unfold fr at h
 refine aG.dD ?_
 refine aG.bw Tryz.func11 J Tryz.ntmps11 Tryz.results11 J J ?_
 refine aI<|rA J J<|rN<|aI<|rM J J<|rM J J<|rM J J<|ah.qv (ey J) J<|aA h fun v1 e1 h=>ba J (iw e1) cR (.cons .p0 .nil) J J<|aA h fun v2 e2 h=>ah.qv (bO J J J e2 J J) J<|ah.qv (aU J J J) J<|rA J J<|rN<|ae.ret<|?_
 cases h
 exact hH J [0] J ⟨J,J⟩
theorem sG [GI:bA] {aM:Bk} {aa:ak} {ai:Int} {aq:Int} {r:Int×ak} (h:jS aa ai aq=some r):aG Tryz.prog 8 [.ptr aM 0,I ai,I aq] [(aM,.cells [gQ aa.L,I aa.at_])] (T0 ([(aM,.cells [gQ r.2.L,I r.2.at_])]) (I r.1)):=by
 unfold jS at h
 refine aG.dD ?_
 refine aG.bw Tryz.func8 J Tryz.ntmps8 Tryz.results8 J J ?_
 refine aI<|rA J J<|rN<|tS<|aI<|rM J J<|rM J J<|ah.qv (bB J J) J<|rN<|cD h J (fun h=>?_) (fun h=>?_)
 ·refine aI<|rM J J<|rA J J<|rN<|ae.ret<|?_
  cases h
  exact hH J [0] J ⟨J,J⟩
 ·refine tK<|aI<|rM J J<|rM J J<|rM J J<|rM J J<|ah.qv (bF J J) J<|ah.qv (aV J J) J<|aA h fun v1 e1 h=>ba J (iw e1) cR (.cons .p0 .nil) J J<|ah.qv (aV J J) J<|rA J J<|rN<|ae.ret<|?_
  cases h
  exact hH J [0] J ⟨J,J⟩
theorem wV [GI:bA] {aM:Bk} {aa:ak} {r:bd×ak} (h:jU aa=some r):aG Tryz.prog 115 [.ptr aM 0] [(aM,.cells [gQ aa.L,I aa.at_])] (T2 (fun Bo JZ=>[(aM,.cells [gQ r.2.L,I r.2.at_]),(Bo,H8 r.1.Links),(JZ,Mh r.1.aW)]) (fun Bo JZ=>.agg [I r.1.bW.kM,I r.1.bW.ao,I r.1.bW.Calm,.sl 2 Bo 0 r.1.Links.length,.sl 3 JZ 0 r.1.aW.length])):=by
 unfold jU at h
 refine aG.dD ?_
 refine aG.bw Tryz.func115 J Tryz.ntmps115 Tryz.results115 J J ?_
 refine aI<|bT J J J J fun b1=>rN<|aI<|rM J J<|aY (xs:=([(2:Int),(3:Int),(9:Int)]).map I) J J J J J J<|aA h fun v2 e1 h=>ba J (cI e1) cR (.cons .p1 .nil) J J<|rM J J<|aY (xs:=([(10:Int),(30:Int)]).map I) J J J J J J<|aA h fun v3 e2 h=>ba J (cI e2) cR (.cons .p0 .nil) J J<|rM J J<|aY (xs:=([(5:Int),(20:Int)]).map I) J J J J J J<|aA h fun v4 e3 h=>ba J (cI e3) cR (.cons .p0 .nil) J J<|ah.qv (cF J J J J J) J<|ah.qv (cF J J J J J) J<|bT J J J J fun b5=>aE J J J J .p0 J J<|rN<|tS<|aI<|aY (xs:=([([100,97]:aS),([100,98]:aS),([100,99]:aS)]).map AV.str) J J J J J J<|ah.qv (ey J) J<|rM J J<|rN<|ae.block<|ae.bS (fun x:(List Int)×Int×(List cP)×Int=>iE v2 v3 v4 x.1 x.2.1 x.2.2.1 x.2.2.2) (fun x aC=>∃ (Cc:Bk),aC=⟨70,[(0,.ptr aM 0),(2,.ptr b1 0),(3,.ptr b5 0),(19,IE [([100,97]:aS),([100,98]:aS),([100,99]:aS)]),(20,I ([([100,97]:aS),([100,98]:aS),([100,99]:aS)].length:Int)),(21,I x.2.2.2)],[(aM,.cells [gQ x.1,I x.2.1]),(b1,.cells [I (0:Int),I (0:Int),I (0:Int),.nil,.nil]),(b5,.cells [I v2.1,I v3.1,I v4.1,.sl 2 Cc 0 x.2.2.1.length,.nil]),(Cc,H8 x.2.2.1)]⟩) h ?_ ?_
 ·exact aj.sr (j:=3) 2 (fun _=>.p0) J (fun _=>J) (fun _=>J) fun CV=>aj.lq [2,2,1,0] ⟨CV,J⟩ J J
 ·intro x z1 aC J1 dL h jF fP
  obtain ⟨iY,n12,oG,n15⟩:=x
  obtain ⟨Cc,rfl⟩:=dL
  replace h:iE v2 v3 v4 iY n12 oG n15=some z1:=h
  unfold iE at h
  refine aI<|ah.qv (bB J J) J<|rN<|tS<|cD h J (fun h=>?_) (fun h=>?_)
  ·refine tK<|tS<|ae.block<|aI<|aA h fun v17 e4 h=>ah.qv (bO J J J e4 J J) J<|ah.qv (aU J J J) J<|rA J J<|rN<|aI<|rM J J<|aA h fun zK e5 h=>ba J (iy e5) cR (.cons .p0 .nil) J J<|ah.qv (dB J) J<|rN<|ae.cut (fun aC=>∃ (Bp:Bk) (sv:List Int) (n20:Int) (wR:List cP),iB n15 sv n20 wR=some z1∧aC=⟨70,[(0,.ptr aM 0),(2,.ptr b1 0),(3,.ptr b5 0),(19,IE [([100,97]:aS),([100,98]:aS),([100,99]:aS)]),(20,I ([([100,97]:aS),([100,98]:aS),([100,99]:aS)].length:Int)),(21,I n15)],[(aM,.cells [gQ sv,I n20]),(b1,.cells [I (0:Int),I (0:Int),I (0:Int),.nil,.nil]),(b5,.cells [I v2.1,I v3.1,I v4.1,.sl 2 Bp 0 wR.length,.nil]),(Bp,H8 wR)]⟩) ?_ ?_
   ·refine cB h J (fun h=>?_) (fun h=>?_)
    ·refine aA h fun v23 e6 h=>ae.fK (id:=6) (A:=[0,1,0,0,0,24,60,124,255,511,1023]) (H0:=[(aM,.cells [gQ zK.2.L,I zK.2.at_])]) (HH:=fun β=>[(aM,.cells [gQ v23.2.L,I v23.2.at_]),(b1,.cells [I (0:Int),I (0:Int),I (0:Int),.nil,.nil]),(b5,.cells [I v2.1,I v3.1,I v4.1,.sl 2 Cc 0 oG.length,.nil]),(Cc,H8 oG)]) 8 mixed J (by kernel_rfl) (by kernel_rfl) [⟨none,some 5,[],fun _=>(aM,.cells [gQ zK.2.L,I zK.2.at_]),none,[]⟩,⟨some 5,none,[],fun _=>(aM,.cells [gQ v23.2.L,I v23.2.at_]),none,[]⟩] [] J (by kernel_rfl) J (.cons .p0 .nil) (fun _=>J)<|AT.am 5 J J<|AM.qv (au J J) J<|AM.qv (aB J J .p1 J) J<|AM.qv (ax J) J<|AM.qv (ax J) J<|AM.bU (xs:=([([100,103]:aS),([100,103]:aS),([100,104]:aS)]).map AV.str) J J J J J J<|AM.nil<|AT.A2 (av:=.str v23.1) (Ti:=[(aM,.cells [gQ zK.2.L,I zK.2.at_])]) (Pi:=[(aM,.cells [gQ v23.2.L,I v23.2.at_])]) (fun _=>J) (fun _=>J) (fun _=>J) J J J ?_ ?_
     ·exact ba J (iz e6) cR (.cons .p0 .nil) J J<|ah.nil ⟨_,J,J⟩
     exact AT.am 2 J J<|AM.qv (cF J J J J J) J<|AM.bU (xs:=([(⟨v17,v23.1⟩:cP)]).map cP.av) J J J J J J<|AM.nil<|AT.qS (fun _=>J) fun β=>aA h fun Tj e7 h=>dq (g:=cP.av) J J J J J J J J (.list _) e7 (fun _=>.p3) J fun zg=>rF J J J<|aE J J J J .p2 J J<|rN<|ae.stop<|aj.lq [0,0,0,0] ⟨zg,v23.2.L,v23.2.at_,Tj,h,J⟩ J J
    ·exact tK<|ae.stop<|aj.lq [0,0,0,0] ⟨Cc,zK.2.L,zK.2.at_,oG,h,J⟩ J J
   ·rintro aC ⟨Bp,sv,n20,wR,h,rfl⟩
    unfold iB at h
    refine ae.cd<|tR<|ah.qv (aV J J) J<|rM J J<|rN<|ae.stop<|?_
    cases h
    exact jF _ _ J<|aj.lq [0,0,0,0] ⟨Bp,J⟩ J J
  ·refine ae.exit J<|have h:=bP h fP;?_
   unfold jT at h
   refine tS<|aI<|rM J J<|aA h fun v26 e8 h=>ba J (iy e8) cR (.cons .p0 .nil) J J<|rN<|ae.cut (fun aC=>∃ (CW:Bk) (yh:List cP),fV v2 v3 v4 v26 yh=some r∧aC=⟨70,[(0,.ptr aM 0),(2,.ptr b1 0),(3,.ptr b5 0)],[(aM,.cells [gQ v26.2.L,I v26.2.at_]),(b1,.cells [I (0:Int),I (0:Int),I (0:Int),.nil,.nil]),(b5,.cells [I v2.1,I v3.1,I v4.1,.sl 2 CW 0 yh.length,.nil]),(CW,H8 yh)]⟩) ?_ ?_
   ·refine cB h J (fun h=>?_) (fun h=>?_)
    ·exact tR<|rF J J J<|rL J J .p2 J J<|ah.qv (cF J J J J J) J<|aY (xs:=([(⟨([100,103]:aS),([100,104]:aS)⟩:cP)]).map cP.av) J J J J J J<|aA h fun oN e9 h=>dq (g:=cP.av) J J J J J J J J (.list _) e9 (fun _=>.p3) J fun Ml=>rF J J J<|aE J J J J .p2 J J<|rN<|ae.stop<|aj.lq [0,0,0,0] ⟨Ml,oN,h,J⟩ J J
    ·exact tK<|ae.stop<|aj.lq [0,0,0,0] ⟨Cc,oG,h,J⟩ J J
   ·rintro aC ⟨CW,yh,h,rfl⟩
    unfold fV at h
    refine tS<|aI<|aY (xs:=([([114,97]:aS),([114,98]:aS)]).map AV.str) J J J J J J<|ah.qv (ey J) J<|rM J J<|rN<|ae.block<|ae.bS (fun x:(List Int)×Int×(List bC)×Int=>iD v2 v3 v4 yh x.1 x.2.1 x.2.2.1 x.2.2.2) (fun x aC=>∃ (OB:Bk),aC=⟨70,[(0,.ptr aM 0),(2,.ptr b1 0),(3,.ptr b5 0),(47,IE [([114,97]:aS),([114,98]:aS)]),(48,I ([([114,97]:aS),([114,98]:aS)].length:Int)),(49,I x.2.2.2)],[(aM,.cells [gQ x.1,I x.2.1]),(b1,.cells [I (0:Int),I (0:Int),I (0:Int),.nil,.nil]),(b5,.cells [I v2.1,I v3.1,I v4.1,.sl 2 CW 0 yh.length,.sl 3 OB 0 x.2.2.1.length]),(CW,H8 yh),(OB,Mh x.2.2.1)]⟩) h ?_ ?_
    ·exact aj.sr (j:=4) 3 (fun _=>.p2) J (fun _=>J) (fun _=>J) fun IH=>aj.lq [1,1,1,1,0] ⟨IH,J⟩ J J
    ·intro x z2 aC J2 dL h xC wW
     obtain ⟨Pa,n37,B8,n40⟩:=x
     obtain ⟨OB,rfl⟩:=dL
     replace h:iD v2 v3 v4 yh Pa n37 B8 n40=some z2:=h
     unfold iD at h
     refine aI<|ah.qv (bB J J) J<|rN<|tS<|cD h J (fun h=>?_) (fun h=>?_)
     ·refine tK<|tS<|ae.block<|aI<|aA h fun ID yl h=>ah.qv (bO J J J yl J J) J<|ah.qv (aU J J J) J<|rA J J<|rN<|aI<|rM J J<|aA h fun zc CX h=>ba J (iy CX) cR (.cons .p0 .nil) J J<|ah.qv (dB J) J<|rN<|ae.cut (fun aC=>∃ (RQ:Bk) (Bl:List Int) (n45:Int) (vl:List bC),iC n40 Bl n45 vl=some z2∧aC=⟨70,[(0,.ptr aM 0),(2,.ptr b1 0),(3,.ptr b5 0),(47,IE [([114,97]:aS),([114,98]:aS)]),(48,I ([([114,97]:aS),([114,98]:aS)].length:Int)),(49,I n40)],[(aM,.cells [gQ Bl,I n45]),(b1,.cells [I (0:Int),I (0:Int),I (0:Int),.nil,.nil]),(b5,.cells [I v2.1,I v3.1,I v4.1,.sl 2 CW 0 yh.length,.sl 3 RQ 0 vl.length]),(CW,H8 yh),(RQ,Mh vl)]⟩) ?_ ?_
      ·refine cB h J (fun h=>?_) (fun h=>?_)
       ·refine aA h fun bD Gl h=>aA h fun v49 Gm h=>ae.fK (id:=14) (A:=[0,1,0,0,8,0,56,120,252,508,1023,2047,4095]) (H0:=[(aM,.cells [gQ zc.2.L,I zc.2.at_])]) (HH:=fun β=>[(aM,.cells [gQ v49.2.L,I v49.2.at_]),(b1,.cells [I (0:Int),I (0:Int),I (0:Int),.nil,.nil]),(b5,.cells [I v2.1,I v3.1,I v4.1,.sl 2 CW 0 yh.length,.sl 3 OB 0 B8.length]),(CW,H8 yh),(OB,Mh B8)]) 10 mixed J (by kernel_rfl) (by kernel_rfl) [⟨none,some 4,[],fun _=>(aM,.cells [gQ zc.2.L,I zc.2.at_]),none,[]⟩,⟨some 4,some 6,[],fun _=>(aM,.cells [gQ bD.2.L,I bD.2.at_]),none,[]⟩,⟨some 6,none,[],fun _=>(aM,.cells [gQ v49.2.L,I v49.2.at_]),none,[]⟩] [] J (by kernel_rfl) J (.cons .p0 .nil) (fun _=>J)<|AT.am 4 J J<|AM.qv (au J J) J<|AM.qv (aB J J .p1 J) J<|AM.qv (ax J) J<|AM.qv (ax J) J<|AM.nil<|AT.A2 (av:=I bD.1) (Ti:=[(aM,.cells [gQ zc.2.L,I zc.2.at_])]) (Pi:=[(aM,.cells [gQ bD.2.L,I bD.2.at_])]) (fun _=>J) (fun _=>J) (fun _=>J) J J J ?_ ?_
        ·exact ba J (sG Gl) cR (.cons .p0 .nil) J J<|ah.nil ⟨_,J,J⟩
        refine AT.am 1 J J<|AM.qv (ax J) J<|AM.nil<|AT.A2 (av:=.bool v49.1) (Ti:=[(aM,.cells [gQ bD.2.L,I bD.2.at_])]) (Pi:=[(aM,.cells [gQ v49.2.L,I v49.2.at_])]) (fun _=>J) (fun _=>J) (fun _=>J) J J J ?_ ?_
        ·exact ba J (iy Gm) cR (.cons .p0 .nil) J J<|ah.nil ⟨_,J,J⟩
        exact AT.am 3 J J<|AM.qv (dB J) J<|AM.qv (cF J J J J J) J<|AM.bU (xs:=([(⟨ID,bD.1,!v49.1⟩:bC)]).map bC.av) J J J J J J<|AM.nil<|AT.qS (fun _=>J) fun β=>aA h fun wS J0 h=>dq (g:=bC.av) J J J J J J J J (.list _) J0 (fun _=>.p4) J fun Nr=>rF J J J<|aE J J J J .p2 J J<|rN<|ae.stop<|aj.lq [0,0,0,0,0] ⟨Nr,v49.2.L,v49.2.at_,wS,h,J⟩ J J
       ·exact tK<|ae.stop<|aj.lq [0,0,0,0,0] ⟨OB,zc.2.L,zc.2.at_,B8,h,J⟩ J J
      ·rintro aC ⟨RQ,Bl,n45,vl,h,rfl⟩
       unfold iC at h
       refine ae.cd<|tR<|ah.qv (aV J J) J<|rM J J<|rN<|ae.stop<|?_
       cases h
       exact xC _ _ J<|aj.lq [0,0,0,0,0] ⟨RQ,J⟩ J J
     ·refine ae.exit J<|have h:=bP h wW;aI<|ah.qv (aL J J .p2 J) J<|aE J J J J .p1 J J<|rN<|ae.ret<|?_
      cases h
      exact aj.here ⟨_,.cons (.all _ _ _ _ _ _ J .p1 aD.h aX.h J J) .nil,_,.cons .p0 (.cons .p2 (.cons .p2 .nil)),⟨CW,OB,J,J⟩⟩
theorem pn [GI:bA] {aM:Bk} {aa:ak} {ai:Int} {aq:Int} {r:Int×ak} (h:kB aa ai aq=some r):aG Tryz.prog 74 [.ptr aM 0,I ai,I aq] [(aM,.cells [gQ aa.L,I aa.at_])] (T0 ([(aM,.cells [gQ r.2.L,I r.2.at_])]) (I r.1)):=by
 unfold kB at h
 refine aG.dD ?_
 refine aG.bw Tryz.func74 J Tryz.ntmps74 Tryz.results74 J J ?_
 refine aI<|rA J J<|rN<|tS<|aI<|rM J J<|aA h fun v1 e1 h=>ba J (iy e1) cR (.cons .p0 .nil) J J<|rN<|cB h J (fun h=>?_) (fun h=>?_)
 ·refine aI<|rM J J<|rM J J<|ah.qv (bF J J) J<|rM J J<|ah.qv (aV J J) J<|rM J J<|rM J J<|aY (xs:=([aN (ai - (1:Int)),aN (aq+(1:Int)),ai,aq,(-1099511627776:Int),(1099511627776:Int)]).map I) J J J J J J<|aA h fun v2 e2 h=>ba J (cI e2) cR (.cons .p0 .nil) J J<|rA J J<|rN<|ae.ret<|?_
  cases h
  exact hH J [0] J ⟨J,J⟩
 ·refine tK<|aI<|rM J J<|rM J J<|rM J J<|aA h fun v3 e3 h=>ba J (sG e3) cR (.cons .p0 .nil) J J<|rA J J<|rN<|ae.ret<|?_
  cases h
  exact hH J [0] J ⟨J,J⟩
theorem Cd [GI:bA] {aM:Bk} {aa:ak} {r:bW×ak} (h:qu aa=some r):aG Tryz.prog 61 [.ptr aM 0] [(aM,.cells [gQ aa.L,I aa.at_])] (T0 ([(aM,.cells [gQ r.2.L,I r.2.at_])]) (bW.av r.1)):=by
 unfold qu at h
 refine aG.dD ?_
 refine aG.bw Tryz.func61 J Tryz.ntmps61 Tryz.results61 J J ?_
 refine aI<|bT J J J J fun b1=>rN<|aI<|rM J J<|aY (xs:=([(2:Int),(2:Int),(3:Int)]).map I) J J J J J J<|aA h fun v2 e1 h=>ba J (cI e1) cR (.cons .p1 .nil) J J<|rM J J<|aY (xs:=([(10:Int),(30:Int),(100:Int)]).map I) J J J J J J<|aA h fun v3 e2 h=>ba J (cI e2) cR (.cons .p0 .nil) J J<|rM J J<|aY (xs:=([(5:Int),(20:Int),(60:Int)]).map I) J J J J J J<|aA h fun v4 e3 h=>ba J (cI e3) cR (.cons .p0 .nil) J J<|ah.qv (cF J J J J J) J<|bT J J J J fun b5=>aE J J J J .p0 J J<|rN<|tS<|aI<|rM J J<|aA h fun v6 e4 h=>ba J (iy e4) cR (.cons .p1 .nil) J J<|rN<|ae.cut (fun aC=>∃ (l7:List Int) (n8:Int) (n9:Int) (n10:Int) (n11:Int),mM l7 n8 n9 n10 n11=some r∧aC=⟨24,[(2,.ptr b1 0),(3,.ptr b5 0)],[(aM,.cells [gQ l7,I n8]),(b1,.cells [I (0:Int),I (0:Int),I (0:Int)]),(b5,.cells [I n9,I n10,I n11])]⟩) ?_ ?_
 ·refine cB h J (fun h=>?_) (fun h=>?_)
  ·exact tR<|rM J J<|aA h fun v12 e5 h=>ba J (pn e5) cR (.cons .p0 .nil) J J<|rM J J<|aA h fun gb e6 h=>ba J (pn e6) cR (.cons .p0 .nil) J J<|rM J J<|aA h fun gh e7 h=>ba J (pn e7) cR (.cons .p0 .nil) J J<|ah.qv (cF J J J J J) J<|aE J J J J .p1 J J<|rN<|ae.stop<|aj.lq [0,1,0] ⟨gh.2.L,gh.2.at_,v12.1,gb.1,gh.1,h,J⟩ J J
  ·exact tK<|ae.stop<|aj.lq [0,1,0] ⟨v6.2.L,v6.2.at_,v2.1,v3.1,v4.1,h,J⟩ J J
 ·rintro aC ⟨l7,n8,n9,n10,n11,h,rfl⟩
  unfold mM at h
  refine aI<|ah.qv (aL J J .p2 J) J<|aE J J J J .p1 J J<|rN<|ae.ret<|?_
  cases h
  exact aj.here ⟨_,.cons (.all _ _ _ _ _ _ J .p1 aD.h aX.h J J) .nil,_,.cons .p0 .nil,⟨J,J⟩⟩
theorem Bq [GI:bA] {aM:Bk} {aa:ak} {r:bd×ak} (h:o6 aa=some r):aG Tryz.prog 50 [.ptr aM 0] [(aM,.cells [gQ aa.L,I aa.at_])] (T0 ([(aM,.cells [gQ r.2.L,I r.2.at_])]) (bd.av r.1)):=by
 unfold o6 at h
 refine aG.dD ?_
 refine aG.bw Tryz.func50 J Tryz.ntmps50 Tryz.results50 J J ?_
 refine aI<|bT J J J J fun b1=>rN<|aI<|rM J J<|aA h fun v2 e1 h=>G2 J (wV e1) cR (.cons .p1 .nil) (fun _ _=>J) J fun b3 b4=>bT J J J J fun b5=>aE J J J J .p0 J J<|rN<|tS<|aI<|rM J J<|aA h fun v6 e2 h=>ba J (iy e2) cR (.cons .p1 .nil) J J<|rN<|ae.cut (fun aC=>∃ (wX:Bk) (ux:Bk) (l7:List Int) (n8:Int) (n9:Int) (n10:Int) (n11:Int) (uw:List cP) (oh:List bC),mb l7 n8 n9 n10 n11 uw oh=some r∧aC=⟨41,[(2,.ptr b1 0),(3,.ptr b5 0)],[(aM,.cells [gQ l7,I n8]),(b1,.cells [I (0:Int),I (0:Int),I (0:Int),.nil,.nil]),(b5,.cells [I n9,I n10,I n11,.sl 2 wX 0 uw.length,.sl 3 ux 0 oh.length]),(wX,H8 uw),(ux,Mh oh)]⟩) ?_ ?_
 ·refine cB h J (fun h=>?_) (fun h=>?_)
  ·refine aI<|rM J J<|aA h fun kS e3 h=>ba J (iw e3) cR (.cons .p0 .nil) J J<|rN<|ae.block<|aI<|ah.qv (cH J J) J<|rA J J<|rN<|ae.cut (fun aC=>∃ (Eg:Bk) (BX:Bk) (Bm:List Int) (n18:Int) (n19:Int) (n20:Int) (n21:Int) (vh:List cP) (wT:List bC),mc Bm n18 n19 n20 n21 vh wT=some r∧aC=⟨41,[(2,.ptr b1 0),(3,.ptr b5 0)],[(aM,.cells [gQ Bm,I n18]),(b1,.cells [I (0:Int),I (0:Int),I (0:Int),.nil,.nil]),(b5,.cells [I n19,I n20,I n21,.sl 2 Eg 0 vh.length,.sl 3 BX 0 wT.length]),(Eg,H8 vh),(BX,Mh wT)]⟩) ?_ ?_
   ·refine cD h J (fun h=>?_) (fun h=>?_)
    ·exact tR<|rM J J<|aA h fun v26 e4 h=>ba J (Cd e4) cR (.cons .p0 .nil) J J<|rF J J J<|aE J J J J .p1 J J<|rN<|ae.stop<|aj.lq [0,3,0,0,0] ⟨b3,b4,v26.2.L,v26.2.at_,v26.1.kM,v26.1.ao,v26.1.Calm,v2.1.Links,v2.1.aW,h,J⟩ J J
    ·refine aI<|ah.qv (cH J J) J<|rA J J<|rN<|ae.cut (fun aC=>∃ (Mm:Bk) (Qx:Bk) (w8:List Int) (n28:Int) (Ov:List cP) (H5:List bC),me v2 w8 n28 Ov H5=some r∧aC=⟨41,[(2,.ptr b1 0),(3,.ptr b5 0)],[(aM,.cells [gQ w8,I n28]),(b1,.cells [I (0:Int),I (0:Int),I (0:Int),.nil,.nil]),(b5,.cells [I v2.1.bW.kM,I v2.1.bW.ao,I v2.1.bW.Calm,.sl 2 Mm 0 Ov.length,.sl 3 Qx 0 H5.length]),(Mm,H8 Ov),(Qx,Mh H5)]⟩) ?_ ?_
     ·refine cD h J (fun h=>?_) (fun h=>?_)
      ·refine aA h fun v33 e5 h=>aA h fun oH e6 h=>ae.fK (id:=8) (A:=[0,1,0,0,12,0,0,124,252,508,1023,2047,4095]) (H0:=[(aM,.cells [gQ kS.2.L,I kS.2.at_])]) (HH:=fun β=>[(aM,.cells [gQ oH.2.L,I oH.2.at_]),(b5,.cells (X9 v2.1 b3 b4)),(b3,H8 v2.1.Links),(b4,Mh v2.1.aW),(b1,.cells [I (0:Int),I (0:Int),I (0:Int),.nil,.nil])]) 10 mixed J (by kernel_rfl) (by kernel_rfl) [⟨none,some 4,[],fun _=>(aM,.cells [gQ kS.2.L,I kS.2.at_]),none,[]⟩,⟨some 4,some 7,[],fun _=>(aM,.cells [gQ v33.2.L,I v33.2.at_]),none,[]⟩,⟨some 7,none,[],fun _=>(aM,.cells [gQ oH.2.L,I oH.2.at_]),none,[]⟩] [] J (by kernel_rfl) J (.cons .p0 .nil) (fun _=>J)<|AT.am 4 J J<|AM.qv (au J J) J<|AM.qv (aB J J .p0 J) J<|AM.qv (ax J) J<|AM.bU (xs:=([([100,104]:aS),([100,105]:aS),([]:aS),([100,97]:aS)]).map AV.str) J J J J J J<|AM.nil<|AT.A2 (av:=.str v33.1) (Ti:=[(aM,.cells [gQ kS.2.L,I kS.2.at_])]) (Pi:=[(aM,.cells [gQ v33.2.L,I v33.2.at_])]) (fun _=>J) (fun _=>J) (fun _=>J) J J J ?_ ?_
       ·exact ba J (iz e5) cR (.cons .p0 .nil) J J<|ah.nil ⟨_,J,J⟩
       refine AT.am 2 J J<|AM.qv (ax J) J<|AM.bU (xs:=([([100,97]:aS),([100,103]:aS),([65]:aS),([100,105]:aS)]).map AV.str) J J J J J J<|AM.nil<|AT.A2 (av:=.str oH.1) (Ti:=[(aM,.cells [gQ v33.2.L,I v33.2.at_])]) (Pi:=[(aM,.cells [gQ oH.2.L,I oH.2.at_])]) (fun _=>J) (fun _=>J) (fun _=>J) J J J ?_ ?_
       ·exact ba J (iz e6) cR (.cons .p0 .nil) J J<|ah.nil ⟨_,J,J⟩
       exact AT.am 2 J J<|AM.qv (cF J J J J J) J<|AM.bU (xs:=([(⟨v33.1,oH.1⟩:cP)]).map cP.av) J J J J J J<|AM.nil<|AT.qS (fun _=>J) fun β=>aA h fun zd e7 h=>dq (g:=cP.av) J J J J J J J J (.list _) e7 (fun _=>.p2) J fun tM=>rF J J J<|aE J J J J .p1 J J<|rN<|ae.stop<|aj.lq [0,3,0,0,0] ⟨tM,b4,oH.2.L,oH.2.at_,zd,v2.1.aW,h,J⟩ J J
      ·refine aA h fun v37 e8 h=>aA h fun Ah e9 h=>ae.fK (id:=4) (A:=[0,1,0,0,12,0,60,124,252,511,1023,2047]) (H0:=[(aM,.cells [gQ kS.2.L,I kS.2.at_])]) (HH:=fun β=>[(aM,.cells [gQ Ah.2.L,I Ah.2.at_]),(b5,.cells (X9 v2.1 b3 b4)),(b3,H8 v2.1.Links),(b4,Mh v2.1.aW),(b1,.cells [I (0:Int),I (0:Int),I (0:Int),.nil,.nil])]) 9 mixed J (by kernel_rfl) (by kernel_rfl) [⟨none,some 4,[],fun _=>(aM,.cells [gQ kS.2.L,I kS.2.at_]),none,[]⟩,⟨some 4,some 6,[],fun _=>(aM,.cells [gQ v37.2.L,I v37.2.at_]),none,[]⟩,⟨some 6,none,[],fun _=>(aM,.cells [gQ Ah.2.L,I Ah.2.at_]),none,[]⟩] [] J (by kernel_rfl) J (.cons .p0 .nil) (fun _=>J)<|AT.am 4 J J<|AM.qv (au J J) J<|AM.qv (aB J J .p0 J) J<|AM.qv (ax J) J<|AM.bU (xs:=([([]:aS),([114,97]:aS),([114,122]:aS)]).map AV.str) J J J J J J<|AM.nil<|AT.A2 (av:=.str v37.1) (Ti:=[(aM,.cells [gQ kS.2.L,I kS.2.at_])]) (Pi:=[(aM,.cells [gQ v37.2.L,I v37.2.at_])]) (fun _=>J) (fun _=>J) (fun _=>J) J J J ?_ ?_
       ·exact ba J (iz e8) cR (.cons .p0 .nil) J J<|ah.nil ⟨_,J,J⟩
       refine AT.am 1 J J<|AM.qv (ax J) J<|AM.nil<|AT.A2 (av:=I Ah.1) (Ti:=[(aM,.cells [gQ v37.2.L,I v37.2.at_])]) (Pi:=[(aM,.cells [gQ Ah.2.L,I Ah.2.at_])]) (fun _=>J) (fun _=>J) (fun _=>J) J J J ?_ ?_
       ·exact ba J (pn e9) cR (.cons .p0 .nil) J J<|ah.nil ⟨_,J,J⟩
       exact AT.am 2 J J<|AM.qv (cF J J J J J) J<|AM.bU (xs:=([(⟨v37.1,Ah.1,false⟩:bC)]).map bC.av) J J J J J J<|AM.nil<|AT.qS (fun _=>J) fun β=>aA h fun B8 yl h=>dq (g:=bC.av) J J J J J J J J (.list _) yl (fun _=>.p3) J fun Ty=>rF J J J<|aE J J J J .p1 J J<|rN<|ae.stop<|aj.lq [0,3,0,0,0] ⟨b3,Ty,Ah.2.L,Ah.2.at_,v2.1.Links,B8,h,J⟩ J J
     ·rintro aC ⟨Mm,Qx,w8,n28,Ov,H5,h,rfl⟩
      unfold me at h
      exact ae.stop<|aj.lq [0,0,0,0,0] ⟨Mm,Qx,w8,n28,v2.1.bW.kM,v2.1.bW.ao,v2.1.bW.Calm,Ov,H5,h,J⟩ J J
   ·rintro aC ⟨Eg,BX,Bm,n18,n19,n20,n21,vh,wT,h,rfl⟩
    unfold mc at h
    exact ae.cd<|ae.stop<|aj.lq [0,0,0,0,0] ⟨Eg,BX,Bm,n18,n19,n20,n21,vh,wT,h,J⟩ J J
  ·exact tK<|ae.stop<|aj.lq [0,3,0,0,0] ⟨b3,b4,v6.2.L,v6.2.at_,v2.1.bW.kM,v2.1.bW.ao,v2.1.bW.Calm,v2.1.Links,v2.1.aW,h,J⟩ J J
 ·rintro aC ⟨wX,ux,l7,n8,n9,n10,n11,uw,oh,h,rfl⟩
  unfold mb at h
  refine aI<|ah.qv (aL J J .p2 J) J<|aE J J J J .p1 J J<|rN<|ae.ret<|?_
  cases h
  exact aj.freeze .p3<|aj.Nj (j:=3) .p1 J (Co.PU .p3) J J<|aj.freeze .p4<|aj.Nj (j:=4) .p1 J (Co.PU .p4) J J<|aj.here ⟨_,.cons (.all _ _ _ _ _ _ J .p1 aD.h aX.h J J) .nil,_,.cons .p0 .nil,⟨J,J⟩⟩
theorem u9 [GI:bA] {aa:Int} {r:Bool} (h:cmp_isNaN_int aa=r):Pu Tryz.prog 148 [I aa] (.bool r):=by
 unfold cmp_isNaN_int at h
 refine aG.bw Tryz.func148 J Tryz.ntmps148 Tryz.results148 J J ?_
 refine aI<|rA J J<|rN<|aI<|rM J J<|rM J J<|ah.qv (jH J J) J<|rA J J<|rN<|ae.ret<|?_
 obtain rfl:=h
 exact hP J J
theorem fF [GI:bA] {aa:Int} {ai:Int} {r:Int} (h:cmp_Compare_int aa ai=r):Pu Tryz.prog 86 [I aa,I ai] (I r):=by
 unfold cmp_Compare_int at h
 refine aG.bw Tryz.func86 J Tryz.ntmps86 Tryz.results86 J J ?_
 refine aI<|rA J J<|rN<|aI<|rM J J<|bc J (u9 J) cR J<|rA J J<|rN<|aI<|rM J J<|bc J (u9 J) cR J<|rA J J<|rN<|tS<|aI<|rM J J<|rN<|cB h J (fun h=>?_) (fun h=>?_)
 ·refine tS<|aI<|rM J J<|rN<|cB h J (fun h=>?_) (fun h=>?_)
  ·refine aI<|rA J J<|rN<|ae.ret<|?_
   obtain rfl:=h
   exact hP J J
  ·refine tK<|aI<|rA J J<|rN<|ae.ret<|?_
   obtain rfl:=h
   exact hP J J
 ·refine tK<|tS<|aI<|rM J J<|rN<|cB h J (fun h=>?_) (fun h=>?_)
  ·refine aI<|rA J J<|rN<|ae.ret<|?_
   obtain rfl:=h
   exact hP J J
  ·refine tK<|tS<|aI<|rM J J<|rM J J<|ah.qv (bB J J) J<|rN<|cD h J (fun h=>?_) (fun h=>?_)
   ·refine aI<|rA J J<|rN<|ae.ret<|?_
    obtain rfl:=h
    exact hP J J
   ·refine tK<|tS<|aI<|rM J J<|rM J J<|ah.qv (gR J J) J<|rN<|cD h J (fun h=>?_) (fun h=>?_)
    ·refine aI<|rA J J<|rN<|ae.ret<|?_
     obtain rfl:=h
     exact hP J J
    ·refine tK<|aI<|rA J J<|rN<|ae.ret<|?_
     obtain rfl:=h
     exact hP J J
theorem nx [GI:bA] {aa:List Int} {r:Int} (h:gj aa=some r):Pu Tryz.prog 84 [gQ aa] (I r):=by
 unfold gj at h
 refine aG.bw Tryz.func84 J Tryz.ntmps84 Tryz.results84 J J ?_
 refine aI<|rA J J<|rN<|aI<|rA J J<|rN<|tS<|aI<|rM J J<|ah.qv (ey J) J<|rM J J<|rN<|ae.block<|ae.bS (fun x:Int=>qa aa x) (fun x aC=>aC=⟨18,[(3,I (0:Int)),(6,gQ aa),(7,I (aa.length:Int)),(8,I x)],[]⟩) h ?_ ?_
 ·exact aj.lq [] J J J
 ·intro n2 z1 aC J1 dL h jF fP
  obtain rfl:=dL
  replace h:qa aa n2=some z1:=h
  unfold qa at h
  refine aI<|ah.qv (bB J J) J<|rN<|tS<|cD h J (fun h=>?_) (fun h=>?_)
  ·refine tK<|tS<|ae.block<|aI<|aA h fun v3 e1 h=>ah.qv (bO J J J e1 J J) J<|ah.qv (aU J J J) J<|rA J J<|rN<|aI<|rM J J<|rM J J<|ah.qv (jH J J) J<|rN<|cD h J (fun h=>?_) (fun h=>?_)
   ·refine aI<|rM J J<|rA J J<|rN<|ae.ret<|have h:=bP h fP;?_
    cases h
    exact hP J J
   ·refine tK<|ae.cd<|tR<|ah.qv (aV J J) J<|rM J J<|rN<|ae.stop<|?_
    cases h
    exact jF _ _ J<|aj.lq [] J J J
  ·refine ae.exit J<|have h:=bP h fP;aI<|rM J J<|rA J J<|rN<|ae.ret<|?_
   cases h
   exact hP J J
theorem qV [GI:bA] {aa:Signal} {ai:Signal} {r:Int} (h:jm aa ai=some r):Pu Tryz.prog 71 [Signal.av aa,Signal.av ai] (I r):=by
 unfold jm at h
 refine aG.bw Tryz.func71 J Tryz.ntmps71 Tryz.results71 J J ?_
 refine aI<|dC J J J J fun b1=>dC J J J J fun b2=>rA J J<|rN<|tS<|ae.bV (id:=1) (A:=[0,1,0,4,15,0,32,0,128,511,0,1024,0,4096,16383,0,32768,0,131072,524287,1048575,2097151,4194303]) 23 mixed J (by kernel_rfl) (by kernel_rfl)<|AM.qv (au J J) J<|AM.qv (aB J J .p1 J) J<|AM.qv (au J J) J<|AM.qv (aB J J .p0 J) J<|AM.jR J (fF J) cR J<|AM.qv (au J J) J<|AM.qv (aB J J .p1 J) J<|AM.qv (au J J) J<|AM.qv (aB J J .p0 J) J<|AM.jR J (df J) cR J<|AM.qv (au J J) J<|AM.qv (aB J J .p1 J) J<|AM.qv (au J J) J<|AM.qv (aB J J .p0 J) J<|AM.jR J (df J) cR J<|AM.qv (au J J) J<|AM.qv (aB J J .p1 J) J<|AM.qv (au J J) J<|AM.qv (aB J J .p0 J) J<|AM.jR J (fF J) cR J<|AM.bU (xs:=([(cmp_Compare_int aa.At ai.At),(Lib.compareBytes aa.Device ai.Device),(Lib.compareBytes aa.aZ ai.aZ),(cmp_Compare_int aa.Kind ai.Kind)]:List Int).map I) J J J J J J<|aA h fun v3 e1 h=>AM.jR J (nx e1) cR J<|AM.qv (c0 J) J<|AM.nil<|rN<|ae.ret<|?_
 cases h
 exact hP J J
theorem je [GI:bA] {aM:Bk} {aa:List Signal} {ai:Int} {aq:Int} {ml:Signal→Signal→Option Int} {ue:FuncId} [bq Tryz.prog ue] {vN:List AV} (J6:∀ {y0 y1:_} {u:Int},ml y0 y1=some u→Pu Tryz.prog ue (Signal.av y0 :: Signal.av y1 :: vN) (I u)) {r:(List Signal)} (h:ct aa ai aq ml=some r):aG Tryz.prog 184 [.sl 6 aM 0 aa.length,I ai,I aq,.func (.func ue) vN] [(aM,fS aa)] (T0 ([(aM,fS r)]) (.nI [])):=by
 unfold ct at h
 refine aG.dD ?_
 refine aG.bw Tryz.func184 J Tryz.ntmps184 Tryz.results184 J J ?_
 refine aI<|rM J J<|ah.qv (aV J J) J<|rA J J<|rN<|ae.block<|ae.bS (fun x:(List Signal)×Int=>cM ai aq ml x.1 x.2) (fun x aC=>aC=⟨53,[(0,.sl 6 aM 0 x.1.length),(1,I ai),(2,I aq),(3,.func (.func ue) vN),(8,I x.2)],[(aM,fS x.1)]⟩) h ?_ ?_
 ·exact aj.lq [0] J J J
 ·intro x z1 aC J1 dL h jF fP
  obtain ⟨l3,n4⟩:=x
  obtain rfl:=dL
  replace h:cM ai aq ml l3 n4=some z1:=h
  unfold cM at h
  refine tS<|aI<|rM J J<|rM J J<|ah.qv (bB J J) J<|rN<|cD h J (fun h=>?_) (fun h=>?_)
  ·refine tK<|tS<|ae.block<|aI<|rM J J<|rA J J<|rN<|ae.block<|ae.bS (fun x:(List Signal)×Int=>cL ai ml n4 x.1 x.2) (fun x aC=>aC=⟨53,[(0,.sl 6 aM 0 x.1.length),(1,I ai),(2,I aq),(3,.func (.func ue) vN),(8,I n4),(9,I x.2)],[(aM,fS x.1)]⟩) h ?_ ?_
   ·exact aj.lq [0] J J J
   ·intro x z2 aC J2 dL h xC wW
    obtain ⟨l7,n8⟩:=x
    obtain rfl:=dL
    replace h:cL ai ml n4 l7 n8=some z2:=h
    unfold cL at h
    refine tS<|tS<|ae.cut (fun aC=>∃ (c9:Bool),cK n4 l7 n8 c9=some z2∧aC=⟨53,[(0,.sl 6 aM 0 l7.length),(1,I ai),(2,I aq),(3,.func (.func ue) vN),(8,I n4),(9,I n8),(34,.bool c9)],[(aM,fS l7)]⟩) ?_ ?_
    ·refine ae.bV (id:=4) (A:=[0,0,3,7,15,15,15,111,239,15,15,1039,3599,7695,16383,32767,65535]) 17 mixed J (by kernel_rfl) (by kernel_rfl)<|AM.qv (ax J) J<|AM.qv (ax J) J<|AM.qv (gR J J) J<|AM.qv (ax J) J<|AM.bJ J J J (fun hc=>?_) (fun hc=>?_)
     ·exact have h:=rO hc h;AM.qv (ax J) J<|AM.aF J J J<|AM.qv (ax J) J<|AM.aF J J J<|AM.qv (ax J) J<|AM.aF J J J<|aA h fun v10 e1 h=>AM.qv (aP J J J e1) J<|AM.aF J J J<|AM.qv (aR (g:=Signal.av) J J (.inl .p0) J e1 J) J<|AM.aF J J J<|AM.qv (ax J) J<|AM.aF J J J<|AM.qv (ax J) J<|AM.aF J J J<|AM.qv (bF J J) J<|AM.aF J J J<|aA h fun v11 e2 h=>AM.qv (aP J J J e2) J<|AM.aF J J J<|AM.qv (aR (g:=Signal.av) J J (.inl .p0) J e2 J) J<|AM.aF J J J<|aA h fun v12 e3 h=>AM.tD J J (J6 e3) cR J<|AM.aF J J J<|AM.qv (bB J J) J<|AM.qv (jv J J) J<|AM.nil<|rN<|ae.stop<|aj.lq [0] ⟨decide (v12 < (0:Int)),h,J⟩ J J
     ·exact have h:=yU hc h;AM.aJ J J J J<|AM.aJ J J J J<|AM.aJ J J J J<|AM.aJ J J J J<|AM.aJ J J J J<|AM.aJ J J J J<|AM.aJ J J J J<|AM.aJ J J J J<|AM.aJ J J J J<|AM.aJ J J J J<|AM.aJ J J J J<|AM.qv (iX J J) J<|AM.nil<|rN<|ae.stop<|aj.lq [0] ⟨false,h,J⟩ J J
    ·rintro aC ⟨c9,h,rfl⟩
     unfold cK at h
     refine cB h J (fun h=>?_) (fun h=>?_)
     ·refine tK<|tS<|ae.block<|aA h fun gb e4 h=>aA h fun gh e5 h=>aA h fun rS e6 h=>ae.fK (id:=6) (A:=[0,0,0,0,8,0,0,64,224,480,0,0,3072,7168,16355,32739,65535,131071]) (H0:=[(aM,fS l7)]) (HH:=fun β=>[(aM,fS (l7.set n8.toNat gb))]) 16 mixed J (by kernel_rfl) (by kernel_rfl) [⟨none,some 15,[9,13],fun _=>(aM,fS l7),none,[]⟩,⟨some 15,none,[],fun _=>(aM,fS (l7.set n8.toNat gb)),none,[]⟩] [] J (by kernel_rfl) J (.cons .p0 .nil) (fun _=>J)<|AT.am 9 J J<|AM.qv (ax J) J<|AM.qv (ax J) J<|AM.qv (ax J) J<|AM.qv (ax J) J<|AM.qv (bF J J) J<|AM.qv (ax J) J<|AM.qv (ax J) J<|AM.qv (bF J J) J<|AM.qv (aP J J J e4) J<|AM.nil<|AT.rd (Rs:=[(aM,fS l7)]) (fun _=>J) J (fun _=>J) (fun _=>J) (aR (g:=Signal.av) J J (.inl .p0) J e4 J) J<|AT.am 3 J J<|AM.qv (ax J) J<|AM.qv (ax J) J<|AM.qv (aP J J J e5) J<|AM.nil<|AT.rd (Rs:=[(aM,fS l7)]) (fun _=>J) J (fun _=>J) (fun _=>J) (aR (g:=Signal.av) J J (.inl .p0) J e5 J) J<|AT.am 1 J J<|AM.qv (aP J J J e6) J<|AM.nil<|AT.yY (Ti:=[(aM,fS l7)]) (Pi:=[(aM,fS (l7.set n8.toNat gb))]) (fun _=>J) (fun _=>J) (fun _=>J) J J ?_ ?_
      ·exact br (g:=Signal.av) (uB:=gb) J J J J e6 J .p0 J<|ah.nil ⟨_,J⟩
      refine AT.qS (fun _=>J) fun β=>ah.ghost<|aj.eqs (s:=0) (bZ:=.sl 6 aM 0 (l7.set n8.toNat gb).length) J (by simp)<|aj.here<|ah.ghost<|aj.eqs (s:=37) (bZ:=.sl 6 aM 0 (l7.set n8.toNat gb).length) J (by simp)<|aj.here<|ah.ghost<|aj.eqs (s:=39) (bZ:=.sl 6 aM 0 (l7.set n8.toNat gb).length) J (by simp)<|aj.here<|ah.ghost<|aj.eqs (s:=42) (bZ:=.sl 6 aM 0 (l7.set n8.toNat gb).length) J (by simp)<|aj.here<|ah.ghost<|aj.eqs (s:=47) (bZ:=.sl 6 aM 0 (l7.set n8.toNat gb).length) J (by simp)<|aj.here<|aA h fun kS e7 h=>ah.qv (aP J J J e7) J<|br (g:=Signal.av) (uB:=gh) J J J J e7 J .p0 J<|ah.ghost<|aj.eqs (s:=0) (bZ:=.sl 6 aM 0 ((l7.set n8.toNat gb).set (aN (n8 - (1:Int))).toNat gh).length) J (by rw [List.length_set])<|aj.here<|ah.ghost<|aj.eqs (s:=37) (bZ:=.sl 6 aM 0 ((l7.set n8.toNat gb).set (aN (n8 - (1:Int))).toNat gh).length) J (by rw [List.length_set])<|aj.here<|ah.ghost<|aj.eqs (s:=39) (bZ:=.sl 6 aM 0 ((l7.set n8.toNat gb).set (aN (n8 - (1:Int))).toNat gh).length) J (by rw [List.length_set])<|aj.here<|ah.ghost<|aj.eqs (s:=42) (bZ:=.sl 6 aM 0 ((l7.set n8.toNat gb).set (aN (n8 - (1:Int))).toNat gh).length) J (by rw [List.length_set])<|aj.here<|ah.ghost<|aj.eqs (s:=47) (bZ:=.sl 6 aM 0 ((l7.set n8.toNat gb).set (aN (n8 - (1:Int))).toNat gh).length) J (by rw [List.length_set])<|aj.here<|rN<|ae.cd<|tR<|rM J J<|ah.qv (bF J J) J<|rA J J<|rN<|ae.stop<|?_
      cases h
      exact xC _ _ J<|aj.lq [0] J J J
     ·refine ae.exit J<|have h:=bP h wW;ae.cd<|tR<|rM J J<|ah.qv (aV J J) J<|rA J J<|rN<|ae.stop<|?_
      cases h
      exact jF _ _ J<|aj.lq [0] J J J
  ·refine ae.exit J<|have h:=bP h fP;ae.nil<|?_
   cases h
   exact aj.here ⟨_,.nil,_,.cons .p0 .nil,⟨J,J⟩⟩
theorem gA [GI:bA] {aM:Bk} {aa:List Signal} {ai:Int} {aq:Int} {aT:Int} {dt:Signal→Signal→Option Int} {bM:FuncId} [bq Tryz.prog bM] {ch:List AV} (gV:∀ {y0 y1:_} {u:Int},dt y0 y1=some u→Pu Tryz.prog bM (Signal.av y0 :: Signal.av y1 :: ch) (I u)) {r:(List Signal)} (h:da aa ai aq aT dt=some r):aG Tryz.prog 275 [.sl 6 aM 0 aa.length,I ai,I aq,I aT,.func (.func bM) ch] [(aM,fS aa)] (T0 ([(aM,fS r)]) (.nI [])):=by
 unfold da at h
 refine aG.dD ?_
 refine aG.bw Tryz.func275 J Tryz.ntmps275 Tryz.results275 J J ?_
 refine aI<|rA J J<|rN<|ae.block<|ae.bS (fun x:(List Signal)×Int=>dE ai aq aT x.1 x.2) (fun x aC=>aC=⟨38,[(0,.sl 6 aM 0 x.1.length),(1,I ai),(2,I aq),(3,I aT),(10,I x.2)],[(aM,fS x.1)]⟩) h ?_ ?_
 ·exact aj.lq [0] J J J
 ·intro x z1 aC J1 dL h jF fP
  obtain ⟨l3,n4⟩:=x
  obtain rfl:=dL
  replace h:dE ai aq aT l3 n4=some z1:=h
  unfold dE at h
  refine tS<|aI<|rM J J<|rM J J<|ah.qv (bB J J) J<|rN<|cD h J (fun h=>?_) (fun h=>?_)
  ·refine tK<|tS<|ae.block<|aA h fun v5 e1 h=>aA h fun v6 e2 h=>aA h fun v7 e3 h=>ae.fK (id:=3) (A:=[0,0,0,6,0,0,0,96,0,0,0,1536,3840,7936,0,0,0,98304,245760,507904,1048335,2096911,4194303,8388607]) (H0:=[(aM,fS l3)]) (HH:=fun β=>[(aM,fS (l3.set (aN (ai+n4)).toNat v5))]) 22 mixed J (by kernel_rfl) (by kernel_rfl) [⟨none,some 21,[13,19],fun _=>(aM,fS l3),none,[]⟩,⟨some 21,none,[],fun _=>(aM,fS (l3.set (aN (ai+n4)).toNat v5)),none,[]⟩] [] J (by kernel_rfl) J (.cons .p0 .nil) (fun _=>J)<|AT.am 13 J J<|AM.qv (ax J) J<|AM.qv (ax J) J<|AM.qv (ax J) J<|AM.qv (aV J J) J<|AM.qv (ax J) J<|AM.qv (ax J) J<|AM.qv (ax J) J<|AM.qv (aV J J) J<|AM.qv (ax J) J<|AM.qv (ax J) J<|AM.qv (ax J) J<|AM.qv (aV J J) J<|AM.qv (aP J J J e1) J<|AM.nil<|AT.rd (Rs:=[(aM,fS l3)]) (fun _=>J) J (fun _=>J) (fun _=>J) (aR (g:=Signal.av) J J (.inl .p0) J e1 J) J<|AT.am 5 J J<|AM.qv (ax J) J<|AM.qv (ax J) J<|AM.qv (ax J) J<|AM.qv (aV J J) J<|AM.qv (aP J J J e2) J<|AM.nil<|AT.rd (Rs:=[(aM,fS l3)]) (fun _=>J) J (fun _=>J) (fun _=>J) (aR (g:=Signal.av) J J (.inl .p0) J e2 J) J<|AT.am 1 J J<|AM.qv (aP J J J e3) J<|AM.nil<|AT.yY (Ti:=[(aM,fS l3)]) (Pi:=[(aM,fS (l3.set (aN (ai+n4)).toNat v5))]) (fun _=>J) (fun _=>J) (fun _=>J) J J ?_ ?_
   ·exact br (g:=Signal.av) (uB:=v5) J J J J e3 J .p0 J<|ah.nil ⟨_,J⟩
   refine AT.qS (fun _=>J) fun β=>ah.ghost<|aj.eqs (s:=0) (bZ:=.sl 6 aM 0 (l3.set (aN (ai+n4)).toNat v5).length) J (by simp)<|aj.here<|ah.ghost<|aj.eqs (s:=16) (bZ:=.sl 6 aM 0 (l3.set (aN (ai+n4)).toNat v5).length) J (by simp)<|aj.here<|ah.ghost<|aj.eqs (s:=20) (bZ:=.sl 6 aM 0 (l3.set (aN (ai+n4)).toNat v5).length) J (by simp)<|aj.here<|ah.ghost<|aj.eqs (s:=24) (bZ:=.sl 6 aM 0 (l3.set (aN (ai+n4)).toNat v5).length) J (by simp)<|aj.here<|ah.ghost<|aj.eqs (s:=30) (bZ:=.sl 6 aM 0 (l3.set (aN (ai+n4)).toNat v5).length) J (by simp)<|aj.here<|aA h fun v8 e4 h=>ah.qv (aP J J J e4) J<|br (g:=Signal.av) (uB:=v6) J J J J e4 J .p0 J<|ah.ghost<|aj.eqs (s:=0) (bZ:=.sl 6 aM 0 ((l3.set (aN (ai+n4)).toNat v5).set (aN (aq+n4)).toNat v6).length) J (by rw [List.length_set])<|aj.here<|ah.ghost<|aj.eqs (s:=16) (bZ:=.sl 6 aM 0 ((l3.set (aN (ai+n4)).toNat v5).set (aN (aq+n4)).toNat v6).length) J (by rw [List.length_set])<|aj.here<|ah.ghost<|aj.eqs (s:=20) (bZ:=.sl 6 aM 0 ((l3.set (aN (ai+n4)).toNat v5).set (aN (aq+n4)).toNat v6).length) J (by rw [List.length_set])<|aj.here<|ah.ghost<|aj.eqs (s:=24) (bZ:=.sl 6 aM 0 ((l3.set (aN (ai+n4)).toNat v5).set (aN (aq+n4)).toNat v6).length) J (by rw [List.length_set])<|aj.here<|ah.ghost<|aj.eqs (s:=30) (bZ:=.sl 6 aM 0 ((l3.set (aN (ai+n4)).toNat v5).set (aN (aq+n4)).toNat v6).length) J (by rw [List.length_set])<|aj.here<|rN<|ae.cd<|tR<|rM J J<|ah.qv (aV J J) J<|rA J J<|rN<|ae.stop<|?_
   cases h
   exact jF _ _ J<|aj.lq [0] J J J
  ·refine ae.exit J<|have h:=bP h fP;ae.nil<|?_
   cases h
   exact aj.here ⟨_,.nil,_,.cons .p0 .nil,⟨J,J⟩⟩
theorem qI [GI:bA] {aM:Bk} {aa:List Signal} {ai:Int} {aq:Int} {aT:Int} {dt:Signal→Signal→Option Int} {bM:FuncId} [bq Tryz.prog bM] {ch:List AV} (gV:∀ {y0 y1:_} {u:Int},dt y0 y1=some u→Pu Tryz.prog bM (Signal.av y0 :: Signal.av y1 :: ch) (I u)) {r:(List Signal)} (h:ji aa ai aq aT dt=some r):aG Tryz.prog 230 [.sl 6 aM 0 aa.length,I ai,I aq,I aT,.func (.func bM) ch] [(aM,fS aa)] (T0 ([(aM,fS r)]) (.nI [])):=by
 unfold ji at h
 refine aG.dD ?_
 refine aG.bw Tryz.func230 J Tryz.ntmps230 Tryz.results230 J J ?_
 refine aI<|rM J J<|rM J J<|ah.qv (bF J J) J<|rA J J<|rN<|aI<|rM J J<|rM J J<|ah.qv (bF J J) J<|rA J J<|rN<|tS<|ae.block<|ae.bS (fun x:(List Signal)×Int×Int=>fa aq dt x.1 x.2.1 x.2.2) (fun x aC=>aC=⟨58,[(0,.sl 6 aM 0 x.1.length),(2,I aq),(4,.func (.func bM) ch),(10,I x.2.1),(11,I x.2.2)],[(aM,fS x.1)]⟩) h ?_ ?_
 ·exact aj.lq [0] J J J
 ·intro x z1 aC J1 dL h jF fP
  obtain ⟨l4,n5,n6⟩:=x
  obtain rfl:=dL
  replace h:fa aq dt l4 n5 n6=some z1:=h
  unfold fa at h
  refine tS<|aI<|rM J J<|rM J J<|ah.qv (jH J J) J<|rN<|cD h J (fun h=>?_) (fun h=>?_)
  ·refine tK<|ae.block<|aI<|rM J J<|rM J J<|ah.qv (gR J J) J<|rN<|ae.cut (fun aC=>∃ (l7:List Signal) (n8:Int) (n9:Int),eZ l7 n8 n9=some z1∧aC=⟨58,[(0,.sl 6 aM 0 l7.length),(2,I aq),(4,.func (.func bM) ch),(10,I n8),(11,I n9)],[(aM,fS l7)]⟩) ?_ ?_
   ·refine cD h J (fun h=>?_) (fun h=>?_)
    ·exact aI<|rM J J<|rM J J<|rM J J<|ah.qv (bF J J) J<|rM J J<|rM J J<|rM J J<|aA h fun v10 e1 h=>ba J (gA gV (fL e1)) cR (.cons .p0 .nil) J J<|ah.ghost<|aj.eqs (s:=0) (bZ:=.sl 6 aM 0 v10.length) J (congrArg (AV.sl 6 aM 0) (bG e1))<|aj.here<|ah.ghost<|aj.eqs (s:=24) (bZ:=.sl 6 aM 0 v10.length) J (congrArg (AV.sl 6 aM 0) (bG e1))<|aj.here<|rN<|tR<|rM J J<|rM J J<|ah.qv (bF J J) J<|rA J J<|rN<|ae.stop<|aj.lq [0] ⟨v10,aN (n5 - n6),n6,h,J⟩ J J
    ·exact aI<|rM J J<|rM J J<|rM J J<|ah.qv (bF J J) J<|rM J J<|rM J J<|ah.qv (aV J J) J<|rM J J<|ah.qv (bF J J) J<|rM J J<|rM J J<|aA h fun v11 e2 h=>ba J (gA gV (fL e2)) cR (.cons .p0 .nil) J J<|ah.ghost<|aj.eqs (s:=0) (bZ:=.sl 6 aM 0 v11.length) J (congrArg (AV.sl 6 aM 0) (bG e2))<|aj.here<|ah.ghost<|aj.eqs (s:=35) (bZ:=.sl 6 aM 0 v11.length) J (congrArg (AV.sl 6 aM 0) (bG e2))<|aj.here<|rN<|tR<|rM J J<|rM J J<|ah.qv (bF J J) J<|rA J J<|rN<|ae.stop<|aj.lq [0] ⟨v11,n5,aN (n6 - n5),h,J⟩ J J
   ·rintro aC ⟨l7,n8,n9,h,rfl⟩
    unfold eZ at h
    refine ae.cd<|ae.stop<|?_
    cases h
    exact jF _ _ J<|aj.lq [0] J J J
  ·refine ae.exit J<|have h:=bP h fP;?_
   unfold kT at h
   refine tR<|rM J J<|rM J J<|rM J J<|ah.qv (bF J J) J<|rM J J<|rM J J<|rM J J<|aA h fun v12 e3 h=>ba J (gA gV (fL e3)) cR (.cons .p0 .nil) J J<|ah.ghost<|aj.eqs (s:=0) (bZ:=.sl 6 aM 0 v12.length) J (congrArg (AV.sl 6 aM 0) (bG e3))<|aj.here<|ah.ghost<|aj.eqs (s:=50) (bZ:=.sl 6 aM 0 v12.length) J (congrArg (AV.sl 6 aM 0) (bG e3))<|aj.here<|rN<|ae.nil<|?_
   cases h
   exact aj.here ⟨_,.nil,_,.cons .p0 .nil,⟨J,J⟩⟩
theorem oA [GI:bA] {aM:Bk} {self:(List Signal)→Int→Int→Int→(Signal→Signal→Option Int)→Option (List Signal)} (Br:∀ {aM:Bk} {aa:List Signal} {ai:Int} {aq:Int} {aT:Int} {dt:Signal→Signal→Option Int} {bM:FuncId} [bq Tryz.prog bM] {ch:List AV} (gV:∀ {y0 y1:_} {u:Int},dt y0 y1=some u→Pu Tryz.prog bM (Signal.av y0 :: Signal.av y1 :: ch) (I u)) {r:(List Signal)},self aa ai aq aT dt=some r→aG Tryz.prog 185 [.sl 6 aM 0 aa.length,I ai,I aq,I aT,.func (.func bM) ch] [(aM,fS aa)] (T0 ([(aM,fS r)]) (.nI []))) {aa:List Signal} {ai:Int} {aq:Int} {aT:Int} {dt:Signal→Signal→Option Int} {bM:FuncId} [bq Tryz.prog bM] {ch:List AV} (gV:∀ {y0 y1:_} {u:Int},dt y0 y1=some u→Pu Tryz.prog bM (Signal.av y0 :: Signal.av y1 :: ch) (I u)) {r:(List Signal)} (h:gp self aa ai aq aT dt=some r):aG Tryz.prog 185 [.sl 6 aM 0 aa.length,I ai,I aq,I aT,.func (.func bM) ch] [(aM,fS aa)] (T0 ([(aM,fS r)]) (.nI [])):=by
 unfold gp at h
 refine aG.dD ?_
 refine aG.bw Tryz.func185 J Tryz.ntmps185 Tryz.results185 J J ?_
 refine tS<|aI<|rM J J<|rM J J<|ah.qv (bF J J) J<|ah.qv (cH J J) J<|rN<|cD h J (fun h=>?_) (fun h=>?_)
 ·refine aI<|rM J J<|rA J J<|rN<|aI<|rM J J<|rA J J<|rN<|tS<|ae.block<|ae.bS (fun x:Int×Int=>dV aa ai dt x.1 x.2) (fun x aC=>aC=⟨220,[(0,.sl 6 aM 0 aa.length),(1,I ai),(4,.func (.func bM) ch),(10,I x.1),(11,I x.2)],[(aM,fS aa)]⟩) h ?_ ?_
  ·exact aj.lq [0] J J J
  ·intro x z1 aC J1 dL h jF fP
   obtain ⟨n3,n4⟩:=x
   obtain rfl:=dL
   replace h:dV aa ai dt n3 n4=some z1:=h
   unfold dV at h
   refine tS<|aI<|rM J J<|rM J J<|ah.qv (bB J J) J<|rN<|cD h J (fun h=>?_) (fun h=>?_)
   ·refine tK<|ae.block<|aI<|rM J J<|rM J J<|ah.qv (aV J J) J<|ah.qv (fj J) J<|ah.qv (zG J J (by decide)) J<|ah.qv (fj J) J<|rA J J<|rN<|tS<|ae.bV (id:=5) (A:=[0,0,0,6,14,0,0,96,224,511,1023]) 11 mixed J (by kernel_rfl) (by kernel_rfl)<|AM.qv (ax J) J<|AM.qv (ax J) J<|AM.qv (ax J) J<|aA h fun v5 e1 h=>AM.qv (aP J J J e1) J<|AM.qv (aR (g:=Signal.av) J J (.inl .p0) J e1 J) J<|AM.qv (ax J) J<|AM.qv (ax J) J<|aA h fun v6 e2 h=>AM.qv (aP J J J e2) J<|AM.qv (aR (g:=Signal.av) J J (.inl .p0) J e2 J) J<|aA h fun v7 e3 h=>AM.tD J J (gV e3) cR J<|AM.qv (bB J J) J<|AM.nil<|rN<|ae.cut (fun aC=>∃ (n8:Int) (n9:Int),dS n8 n9=some z1∧aC=⟨220,[(0,.sl 6 aM 0 aa.length),(1,I ai),(4,.func (.func bM) ch),(10,I n8),(11,I n9)],[(aM,fS aa)]⟩) ?_ ?_
    ·refine cD h J (fun h=>?_) (fun h=>?_)
     ·exact tR<|rM J J<|ah.qv (aV J J) J<|rA J J<|rN<|ae.stop<|aj.lq [0] ⟨aN ((aN (bX .u64 (IntKind.u64.wrap (aN (n3+n4))) (1:Int)))+(1:Int)),n4,h,J⟩ J J
     ·exact tR<|rM J J<|rA J J<|rN<|ae.stop<|aj.lq [0] ⟨n3,aN (bX .u64 (IntKind.u64.wrap (aN (n3+n4))) (1:Int)),h,J⟩ J J
    ·rintro aC ⟨n8,n9,h,rfl⟩
     unfold dS at h
     refine ae.cd<|ae.stop<|?_
     cases h
     exact jF _ _ J<|aj.lq [0] J J J
   ·refine ae.exit J<|have h:=bP h fP;tS<|aI<|rM J J<|rA J J<|rN<|ae.block<|ae.bS (fun x:(List Signal)×Int=>dU n3 x.1 x.2) (fun x aC=>aC=⟨220,[(0,.sl 6 aM 0 x.1.length),(10,I n3),(13,I x.2)],[(aM,fS x.1)]⟩) h ?_ ?_
    ·exact aj.lq [0] J J J
    ·intro x z2 aC J2 dL h xC wW
     obtain ⟨ly,n13⟩:=x
     obtain rfl:=dL
     replace h:dU n3 ly n13=some z2:=h
     unfold dU at h
     refine tS<|aI<|rM J J<|rM J J<|ah.qv (bF J J) J<|ah.qv (bB J J) J<|rN<|cD h J (fun h=>?_) (fun h=>?_)
     ·refine tK<|tS<|ae.block<|aA h fun gh e4 h=>aA h fun rS e5 h=>aA h fun kS e6 h=>ae.fK (id:=11) (A:=[0,0,0,0,8,0,0,64,224,480,0,0,3072,7168,16355,32739,65535,131071]) (H0:=[(aM,fS ly)]) (HH:=fun β=>[(aM,fS (ly.set n13.toNat gh))]) 16 mixed J (by kernel_rfl) (by kernel_rfl) [⟨none,some 15,[9,13],fun _=>(aM,fS ly),none,[]⟩,⟨some 15,none,[],fun _=>(aM,fS (ly.set n13.toNat gh)),none,[]⟩] [] J (by kernel_rfl) J (.cons .p0 .nil) (fun _=>J)<|AT.am 9 J J<|AM.qv (ax J) J<|AM.qv (ax J) J<|AM.qv (ax J) J<|AM.qv (ax J) J<|AM.qv (aV J J) J<|AM.qv (ax J) J<|AM.qv (ax J) J<|AM.qv (aV J J) J<|AM.qv (aP J J J e4) J<|AM.nil<|AT.rd (Rs:=[(aM,fS ly)]) (fun _=>J) J (fun _=>J) (fun _=>J) (aR (g:=Signal.av) J J (.inl .p0) J e4 J) J<|AT.am 3 J J<|AM.qv (ax J) J<|AM.qv (ax J) J<|AM.qv (aP J J J e5) J<|AM.nil<|AT.rd (Rs:=[(aM,fS ly)]) (fun _=>J) J (fun _=>J) (fun _=>J) (aR (g:=Signal.av) J J (.inl .p0) J e5 J) J<|AT.am 1 J J<|AM.qv (aP J J J e6) J<|AM.nil<|AT.yY (Ti:=[(aM,fS ly)]) (Pi:=[(aM,fS (ly.set n13.toNat gh))]) (fun _=>J) (fun _=>J) (fun _=>J) J J ?_ ?_
      ·exact br (g:=Signal.av) (uB:=gh) J J J J e6 J .p0 J<|ah.nil ⟨_,J⟩
      refine AT.qS (fun _=>J) fun β=>ah.ghost<|aj.eqs (s:=0) (bZ:=.sl 6 aM 0 (ly.set n13.toNat gh).length) J (by simp)<|aj.here<|ah.ghost<|aj.eqs (s:=61) (bZ:=.sl 6 aM 0 (ly.set n13.toNat gh).length) J (by simp)<|aj.here<|ah.ghost<|aj.eqs (s:=63) (bZ:=.sl 6 aM 0 (ly.set n13.toNat gh).length) J (by simp)<|aj.here<|ah.ghost<|aj.eqs (s:=66) (bZ:=.sl 6 aM 0 (ly.set n13.toNat gh).length) J (by simp)<|aj.here<|ah.ghost<|aj.eqs (s:=71) (bZ:=.sl 6 aM 0 (ly.set n13.toNat gh).length) J (by simp)<|aj.here<|aA h fun v17 e7 h=>ah.qv (aP J J J e7) J<|br (g:=Signal.av) (uB:=rS) J J J J e7 J .p0 J<|ah.ghost<|aj.eqs (s:=0) (bZ:=.sl 6 aM 0 ((ly.set n13.toNat gh).set (aN (n13+(1:Int))).toNat rS).length) J (by rw [List.length_set])<|aj.here<|ah.ghost<|aj.eqs (s:=61) (bZ:=.sl 6 aM 0 ((ly.set n13.toNat gh).set (aN (n13+(1:Int))).toNat rS).length) J (by rw [List.length_set])<|aj.here<|ah.ghost<|aj.eqs (s:=63) (bZ:=.sl 6 aM 0 ((ly.set n13.toNat gh).set (aN (n13+(1:Int))).toNat rS).length) J (by rw [List.length_set])<|aj.here<|ah.ghost<|aj.eqs (s:=66) (bZ:=.sl 6 aM 0 ((ly.set n13.toNat gh).set (aN (n13+(1:Int))).toNat rS).length) J (by rw [List.length_set])<|aj.here<|ah.ghost<|aj.eqs (s:=71) (bZ:=.sl 6 aM 0 ((ly.set n13.toNat gh).set (aN (n13+(1:Int))).toNat rS).length) J (by rw [List.length_set])<|aj.here<|rN<|ae.cd<|tR<|rM J J<|ah.qv (aV J J) J<|rA J J<|rN<|ae.stop<|?_
      cases h
      exact xC _ _ J<|aj.lq [0] J J J
     ·refine ae.exit J<|have h:=bP h wW;ae.ret<|?_
      cases h
      exact aj.here ⟨_,.nil,_,.cons .p0 .nil,⟨J,J⟩⟩
 ·refine tK<|tS<|aI<|rM J J<|rM J J<|ah.qv (bF J J) J<|ah.qv (cH J J) J<|rN<|cD h J (fun h=>?_) (fun h=>?_)
  ·refine aI<|rM J J<|rA J J<|rN<|aI<|rM J J<|rA J J<|rN<|tS<|ae.block<|ae.bS (fun x:Int×Int=>dY aa aq dt x.1 x.2) (fun x aC=>aC=⟨220,[(0,.sl 6 aM 0 aa.length),(2,I aq),(4,.func (.func bM) ch),(14,I x.1),(15,I x.2)],[(aM,fS aa)]⟩) h ?_ ?_
   ·exact aj.lq [0] J J J
   ·intro x z3 aC J3 dL h H9 DI
    obtain ⟨n20,n21⟩:=x
    obtain rfl:=dL
    replace h:dY aa aq dt n20 n21=some z3:=h
    unfold dY at h
    refine tS<|aI<|rM J J<|rM J J<|ah.qv (bB J J) J<|rN<|cD h J (fun h=>?_) (fun h=>?_)
    ·refine tK<|ae.block<|aI<|rM J J<|rM J J<|ah.qv (aV J J) J<|ah.qv (fj J) J<|ah.qv (zG J J (by decide)) J<|ah.qv (fj J) J<|rA J J<|rN<|tS<|ae.bV (id:=17) (A:=[0,0,0,6,14,0,0,96,224,511,1023,2047]) 12 mixed J (by kernel_rfl) (by kernel_rfl)<|AM.qv (ax J) J<|AM.qv (ax J) J<|AM.qv (ax J) J<|aA h fun v22 e8 h=>AM.qv (aP J J J e8) J<|AM.qv (aR (g:=Signal.av) J J (.inl .p0) J e8 J) J<|AM.qv (ax J) J<|AM.qv (ax J) J<|aA h fun v23 e9 h=>AM.qv (aP J J J e9) J<|AM.qv (aR (g:=Signal.av) J J (.inl .p0) J e9 J) J<|aA h fun v24 yl h=>AM.tD J J (gV yl) cR J<|AM.qv (bB J J) J<|AM.qv (lM J) J<|AM.nil<|rN<|ae.cut (fun aC=>∃ (n25:Int) (n26:Int),dW n25 n26=some z3∧aC=⟨220,[(0,.sl 6 aM 0 aa.length),(2,I aq),(4,.func (.func bM) ch),(14,I n25),(15,I n26)],[(aM,fS aa)]⟩) ?_ ?_
     ·refine cD h J (fun h=>?_) (fun h=>?_)
      ·exact tR<|rM J J<|ah.qv (aV J J) J<|rA J J<|rN<|ae.stop<|aj.lq [0] ⟨aN ((aN (bX .u64 (IntKind.u64.wrap (aN (n20+n21))) (1:Int)))+(1:Int)),n21,h,J⟩ J J
      ·exact tR<|rM J J<|rA J J<|rN<|ae.stop<|aj.lq [0] ⟨n20,aN (bX .u64 (IntKind.u64.wrap (aN (n20+n21))) (1:Int)),h,J⟩ J J
     ·rintro aC ⟨n25,n26,h,rfl⟩
      unfold dW at h
      refine ae.cd<|ae.stop<|?_
      cases h
      exact H9 _ _ J<|aj.lq [0] J J J
    ·refine ae.exit J<|have h:=bP h DI;tS<|aI<|rM J J<|rA J J<|rN<|ae.block<|ae.bS (fun x:(List Signal)×Int=>dX n20 x.1 x.2) (fun x aC=>aC=⟨220,[(0,.sl 6 aM 0 x.1.length),(14,I n20),(17,I x.2)],[(aM,fS x.1)]⟩) h ?_ ?_
     ·exact aj.lq [0] J J J
     ·intro x z4 aC J4 dL h Tz TA
      obtain ⟨oN,n30⟩:=x
      obtain rfl:=dL
      replace h:dX n20 oN n30=some z4:=h
      unfold dX at h
      refine tS<|aI<|rM J J<|rM J J<|ah.qv (gR J J) J<|rN<|cD h J (fun h=>?_) (fun h=>?_)
      ·refine tK<|tS<|ae.block<|aA h fun v31 CX h=>aA h fun v32 Gl h=>aA h fun v33 Gm h=>ae.fK (id:=23) (A:=[0,0,0,0,8,0,0,64,224,480,0,0,3072,7168,16355,32739,65535,131071]) (H0:=[(aM,fS oN)]) (HH:=fun β=>[(aM,fS (oN.set n30.toNat v31))]) 16 mixed J (by kernel_rfl) (by kernel_rfl) [⟨none,some 15,[9,13],fun _=>(aM,fS oN),none,[]⟩,⟨some 15,none,[],fun _=>(aM,fS (oN.set n30.toNat v31)),none,[]⟩] [] J (by kernel_rfl) J (.cons .p0 .nil) (fun _=>J)<|AT.am 9 J J<|AM.qv (ax J) J<|AM.qv (ax J) J<|AM.qv (ax J) J<|AM.qv (ax J) J<|AM.qv (bF J J) J<|AM.qv (ax J) J<|AM.qv (ax J) J<|AM.qv (bF J J) J<|AM.qv (aP J J J CX) J<|AM.nil<|AT.rd (Rs:=[(aM,fS oN)]) (fun _=>J) J (fun _=>J) (fun _=>J) (aR (g:=Signal.av) J J (.inl .p0) J CX J) J<|AT.am 3 J J<|AM.qv (ax J) J<|AM.qv (ax J) J<|AM.qv (aP J J J Gl) J<|AM.nil<|AT.rd (Rs:=[(aM,fS oN)]) (fun _=>J) J (fun _=>J) (fun _=>J) (aR (g:=Signal.av) J J (.inl .p0) J Gl J) J<|AT.am 1 J J<|AM.qv (aP J J J Gm) J<|AM.nil<|AT.yY (Ti:=[(aM,fS oN)]) (Pi:=[(aM,fS (oN.set n30.toNat v31))]) (fun _=>J) (fun _=>J) (fun _=>J) J J ?_ ?_
       ·exact br (g:=Signal.av) (uB:=v31) J J J J Gm J .p0 J<|ah.nil ⟨_,J⟩
       refine AT.qS (fun _=>J) fun β=>ah.ghost<|aj.eqs (s:=0) (bZ:=.sl 6 aM 0 (oN.set n30.toNat v31).length) J (by simp)<|aj.here<|ah.ghost<|aj.eqs (s:=113) (bZ:=.sl 6 aM 0 (oN.set n30.toNat v31).length) J (by simp)<|aj.here<|ah.ghost<|aj.eqs (s:=115) (bZ:=.sl 6 aM 0 (oN.set n30.toNat v31).length) J (by simp)<|aj.here<|ah.ghost<|aj.eqs (s:=118) (bZ:=.sl 6 aM 0 (oN.set n30.toNat v31).length) J (by simp)<|aj.here<|ah.ghost<|aj.eqs (s:=123) (bZ:=.sl 6 aM 0 (oN.set n30.toNat v31).length) J (by simp)<|aj.here<|aA h fun oH J0 h=>ah.qv (aP J J J J0) J<|br (g:=Signal.av) (uB:=v32) J J J J J0 J .p0 J<|ah.ghost<|aj.eqs (s:=0) (bZ:=.sl 6 aM 0 ((oN.set n30.toNat v31).set (aN (n30 - (1:Int))).toNat v32).length) J (by rw [List.length_set])<|aj.here<|ah.ghost<|aj.eqs (s:=113) (bZ:=.sl 6 aM 0 ((oN.set n30.toNat v31).set (aN (n30 - (1:Int))).toNat v32).length) J (by rw [List.length_set])<|aj.here<|ah.ghost<|aj.eqs (s:=115) (bZ:=.sl 6 aM 0 ((oN.set n30.toNat v31).set (aN (n30 - (1:Int))).toNat v32).length) J (by rw [List.length_set])<|aj.here<|ah.ghost<|aj.eqs (s:=118) (bZ:=.sl 6 aM 0 ((oN.set n30.toNat v31).set (aN (n30 - (1:Int))).toNat v32).length) J (by rw [List.length_set])<|aj.here<|ah.ghost<|aj.eqs (s:=123) (bZ:=.sl 6 aM 0 ((oN.set n30.toNat v31).set (aN (n30 - (1:Int))).toNat v32).length) J (by rw [List.length_set])<|aj.here<|rN<|ae.cd<|tR<|rM J J<|ah.qv (bF J J) J<|rA J J<|rN<|ae.stop<|?_
       cases h
       exact Tz _ _ J<|aj.lq [0] J J J
      ·refine ae.exit J<|have h:=bP h TA;ae.ret<|?_
       cases h
       exact aj.here ⟨_,.nil,_,.cons .p0 .nil,⟨J,J⟩⟩
  ·refine tK<|aI<|rM J J<|rM J J<|ah.qv (aV J J) J<|ah.qv (fj J) J<|ah.qv (zG J J (by decide)) J<|ah.qv (fj J) J<|rA J J<|rN<|aI<|rM J J<|rM J J<|ah.qv (aV J J) J<|rA J J<|rN<|aI<|rA J J<|rA J J<|rN<|tS<|aI<|rM J J<|rM J J<|ah.qv (gR J J) J<|rN<|ae.cut (fun aC=>∃ (n35:Int) (n36:Int),ee self aa ai aq aT dt n35 n36=some r∧aC=⟨220,[(0,.sl 6 aM 0 aa.length),(1,I ai),(2,I aq),(3,I aT),(4,.func (.func bM) ch),(18,I (aN (bX .u64 (IntKind.u64.wrap (aN (ai+aT))) (1:Int)))),(19,I (aN ((aN (bX .u64 (IntKind.u64.wrap (aN (ai+aT))) (1:Int)))+aq))),(20,I n35),(21,I n36)],[(aM,fS aa)]⟩) ?_ ?_
   ·refine cD h J (fun h=>?_) (fun h=>?_)
    ·exact aI<|rM J J<|rM J J<|ah.qv (bF J J) J<|rA J J<|rN<|tR<|rM J J<|rA J J<|rN<|ae.stop<|aj.lq [0] ⟨aN ((aN ((aN (bX .u64 (IntKind.u64.wrap (aN (ai+aT))) (1:Int)))+aq)) - aT),aN (bX .u64 (IntKind.u64.wrap (aN (ai+aT))) (1:Int)),h,J⟩ J J
    ·exact aI<|rM J J<|rA J J<|rN<|tR<|rM J J<|rA J J<|rN<|ae.stop<|aj.lq [0] ⟨ai,aq,h,J⟩ J J
   ·rintro aC ⟨n35,n36,h,rfl⟩
    unfold ee at h
    refine aI<|rM J J<|ah.qv (bF J J) J<|rA J J<|rN<|tS<|ae.block<|ae.bS (fun x:Int×Int=>ed self aa ai aq aT dt x.1 x.2) (fun x aC=>aC=⟨220,[(0,.sl 6 aM 0 aa.length),(1,I ai),(2,I aq),(3,I aT),(4,.func (.func bM) ch),(18,I (aN (bX .u64 (IntKind.u64.wrap (aN (ai+aT))) (1:Int)))),(19,I (aN ((aN (bX .u64 (IntKind.u64.wrap (aN (ai+aT))) (1:Int)))+aq))),(20,I x.1),(21,I x.2),(22,I (aN ((aN ((aN (bX .u64 (IntKind.u64.wrap (aN (ai+aT))) (1:Int)))+aq)) - (1:Int))))],[(aM,fS aa)]⟩) h ?_ ?_
    ·exact aj.lq [0] J J J
    ·intro x z5 aC J5 dL h TB TC
     obtain ⟨n39,n40⟩:=x
     obtain rfl:=dL
     replace h:ed self aa ai aq aT dt n39 n40=some z5:=h
     unfold ed at h
     refine tS<|aI<|rM J J<|rM J J<|ah.qv (bB J J) J<|rN<|cD h J (fun h=>?_) (fun h=>?_)
     ·refine tK<|ae.block<|aI<|rM J J<|rM J J<|ah.qv (aV J J) J<|ah.qv (fj J) J<|ah.qv (zG J J (by decide)) J<|ah.qv (fj J) J<|rA J J<|rN<|tS<|ae.bV (id:=35) (A:=[0,0,0,0,12,30,62,0,0,384,896,2047,4095,8191]) 14 mixed J (by kernel_rfl) (by kernel_rfl)<|AM.qv (ax J) J<|AM.qv (ax J) J<|AM.qv (ax J) J<|AM.qv (ax J) J<|AM.qv (bF J J) J<|aA h fun v41 Eh h=>AM.qv (aP J J J Eh) J<|AM.qv (aR (g:=Signal.av) J J (.inl .p0) J Eh J) J<|AM.qv (ax J) J<|AM.qv (ax J) J<|aA h fun ID Mn h=>AM.qv (aP J J J Mn) J<|AM.qv (aR (g:=Signal.av) J J (.inl .p0) J Mn J) J<|aA h fun zc OC h=>AM.tD J J (gV OC) cR J<|AM.qv (bB J J) J<|AM.qv (lM J) J<|AM.nil<|rN<|ae.cut (fun aC=>∃ (n44:Int) (n45:Int),dZ n44 n45=some z5∧aC=⟨220,[(0,.sl 6 aM 0 aa.length),(1,I ai),(2,I aq),(3,I aT),(4,.func (.func bM) ch),(18,I (aN (bX .u64 (IntKind.u64.wrap (aN (ai+aT))) (1:Int)))),(19,I (aN ((aN (bX .u64 (IntKind.u64.wrap (aN (ai+aT))) (1:Int)))+aq))),(20,I n44),(21,I n45),(22,I (aN ((aN ((aN (bX .u64 (IntKind.u64.wrap (aN (ai+aT))) (1:Int)))+aq)) - (1:Int))))],[(aM,fS aa)]⟩) ?_ ?_
      ·refine cD h J (fun h=>?_) (fun h=>?_)
       ·exact tR<|rM J J<|ah.qv (aV J J) J<|rA J J<|rN<|ae.stop<|aj.lq [0] ⟨aN ((aN (bX .u64 (IntKind.u64.wrap (aN (n39+n40))) (1:Int)))+(1:Int)),n40,h,J⟩ J J
       ·exact tR<|rM J J<|rA J J<|rN<|ae.stop<|aj.lq [0] ⟨n39,aN (bX .u64 (IntKind.u64.wrap (aN (n39+n40))) (1:Int)),h,J⟩ J J
      ·rintro aC ⟨n44,n45,h,rfl⟩
       unfold dZ at h
       refine ae.cd<|ae.stop<|?_
       cases h
       exact TB _ _ J<|aj.lq [0] J J J
     ·refine ae.exit J<|have h:=bP h TC;aI<|rM J J<|rM J J<|ah.qv (bF J J) J<|rA J J<|rN<|tS<|tS<|ae.cut (fun aC=>∃ (JR:Bool),gn self aa ai aq aT dt n39 JR=some r∧aC=⟨220,[(0,.sl 6 aM 0 aa.length),(1,I ai),(2,I aq),(3,I aT),(4,.func (.func bM) ch),(18,I (aN (bX .u64 (IntKind.u64.wrap (aN (ai+aT))) (1:Int)))),(20,I n39),(24,I (aN ((aN ((aN (bX .u64 (IntKind.u64.wrap (aN (ai+aT))) (1:Int)))+aq)) - n39))),(185,.bool JR)],[(aM,fS aa)]⟩) ?_ ?_
      ·refine tR<|rM J J<|rM J J<|ah.qv (bB J J) J<|rM J J<|ah.bJ J J J (fun hc=>?_) (fun hc=>?_)
       ·rw [lB hc] at h
        exact rM J J<|rY J J J<|rM J J<|rY J J J<|ah.qv (bB J J) J<|rT J J J<|rN<|ae.stop<|aj.lq [0] ⟨decide (aq < (aN ((aN ((aN (bX .u64 (IntKind.u64.wrap (aN (ai+aT))) (1:Int)))+aq)) - n39))),h,J⟩ J J
       ·rw [lC hc] at h
        exact rG J J J J<|rG J J J J<|rE J J J<|rN<|ae.stop<|aj.lq [0] ⟨false,h,J⟩ J J
      ·rintro aC ⟨JR,h,rfl⟩
       unfold gn at h
       refine ae.cut (fun aC=>∃ (vl:List Signal),ec self ai aq aT dt n39 vl=some r∧aC=⟨220,[(0,.sl 6 aM 0 vl.length),(1,I ai),(3,I aT),(4,.func (.func bM) ch),(18,I (aN (bX .u64 (IntKind.u64.wrap (aN (ai+aT))) (1:Int)))),(20,I n39),(24,I (aN ((aN ((aN (bX .u64 (IntKind.u64.wrap (aN (ai+aT))) (1:Int)))+aq)) - n39)))],[(aM,fS vl)]⟩) ?_ ?_
       ·refine cB h J (fun h=>?_) (fun h=>?_)
        ·exact tR<|rM J J<|rM J J<|rM J J<|rM J J<|rM J J<|aA h fun bD J7 h=>ba J (qI gV (fL J7)) cR (.cons .p0 .nil) J J<|ah.ghost<|aj.eqs (s:=0) (bZ:=.sl 6 aM 0 bD.length) J (congrArg (AV.sl 6 aM 0) (bG J7))<|aj.here<|ah.ghost<|aj.eqs (s:=186) (bZ:=.sl 6 aM 0 bD.length) J (congrArg (AV.sl 6 aM 0) (bG J7))<|aj.here<|rN<|ae.stop<|aj.lq [0] ⟨bD,h,J⟩ J J
        ·exact tK<|ae.stop<|aj.lq [0] ⟨aa,h,J⟩ J J
       ·rintro aC ⟨vl,h,rfl⟩
        unfold ec at h
        refine tS<|tS<|ae.cut (fun aC=>∃ (c49:Bool),gm self ai aq aT dt n39 vl c49=some r∧aC=⟨220,[(0,.sl 6 aM 0 vl.length),(1,I ai),(3,I aT),(4,.func (.func bM) ch),(18,I (aN (bX .u64 (IntKind.u64.wrap (aN (ai+aT))) (1:Int)))),(20,I n39),(24,I (aN ((aN ((aN (bX .u64 (IntKind.u64.wrap (aN (ai+aT))) (1:Int)))+aq)) - n39))),(199,.bool c49)],[(aM,fS vl)]⟩) ?_ ?_
        ·refine tR<|rM J J<|rM J J<|ah.qv (bB J J) J<|rM J J<|ah.bJ J J J (fun hc=>?_) (fun hc=>?_)
         ·rw [lB hc] at h
          exact rM J J<|rY J J J<|rM J J<|rY J J J<|ah.qv (bB J J) J<|rT J J J<|rN<|ae.stop<|aj.lq [0] ⟨decide (n39 < (aN (bX .u64 (IntKind.u64.wrap (aN (ai+aT))) (1:Int)))),h,J⟩ J J
         ·rw [lC hc] at h
          exact rG J J J J<|rG J J J J<|rE J J J<|rN<|ae.stop<|aj.lq [0] ⟨false,h,J⟩ J J
        ·rintro aC ⟨c49,h,rfl⟩
         unfold gm at h
         refine ae.cut (fun aC=>∃ (wS:List Signal),ea self ai aq aT dt n39 wS=some r∧aC=⟨220,[(0,.sl 6 aM 0 wS.length),(3,I aT),(4,.func (.func bM) ch),(18,I (aN (bX .u64 (IntKind.u64.wrap (aN (ai+aT))) (1:Int)))),(24,I (aN ((aN ((aN (bX .u64 (IntKind.u64.wrap (aN (ai+aT))) (1:Int)))+aq)) - n39)))],[(aM,fS wS)]⟩) ?_ ?_
         ·refine cB h J (fun h=>?_) (fun h=>?_)
          ·exact tR<|rM J J<|rM J J<|rM J J<|rM J J<|rM J J<|aA h fun v51 J8 h=>ba J (Br gV (fL J8)) cR (.cons .p0 .nil) J J<|ah.ghost<|aj.eqs (s:=0) (bZ:=.sl 6 aM 0 v51.length) J (congrArg (AV.sl 6 aM 0) (bG J8))<|aj.here<|ah.ghost<|aj.eqs (s:=200) (bZ:=.sl 6 aM 0 v51.length) J (congrArg (AV.sl 6 aM 0) (bG J8))<|aj.here<|rN<|ae.stop<|aj.lq [0] ⟨v51,h,J⟩ J J
          ·exact tK<|ae.stop<|aj.lq [0] ⟨vl,h,J⟩ J J
         ·rintro aC ⟨wS,h,rfl⟩
          unfold ea at h
          refine tS<|ae.cut (fun aC=>∃ (JQ:Bool),gl self ai aq aT dt n39 wS JQ=some r∧aC=⟨220,[(0,.sl 6 aM 0 wS.length),(3,I aT),(4,.func (.func bM) ch),(18,I (aN (bX .u64 (IntKind.u64.wrap (aN (ai+aT))) (1:Int)))),(24,I (aN ((aN ((aN (bX .u64 (IntKind.u64.wrap (aN (ai+aT))) (1:Int)))+aq)) - n39))),(213,.bool JQ)],[(aM,fS wS)]⟩) ?_ ?_
          ·refine tR<|rM J J<|rM J J<|ah.qv (bB J J) J<|rM J J<|ah.bJ J J J (fun hc=>?_) (fun hc=>?_)
           ·rw [lB hc] at h
            exact rM J J<|rY J J J<|rM J J<|rY J J J<|ah.qv (bB J J) J<|rT J J J<|rN<|ae.stop<|aj.lq [0] ⟨decide ((aN ((aN ((aN (bX .u64 (IntKind.u64.wrap (aN (ai+aT))) (1:Int)))+aq)) - n39)) < aT),h,J⟩ J J
           ·rw [lC hc] at h
            exact rG J J J J<|rG J J J J<|rE J J J<|rN<|ae.stop<|aj.lq [0] ⟨false,h,J⟩ J J
          ·rintro aC ⟨JQ,h,rfl⟩
           unfold gl at h
           refine ae.cut (fun aC=>∃ (Gg:List Signal),dG Gg=some r∧aC=⟨220,[],[(aM,fS Gg)]⟩) ?_ ?_
           ·refine cB h J (fun h=>?_) (fun h=>?_)
            ·exact tR<|rM J J<|rM J J<|rM J J<|rM J J<|rM J J<|aA h fun v54 Mo h=>ba J (Br gV (fL Mo)) cR (.cons .p0 .nil) J J<|ah.ghost<|aj.eqs (s:=0) (bZ:=.sl 6 aM 0 v54.length) J (congrArg (AV.sl 6 aM 0) (bG Mo))<|aj.here<|ah.ghost<|aj.eqs (s:=214) (bZ:=.sl 6 aM 0 v54.length) J (congrArg (AV.sl 6 aM 0) (bG Mo))<|aj.here<|rN<|ae.stop<|aj.lq [0] ⟨v54,h,J⟩ J J
            ·exact tK<|ae.stop<|aj.lq [0] ⟨wS,h,J⟩ J J
           ·rintro aC ⟨Gg,h,rfl⟩
            unfold dG at h
            refine ae.nil<|?_
            cases h
            exact aj.here ⟨_,.nil,_,.cons .p0 .nil,⟨J,J⟩⟩
theorem oR [GI:bA]:∀ (k:Nat) {aM:Bk} {aa:List Signal} {ai:Int} {aq:Int} {aT:Int} {dt:Signal→Signal→Option Int} {bM:FuncId} [bq Tryz.prog bM] {ch:List AV} (gV:∀ {y0 y1:_} {u:Int},dt y0 y1=some u→Pu Tryz.prog bM (Signal.av y0 :: Signal.av y1 :: ch) (I u)) {r:(List Signal)},gI k aa ai aq aT dt=some r→aG Tryz.prog 185 [.sl 6 aM 0 aa.length,I ai,I aq,I aT,.func (.func bM) ch] [(aM,fS aa)] (T0 ([(aM,fS r)]) (.nI [])):=by
 intro k
 induction k with
 | zero=>intro aM aa ai aq aT dt bM _ ch gV r h;cases h
 | succ k ih=>intro aM aa ai aq aT dt bM _ ch gV r h;exact oA ih gV h
theorem kI [GI:bA] {aM:Bk} {aa:List Signal} {ai:Int} {aq:Int} {aT:Int} {dt:Signal→Signal→Option Int} {bM:FuncId} [bq Tryz.prog bM] {ch:List AV} (gV:∀ {y0 y1:_} {u:Int},dt y0 y1=some u→Pu Tryz.prog bM (Signal.av y0 :: Signal.av y1 :: ch) (I u)) {r:(List Signal)} (h:iF aa ai aq aT dt=some r):aG Tryz.prog 185 [.sl 6 aM 0 aa.length,I ai,I aq,I aT,.func (.func bM) ch] [(aM,fS aa)] (T0 ([(aM,fS r)]) (.nI [])):=oR depth gV h
theorem qJ [GI:bA] {aM:Bk} {aa:List Signal} {ai:Int} {pc:Signal→Signal→Option Int} {sH:FuncId} [bq Tryz.prog sH] {uf:List AV} (ym:∀ {y0 y1:_} {u:Int},pc y0 y1=some u→Pu Tryz.prog sH (Signal.av y0 :: Signal.av y1 :: uf) (I u)) {r:(List Signal)} (h:ef aa ai pc=some r):aG Tryz.prog 141 [.sl 6 aM 0 aa.length,I ai,.func (.func sH) uf] [(aM,fS aa)] (T0 ([(aM,fS r)]) (.nI [])):=by
 unfold ef at h
 refine aG.dD ?_
 refine aG.bw Tryz.func141 J Tryz.ntmps141 Tryz.results141 J J ?_
 refine aI<|rA J J<|rN<|aI<|rM J J<|rA J J<|rA J J<|rN<|tS<|ae.block<|ae.bS (fun x:(List Signal)×Int×Int=>dc ai pc x.1 x.2.1 x.2.2) (fun x aC=>aC=⟨63,[(0,.sl 6 aM 0 x.1.length),(1,I ai),(2,.func (.func sH) uf),(6,I (20:Int)),(7,I x.2.1),(8,I x.2.2)],[(aM,fS x.1)]⟩) h ?_ ?_
 ·exact aj.lq [0] J J J
 ·intro x z1 aC J1 dL h jF fP
  obtain ⟨l4,n5,n6⟩:=x
  obtain rfl:=dL
  replace h:dc ai pc l4 n5 n6=some z1:=h
  unfold dc at h
  refine tS<|aI<|rM J J<|rM J J<|ah.qv (oW J J) J<|rN<|cD h J (fun h=>?_) (fun h=>?_)
  ·refine tK<|ae.block<|aI<|rM J J<|rM J J<|rM J J<|rM J J<|aA h fun v7 e1 h=>ba J (je ym (fL e1)) cR (.cons .p0 .nil) J J<|ah.ghost<|aj.eqs (s:=0) (bZ:=.sl 6 aM 0 v7.length) J (congrArg (AV.sl 6 aM 0) (bG e1))<|aj.here<|ah.ghost<|aj.eqs (s:=14) (bZ:=.sl 6 aM 0 v7.length) J (congrArg (AV.sl 6 aM 0) (bG e1))<|aj.here<|rN<|aI<|rM J J<|rA J J<|rN<|tR<|rM J J<|rM J J<|ah.qv (aV J J) J<|rA J J<|rN<|ae.cd<|ae.stop<|?_
   cases h
   exact jF _ _ J<|aj.lq [0] J J J
  ·refine ae.exit J<|have h:=bP h fP;?_
   unfold gW at h
   refine aI<|rM J J<|rM J J<|rM J J<|rM J J<|aA h fun v8 e2 h=>ba J (je ym (fL e2)) cR (.cons .p0 .nil) J J<|ah.ghost<|aj.eqs (s:=0) (bZ:=.sl 6 aM 0 v8.length) J (congrArg (AV.sl 6 aM 0) (bG e2))<|aj.here<|ah.ghost<|aj.eqs (s:=23) (bZ:=.sl 6 aM 0 v8.length) J (congrArg (AV.sl 6 aM 0) (bG e2))<|aj.here<|rN<|ae.block<|ae.bS (fun x:(List Signal)×Int=>db ai pc x.1 x.2) (fun x aC=>aC=⟨63,[(0,.sl 6 aM 0 x.1.length),(1,I ai),(2,.func (.func sH) uf),(6,I x.2)],[(aM,fS x.1)]⟩) h ?_ ?_
   ·exact aj.lq [0] J J J
   ·intro x z2 aC J2 dL h xC wW
    obtain ⟨iY,n12⟩:=x
    obtain rfl:=dL
    replace h:db ai pc iY n12=some z2:=h
    unfold db at h
    refine tS<|aI<|rM J J<|rM J J<|ah.qv (bB J J) J<|rN<|cD h J (fun h=>?_) (fun h=>?_)
    ·refine tK<|ae.block<|aI<|rM J J<|ah.qv (vr J J) J<|rA J J<|rA J J<|rN<|tS<|ae.block<|ae.bS (fun x:(List Signal)×Int×Int=>fc ai pc n12 x.1 x.2.1 x.2.2) (fun x aC=>aC=⟨63,[(0,.sl 6 aM 0 x.1.length),(1,I ai),(2,.func (.func sH) uf),(6,I n12),(7,I x.2.1),(8,I x.2.2)],[(aM,fS x.1)]⟩) h ?_ ?_
     ·exact aj.lq [0] J J J
     ·intro x z3 aC J3 dL h H9 DI
      obtain ⟨sX,n17,n18⟩:=x
      obtain rfl:=dL
      replace h:fc ai pc n12 sX n17 n18=some z3:=h
      unfold fc at h
      refine tS<|aI<|rM J J<|rM J J<|ah.qv (oW J J) J<|rN<|cD h J (fun h=>?_) (fun h=>?_)
      ·refine tK<|ae.block<|aI<|rM J J<|rM J J<|rM J J<|rM J J<|ah.qv (aV J J) J<|rM J J<|rM J J<|aA h fun w9 e3 h=>ba J (kI ym (fL e3)) cR (.cons .p0 .nil) J J<|ah.ghost<|aj.eqs (s:=0) (bZ:=.sl 6 aM 0 w9.length) J (congrArg (AV.sl 6 aM 0) (bG e3))<|aj.here<|ah.ghost<|aj.eqs (s:=36) (bZ:=.sl 6 aM 0 w9.length) J (congrArg (AV.sl 6 aM 0) (bG e3))<|aj.here<|rN<|aI<|rM J J<|rA J J<|rN<|tR<|rM J J<|rM J J<|ah.qv (vr J J) J<|ah.qv (aV J J) J<|rA J J<|rN<|ae.cd<|ae.stop<|?_
       cases h
       exact H9 _ _ J<|aj.lq [0] J J J
      ·refine ae.exit J<|have h:=bP h DI;?_
       unfold kU at h
       refine tS<|aI<|rM J J<|rM J J<|ah.qv (aV J J) J<|rA J J<|rN<|aI<|rM J J<|rM J J<|ah.qv (bB J J) J<|rN<|ae.cut (fun aC=>∃ (qP:List Signal),fb n12 qP=some z2∧aC=⟨63,[(0,.sl 6 aM 0 qP.length),(1,I ai),(2,.func (.func sH) uf),(6,I n12)],[(aM,fS qP)]⟩) ?_ ?_
       ·refine cD h J (fun h=>?_) (fun h=>?_)
        ·exact tR<|rM J J<|rM J J<|rM J J<|rM J J<|rM J J<|aA h fun v21 e4 h=>ba J (kI ym (fL e4)) cR (.cons .p0 .nil) J J<|ah.ghost<|aj.eqs (s:=0) (bZ:=.sl 6 aM 0 v21.length) J (congrArg (AV.sl 6 aM 0) (bG e4))<|aj.here<|ah.ghost<|aj.eqs (s:=55) (bZ:=.sl 6 aM 0 v21.length) J (congrArg (AV.sl 6 aM 0) (bG e4))<|aj.here<|rN<|ae.stop<|aj.lq [0] ⟨v21,h,J⟩ J J
        ·exact tK<|ae.stop<|aj.lq [0] ⟨sX,h,J⟩ J J
       ·rintro aC ⟨qP,h,rfl⟩
        unfold fb at h
        refine tR<|rM J J<|ah.qv (vr J J) J<|rA J J<|rN<|ae.cd<|ae.stop<|?_
        cases h
        exact xC _ _ J<|aj.lq [0] J J J
    ·refine ae.exit J<|have h:=bP h wW;ae.nil<|?_
     cases h
     exact aj.here ⟨_,.nil,_,.cons .p0 .nil,⟨J,J⟩⟩
theorem ny [GI:bA] {aM:Bk} {aa:List Signal} {dH:Signal→Signal→Option Int} {cu:FuncId} [bq Tryz.prog cu] {dP:List AV} (kJ:∀ {y0 y1:_} {u:Int},dH y0 y1=some u→Pu Tryz.prog cu (Signal.av y0 :: Signal.av y1 :: dP) (I u)) {r:(List Signal)} (h:ck aa dH=some r):aG Tryz.prog 70 [.sl 6 aM 0 aa.length,.func (.func cu) dP] [(aM,fS aa)] (T0 ([(aM,fS r)]) (.nI [])):=by
 unfold ck at h
 refine aG.dD ?_
 refine aG.bw Tryz.func70 J Tryz.ntmps70 Tryz.results70 J J ?_
 refine tR<|rM J J<|rM J J<|ah.qv (eR J) J<|rM J J<|aA h fun v1 e1 h=>ba J (qJ kJ (fL e1)) cR (.cons .p0 .nil) J J<|ah.ghost<|aj.eqs (s:=0) (bZ:=.sl 6 aM 0 v1.length) J (congrArg (AV.sl 6 aM 0) (bG e1))<|aj.here<|ah.ghost<|aj.eqs (s:=4) (bZ:=.sl 6 aM 0 v1.length) J (congrArg (AV.sl 6 aM 0) (bG e1))<|aj.here<|ah.ghost<|aj.eqs (s:=5) (bZ:=.sl 6 aM 0 v1.length) J (congrArg (AV.sl 6 aM 0) (bG e1))<|aj.here<|rN<|ae.nil<|?_
 cases h
 exact aj.here ⟨_,.nil,_,.cons .p0 .nil,⟨J,J⟩⟩
theorem wY [GI:bA] {aa:Signal} {ai:Signal} {r:Bool} (h:jV aa ai=some r):Pu Tryz.prog 73 [Signal.av aa,Signal.av ai] (.bool r):=by
 unfold jV at h
 refine aG.bw Tryz.func73 J Tryz.ntmps73 Tryz.results73 J J ?_
 refine aI<|dC J J J J fun b1=>dC J J J J fun b2=>rA J J<|rN<|aI<|ah.qv (aL J J .p1 J) J<|ah.qv (aL J J .p0 J) J<|aA h fun v3 e1 h=>bc J (qV e1) cR J<|ah.qv (cH J J) J<|rA J J<|rN<|ae.ret<|?_
 cases h
 exact hP J J
theorem oB [GI:bA] {aM:Bk} {aa:List Signal} {dH:Signal→Signal→Option Bool} {cu:FuncId} [bq Tryz.prog cu] {dP:List AV} (kJ:∀ {y0 y1:_} {u:Bool},dH y0 y1=some u→Pu Tryz.prog cu (Signal.av y0 :: Signal.av y1 :: dP) (.bool u)) {r:(List Signal)} (h:eh aa dH=some r):aG Tryz.prog 72 [.sl 6 aM 0 aa.length,.func (.func cu) dP] [(aM,fS aa)] (T1 (fun lV=>[(lV,fS r)]) (fun lV=>.sl 6 lV 0 r.length)):=by
 unfold eh at h
 refine aG.dD ?_
 refine aG.bw Tryz.func72 J Tryz.ntmps72 Tryz.results72 J J ?_
 refine aI<|rA J J<|rN<|tS<|aI<|rM J J<|ah.qv (eR J) J<|ah.qv (bB J J) J<|rN<|cD h J (fun h=>?_) (fun h=>?_)
 ·refine aI<|rM J J<|rA J J<|rN<|ae.ret<|?_
  cases h
  exact hH J [0] J ⟨aM,J,J⟩
 ·refine tK<|tS<|aI<|rA J J<|rN<|ae.block<|ae.bS (fun x:Int=>dm aa dH x) (fun x aC=>aC=⟨66,[(0,.sl 6 aM 0 aa.length),(1,.func (.func cu) dP),(5,I x)],[(aM,fS aa)]⟩) h ?_ ?_
  ·exact aj.lq [0] J J J
  ·intro n2 z1 aC J1 dL h jF fP
   obtain rfl:=dL
   replace h:dm aa dH n2=some z1:=h
   unfold dm at h
   refine tS<|aI<|rM J J<|rM J J<|ah.qv (eR J) J<|ah.qv (bB J J) J<|rN<|cD h J (fun h=>?_) (fun h=>?_)
   ·refine tK<|tS<|ae.block<|tS<|ae.bV (id:=6) (A:=[0,0,0,6,14,0,0,64,224,480,1023]) 11 mixed J (by kernel_rfl) (by kernel_rfl)<|AM.qv (ax J) J<|AM.qv (ax J) J<|AM.qv (ax J) J<|aA h fun v3 e1 h=>AM.qv (aP J J J e1) J<|AM.qv (aR (g:=Signal.av) J J (.inl .p0) J e1 J) J<|AM.qv (ax J) J<|AM.qv (ax J) J<|AM.qv (bF J J) J<|aA h fun v4 e2 h=>AM.qv (aP J J J e2) J<|AM.qv (aR (g:=Signal.av) J J (.inl .p0) J e2 J) J<|aA h fun v5 e3 h=>AM.tD J J (kJ e3) cR J<|AM.nil<|rN<|cB h J (fun h=>?_) (fun h=>?_)
    ·refine aI<|rM J J<|rM J J<|aA h fun l6 e4 h=>ah.qv (mL J J (.some _ _ _ J) .none J J e4) J<|rA J J<|rN<|tS<|aI<|rA J J<|rN<|ae.block<|ae.bS (fun x:(List Signal)×Int×Int=>dj dH n2 l6 x.1 x.2.1 x.2.2) (fun x aC=>aC=⟨66,[(0,.sl 6 aM 0 x.1.length),(1,.func (.func cu) dP),(5,I x.2.1),(6,.sl 6 aM n2.toNat l6.length),(7,I x.2.2)],[(aM,fS x.1)]⟩) h ?_ ?_
     ·exact aj.lq [0] J J J
     ·intro x z2 aC J2 dL h xC wW
      obtain ⟨l10,n11,n12⟩:=x
      obtain rfl:=dL
      replace h:dj dH n2 l6 l10 n11 n12=some z2:=h
      unfold dj at h
      refine tS<|aI<|rM J J<|rM J J<|ah.qv (CI J) J<|ah.qv (bB J J) J<|rN<|cD h J (fun h=>?_) (fun h=>?_)
      ·refine tK<|tS<|ae.block<|tS<|ae.bV (id:=11) (A:=[0,0,0,6,14,0,0,64,224,480,1023,2047]) 12 mixed J (by kernel_rfl) (by kernel_rfl)<|AM.qv (ax J) J<|AM.qv (ax J) J<|AM.qv (ax J) J<|aA h fun gb e5 h=>AM.qv (tc (L:=n2) J J J e5) J<|AM.qv (aR (g:=Signal.av) J J (.inl .p0) J (tW e5).2 J) J<|AM.qv (ax J) J<|AM.qv (ax J) J<|AM.qv (bF J J) J<|aA h fun gh e6 h=>AM.qv (tc (L:=n2) J J J e6) J<|AM.qv (aR (g:=Signal.av) J J (.inl .p0) J (tW e6).2 J) J<|aA h fun rS e7 h=>AM.tD J J (kJ e7) cR J<|AM.qv (dB J) J<|AM.nil<|rN<|ae.cut (fun aC=>∃ (sX:List Signal) (n17:Int),di n12 sX n17=some z2∧aC=⟨66,[(0,.sl 6 aM 0 sX.length),(1,.func (.func cu) dP),(5,I n17),(6,.sl 6 aM n2.toNat l6.length),(7,I n12)],[(aM,fS sX)]⟩) ?_ ?_
       ·refine cB h J (fun h=>?_) (fun h=>?_)
        ·exact aI<|rM J J<|rM J J<|rM J J<|rM J J<|aA h fun zK e8 h=>ah.qv (tc (L:=n2) J J J e8) J<|ah.qv (aR (g:=Signal.av) J J (.inl .p0) J (tW e8).2 J) J<|aA h fun w9 e9 h=>ah.qv (aP J J J e9) J<|br (g:=Signal.av) (uB:=zK) J J J J e9 J .p0 J<|ah.ghost<|aj.eqs (s:=0) (bZ:=.sl 6 aM 0 (l10.set n11.toNat zK).length) J (by rw [List.length_set])<|aj.here<|ah.ghost<|aj.eqs (s:=50) (bZ:=.sl 6 aM 0 (l10.set n11.toNat zK).length) J (by rw [List.length_set])<|aj.here<|rN<|tR<|rM J J<|ah.qv (aV J J) J<|rA J J<|rN<|ae.stop<|aj.lq [0] ⟨l10.set n11.toNat zK,aN (n11+(1:Int)),h,J⟩ J J
        ·exact tK<|ae.stop<|aj.lq [0] ⟨l10,n11,h,J⟩ J J
       ·rintro aC ⟨sX,n17,h,rfl⟩
        unfold di at h
        refine ae.cd<|tR<|rM J J<|ah.qv (aV J J) J<|rA J J<|rN<|ae.stop<|?_
        cases h
        exact xC _ _ J<|aj.lq [0] J J J
      ·refine ae.exit J<|have h:=bP h wW;?_
       unfold jn at h
       refine aI<|rM J J<|rM J J<|aA h fun qP yl h=>ah.qv (mL J J (.some _ _ _ J) .none J J yl) J<|Dz (g:=Signal.av) (Z:=(⟨(0:Int),(0:Int),[],[],[],(0:Int)⟩:Signal)) (L:=n11) J J J J J J yl .p0<|ah.ghost<|aj.eqs (s:=0) (bZ:=.sl 6 aM 0 (Ay l10 n11 qP.length (⟨(0:Int),(0:Int),[],[],[],(0:Int)⟩:Signal)).length) J (congrArg (AV.sl 6 aM 0) (tb yl))<|aj.here<|ah.ghost<|aj.eqs (s:=59) (bZ:=.sl 6 aM 0 (Ay l10 n11 qP.length (⟨(0:Int),(0:Int),[],[],[],(0:Int)⟩:Signal)).length) J (congrArg (AV.sl 6 aM 0) (tb yl))<|aj.here<|rN<|aI<|rM J J<|rM J J<|aA h fun Ai CX h=>ah.qv (mL J J .none (.some _ _ _ J) J J CX) J<|rA J J<|ah.ghost<|aj.Jw CX .p0<|aj.here<|rN<|ae.ret<|have h:=bP h fP;?_
       cases h
       exact hH J [0] J ⟨aM,J,J⟩
    ·refine tK<|ae.cd<|tR<|rM J J<|ah.qv (aV J J) J<|rA J J<|rN<|ae.stop<|?_
     cases h
     exact jF _ _ J<|aj.lq [0] J J J
   ·refine ae.exit J<|have h:=bP h fP;aI<|rM J J<|rA J J<|rN<|ae.ret<|?_
    cases h
    exact hH J [0] J ⟨aM,J,J⟩
theorem zh [GI:bA] {aM:Bk} {aa:ak} {ai:Int} {aq:Bool} {r:(List Signal)×ak} (h:mN aa ai aq=some r):aG Tryz.prog 7 [.ptr aM 0,I ai,.bool aq] [(aM,.cells [gQ aa.L,I aa.at_])] (T1 (fun lV=>[(aM,.cells [gQ r.2.L,I r.2.at_]),(lV,fS r.1)]) (fun lV=>.sl 6 lV 0 r.1.length)):=by
 unfold mN at h
 refine aG.dD ?_
 refine aG.bw Tryz.func7 J Tryz.ntmps7 Tryz.results7 J J ?_
 refine aI<|rA J J<|rN<|aI<|rA J J<|rN<|aI<|rM J J<|aA h fun v1 e1 h=>ba J (iw e1) cR (.cons .p0 .nil) J J<|rA J J<|rN<|tS<|aI<|rM J J<|rM J J<|rN<|ae.block<|ae.bS (fun x:(List Int)×Int×(List Signal)×Int×Int=>jX ai aq x.1 x.2.1 x.2.2.1 x.2.2.2.1 x.2.2.2.2) (fun x aC=>∃ (pz:Bk),aC=⟨124,[(0,.ptr aM 0),(2,.bool aq),(7,.sl 6 pz 0 x.2.2.1.length),(8,I x.2.2.2.1),(13,I ai),(14,I x.2.2.2.2)],[(aM,.cells [gQ x.1,I x.2.1]),(pz,fS x.2.2.1)]⟩) h ?_ ?_
 ·exact aj.arr (s:=7) 6 J fun ux=>aj.lq [1,0] ⟨ux,J⟩ J J
 ·intro x z1 aC J1 dL h jF fP
  obtain ⟨l8,n9,iY,n12,n13⟩:=x
  obtain ⟨pz,rfl⟩:=dL
  replace h:jX ai aq l8 n9 iY n12 n13=some z1:=h
  unfold jX at h
  refine aI<|ah.qv (bB J J) J<|rN<|tS<|cD h J (fun h=>?_) (fun h=>?_)
  ·refine tK<|tS<|ae.block<|aI<|rM J J<|rM J J<|aY (xs:=([(1:Int),(1:Int),(2:Int),(2:Int),(3:Int),(3:Int),(4:Int),(5:Int)]).map I) J J J J J J<|aA h fun rS e2 h=>ba J (cI e2) cR (.cons .p0 .nil) J J<|rM J J<|aY (xs:=([([100,97]:aS),([100,97]:aS),([100,98]:aS),([100,103]:aS)]).map AV.str) J J J J J J<|aA h fun kS e3 h=>ba J (iz e3) cR (.cons .p0 .nil) J J<|rM J J<|aY (xs:=([([114,97]:aS),([114,97]:aS),([114,98]:aS)]).map AV.str) J J J J J J<|aA h fun v17 e4 h=>ba J (iz e4) cR (.cons .p0 .nil) J J<|ah.qv (cF J J J J J) J<|bT J J J J fun sS=>aE J J J J .p0 J J<|rN<|tS<|aI<|rM J J<|rN<|ae.cut (fun aC=>∃ (sv:List Int) (n20:Int) (n21:Int),iN iY n12 n13 kS v17 sv n20 n21=some z1∧aC=⟨124,[(0,.ptr aM 0),(2,.bool aq),(7,.sl 6 pz 0 iY.length),(8,I n12),(9,.ptr sS 0),(13,I ai),(14,I n13)],[(aM,.cells [gQ sv,I n20]),(pz,fS iY),(sS,.cells [I n12,I n21,.str kS.1,.str v17.1,.str [],I (0:Int)])]⟩) ?_ ?_
   ·refine cB h J (fun h=>?_) (fun h=>?_)
    ·exact tR<|rM J J<|aY (xs:=([(3:Int),(3:Int),(4:Int),(5:Int)]).map I) J J J J J J<|aA h fun v22 e5 h=>ba J (cI e5) cR (.cons .p1 .nil) J J<|rF J J J<|aE J J J J .p1 J J<|rN<|ae.stop<|aj.lq [0,1,0] ⟨v22.2.L,v22.2.at_,v22.1,h,J⟩ J J
    ·exact tK<|ae.stop<|aj.lq [1,1,0] ⟨v17.2.L,v17.2.at_,rS.1,h,J⟩ J J
   ·rintro aC ⟨sv,n20,n21,h,rfl⟩
    unfold iN at h
    refine tS<|aI<|rF J J J<|rL J J .p2 J J<|ah.qv (sn J J) J<|rN<|ae.cut (fun aC=>∃ (vh:List Int) (n24:Int) (H6:aS),iM iY n12 n13 kS v17 n21 vh n24 H6=some z1∧aC=⟨124,[(0,.ptr aM 0),(2,.bool aq),(7,.sl 6 pz 0 iY.length),(8,I n12),(9,.ptr sS 0),(13,I ai),(14,I n13)],[(aM,.cells [gQ vh,I n24]),(pz,fS iY),(sS,.cells [I n12,I n21,.str kS.1,.str v17.1,.str H6,I (0:Int)])]⟩) ?_ ?_
    ·refine cD h J (fun h=>?_) (fun h=>?_)
     ·exact tR<|rM J J<|aY (xs:=([([97,110,110]:aS),([98,111,98]:aS)]).map AV.str) J J J J J J<|aA h fun v26 e6 h=>ba J (iz e6) cR (.cons .p0 .nil) J J<|rF J J J<|aE J J J J .p2 J J<|rN<|ae.stop<|aj.lq [0,0,0] ⟨v26.2.L,v26.2.at_,v26.1,h,J⟩ J J
     ·exact tK<|ae.stop<|aj.lq [0,0,0] ⟨sv,n20,[],h,J⟩ J J
    ·rintro aC ⟨vh,n24,H6,h,rfl⟩
     unfold iM at h
     refine tS<|aI<|rF J J J<|rL J J .p2 J J<|ah.qv (cH J J) J<|rN<|ae.cut (fun aC=>∃ (w8:List Int) (n28:Int) (n29:Int),iL iY n12 n13 kS v17 n21 H6 w8 n28 n29=some z1∧aC=⟨124,[(0,.ptr aM 0),(2,.bool aq),(7,.sl 6 pz 0 iY.length),(8,I n12),(9,.ptr sS 0),(13,I ai),(14,I n13)],[(aM,.cells [gQ w8,I n28]),(pz,fS iY),(sS,.cells [I n12,I n21,.str kS.1,.str v17.1,.str H6,I n29])]⟩) ?_ ?_
     ·refine cD h J (fun h=>?_) (fun h=>?_)
      ·exact tR<|rM J J<|rM J J<|aY (xs:=([(1:Int),(10:Int),(50:Int)]).map I) J J J J J J<|aA h fun v30 e7 h=>ba J (cI e7) cR (.cons .p0 .nil) J J<|ah.qv (aV J J) J<|rF J J J<|aE J J J J .p2 J J<|rN<|ae.stop<|aj.lq [0,0,0] ⟨v30.2.L,v30.2.at_,aN (n12+v30.1),h,J⟩ J J
      ·exact tK<|ae.stop<|aj.lq [0,0,0] ⟨vh,n24,(0:Int),h,J⟩ J J
     ·rintro aC ⟨w8,n28,n29,h,rfl⟩
      unfold iL at h
      refine aI<|rM J J<|ah.qv (aL J J .p2 J) J<|aY (xs:=([(⟨n12,n21,kS.1,v17.1,H6,n29⟩:Signal)]).map Signal.av) J J J J J J<|aA h fun FU e8 h=>dq (g:=Signal.av) J J J J J J J J (.list _) e8 (fun _=>.p1) J fun Pj=>rA J J<|rN<|tR<|rM J J<|rM J J<|aY (xs:=([(0:Int),(1:Int),(3:Int),(10:Int),(40:Int)]).map I) J J J J J J<|aA h fun v33 e9 h=>ba J (cI e9) cR (.cons .p0 .nil) J J<|ah.qv (aV J J) J<|rA J J<|rN<|ae.cd<|tR<|ah.qv (aV J J) J<|rM J J<|rN<|ae.stop<|?_
      cases h
      exact jF _ _ J<|aj.lq [0,0] ⟨Pj,J⟩ J J
  ·refine ae.exit J<|have h:=bP h fP;?_
   unfold pd at h
   refine aI<|rM J J<|aA h fun oH yl h=>ba J (ny (fun e=>qV e) (fL yl)) cR (.cons .p1 .nil) J J<|ah.ghost<|aj.eqs (s:=7) (bZ:=.sl 6 pz 0 oH.length) J (congrArg (AV.sl 6 pz 0) (bG yl))<|aj.here<|ah.ghost<|aj.eqs (s:=58) (bZ:=.sl 6 pz 0 oH.length) J (congrArg (AV.sl 6 pz 0) (bG yl))<|aj.here<|rN<|tS<|aI<|rM J J<|aA h fun v35 CX h=>ba J (iy CX) cR (.cons .p1 .nil) J J<|ah.qv (dB J) J<|rN<|ae.cut (fun aC=>∃ (tM:Bk) (pS:List Signal),iP v35 pS=some r∧aC=⟨124,[(0,.ptr aM 0),(7,.sl 6 tM 0 pS.length)],[(aM,.cells [gQ v35.2.L,I v35.2.at_]),(tM,fS pS)]⟩) ?_ ?_
   ·refine cB h J (fun h=>?_) (fun h=>?_)
    ·exact tR<|rM J J<|aA h fun Ah Gl h=>ik J (oB (fun e=>wY e) Gl) cR (.cons .p1 .nil) (fun _=>J) J fun OD=>rA J J<|rN<|ae.stop<|aj.lq [1,0] ⟨OD,Ah,h,J⟩ J J
    ·exact tK<|ae.stop<|aj.lq [0,0] ⟨pz,oH,h,J⟩ J J
   ·rintro aC ⟨tM,pS,h,rfl⟩
    unfold iP at h
    refine tS<|tS<|ae.cut (fun aC=>∃ (xQ:List Int) (n41:Int) (Qm:Bool),iO pS xQ n41 Qm=some r∧aC=⟨124,[(0,.ptr aM 0),(7,.sl 6 tM 0 pS.length),(71,.bool Qm)],[(aM,.cells [gQ xQ,I n41]),(tM,fS pS)]⟩) ?_ ?_
    ·refine tR<|rM J J<|ah.qv (eR J) J<|ah.qv (gR J J) J<|rM J J<|gT h J J J (fun h=>?_) (fun h=>?_)
     ·exact rM J J<|rY J J J<|aA h fun zc Gm h=>ba J (iy Gm) cR (.cons .p0 .nil) J J<|rT J J J<|rN<|ae.stop<|aj.lq [0,0] ⟨zc.2.L,zc.2.at_,zc.1,h,J⟩ J J
     ·exact rG J J J J<|rE J J J<|rN<|ae.stop<|aj.lq [0,0] ⟨v35.2.L,v35.2.at_,false,h,J⟩ J J
    ·rintro aC ⟨xQ,n41,Qm,h,rfl⟩
     unfold iO at h
     refine ae.cut (fun aC=>∃ (Bl:List Int) (n45:Int) (Hg:List Signal),jW Bl n45 Hg=some r∧aC=⟨124,[(7,.sl 6 tM 0 Hg.length)],[(aM,.cells [gQ Bl,I n45]),(tM,fS Hg)]⟩) ?_ ?_
     ·refine cB h J (fun h=>?_) (fun h=>?_)
      ·refine aI<|rM J J<|rM J J<|rM J J<|ah.qv (eR J) J<|aA h fun kX J0 h=>ba J (iw J0) cR (.cons .p0 .nil) J J<|aA h fun bD Eh h=>ah.qv (aP J J J Eh) J<|rA J J<|rN<|aA h fun v49 Mn h=>aA h fun v50 OC h=>aA h fun v51 J7 h=>aA h fun Ef J8 h=>ae.fK (id:=20) (A:=[0,0,0,0,0,0,32,96,224,480,1008,0,4080,0,0,16384,49152,114688,245760,524272,0,0,2097152,6291456,14680064,0,33554432,100663296,234881024,0,536870912,1610612736,3758096384,8053063680,16642998272,34357641216,68719476720,137438953457,274877906929,549755813873,1099511627763,2199023255539,4398046511091,8796093022199,17592186044407,35184372088823,70368744177663,140737488355327,281474976710655]) (H0:=[(aM,.cells [gQ kX.2.L,I kX.2.at_]),(tM,fS pS)]) (HH:=fun β=>[(aM,.cells [gQ Ef.2.L,I Ef.2.at_]),(tM,fS (((pS.set kX.1.toNat (⟨v49.1,bD.Kind,bD.Device,bD.aZ,bD.By,bD.bh⟩:Signal)).set kX.1.toNat (⟨v49.1,v50.1,bD.Device,bD.aZ,bD.By,bD.bh⟩:Signal)).set kX.1.toNat (⟨v49.1,v50.1,bD.Device,bD.aZ,v51.1,bD.bh⟩:Signal)))]) 46 mixed J (by kernel_rfl) (by kernel_rfl) [⟨none,some 10,[],fun _=>(aM,.cells [gQ kX.2.L,I kX.2.at_]),none,[]⟩,⟨none,some 39,[8,17,24,28,32],fun _=>(tM,fS pS),none,[]⟩,⟨some 10,some 12,[],fun _=>(aM,.cells [gQ v49.2.L,I v49.2.at_]),none,[]⟩,⟨some 12,some 19,[],fun _=>(aM,.cells [gQ v50.2.L,I v50.2.at_]),none,[]⟩,⟨some 19,some 36,[],fun _=>(aM,.cells [gQ v51.2.L,I v51.2.at_]),none,[]⟩,⟨some 36,none,[],fun _=>(aM,.cells [gQ Ef.2.L,I Ef.2.at_]),none,[]⟩,⟨some 39,some 42,[],fun _=>(tM,fS (pS.set kX.1.toNat (⟨v49.1,bD.Kind,bD.Device,bD.aZ,bD.By,bD.bh⟩:Signal))),none,[]⟩,⟨some 42,some 45,[],fun _=>(tM,fS ((pS.set kX.1.toNat (⟨v49.1,bD.Kind,bD.Device,bD.aZ,bD.By,bD.bh⟩:Signal)).set kX.1.toNat (⟨v49.1,v50.1,bD.Device,bD.aZ,bD.By,bD.bh⟩:Signal))),none,[]⟩,⟨some 45,none,[],fun _=>(tM,fS (((pS.set kX.1.toNat (⟨v49.1,bD.Kind,bD.Device,bD.aZ,bD.By,bD.bh⟩:Signal)).set kX.1.toNat (⟨v49.1,v50.1,bD.Device,bD.aZ,bD.By,bD.bh⟩:Signal)).set kX.1.toNat (⟨v49.1,v50.1,bD.Device,bD.aZ,v51.1,bD.bh⟩:Signal))),none,[]⟩] [] J (by kernel_rfl) J (.cons .p0 (.cons .p0 .nil)) (fun _=>J)<|AT.am 8 J J<|AM.qv (ax J) J<|AM.qv (ax J) J<|AM.qv (ax J) J<|AM.qv (ax J) J<|AM.qv (ax J) J<|AM.qv (ax J) J<|AM.qv (cm J) J<|AM.qv (bR J J) J<|AM.nil<|AT.rd (Rs:=[(tM,fS pS)]) (fun _=>J) J (fun _=>J) (fun _=>J) (eS (g:=Signal.av) J J (.inl .p0) Eh J) J<|AT.am 1 J J<|AM.bU (xs:=([bD.At,(-1:Int),(345686400000:Int)]).map I) J J J J J J<|AM.nil<|AT.A2 (av:=I v49.1) (Ti:=[(aM,.cells [gQ kX.2.L,I kX.2.at_])]) (Pi:=[(aM,.cells [gQ v49.2.L,I v49.2.at_])]) (fun _=>J) (fun _=>J) (fun _=>J) J J J ?_ ?_
       ·exact ba J (cI Mn) cR (.cons .p0 .nil) J J<|ah.nil ⟨_,J,J⟩
       refine AT.am 1 J J<|AM.qv (ax J) J<|AM.nil<|AT.A2 (av:=I v50.1) (Ti:=[(aM,.cells [gQ v49.2.L,I v49.2.at_])]) (Pi:=[(aM,.cells [gQ v50.2.L,I v50.2.at_])]) (fun _=>J) (fun _=>J) (fun _=>J) J J J ?_ ?_
       ·exact ba J (pn OC) cR (.cons .p0 .nil) J J<|ah.nil ⟨_,J,J⟩
       refine AT.am 4 J J<|AM.qv (ax J) J<|AM.qv (ax J) J<|AM.qv (cm J) J<|AM.qv (bR J J) J<|AM.nil<|AT.rd (Rs:=[(tM,fS pS)]) (fun _=>J) J (fun _=>J) (fun _=>J) (eS (g:=Signal.av) J J (.inl .p0) Eh J) J<|AT.am 1 J J<|AM.bU (xs:=([bD.By,([]:aS),([65]:aS)]).map AV.str) J J J J J J<|AM.nil<|AT.A2 (av:=.str v51.1) (Ti:=[(aM,.cells [gQ v50.2.L,I v50.2.at_])]) (Pi:=[(aM,.cells [gQ v51.2.L,I v51.2.at_])]) (fun _=>J) (fun _=>J) (fun _=>J) J J J ?_ ?_
       ·exact ba J (iz J7) cR (.cons .p0 .nil) J J<|ah.nil ⟨_,J,J⟩
       refine AT.am 4 J J<|AM.qv (ax J) J<|AM.qv (ax J) J<|AM.qv (cm J) J<|AM.qv (bR J J) J<|AM.nil<|AT.rd (Rs:=[(tM,fS pS)]) (fun _=>J) J (fun _=>J) (fun _=>J) (eS (g:=Signal.av) J J (.inl .p0) Eh J) J<|AT.am 3 J J<|AM.qv (ax J) J<|AM.qv (cm J) J<|AM.qv (bR J J) J<|AM.nil<|AT.rd (Rs:=[(tM,fS pS)]) (fun _=>J) J (fun _=>J) (fun _=>J) (eS (g:=Signal.av) J J (.inl .p0) Eh J) J<|AT.am 3 J J<|AM.qv (ax J) J<|AM.qv (cm J) J<|AM.qv (bR J J) J<|AM.nil<|AT.rd (Rs:=[(tM,fS pS)]) (fun _=>J) J (fun _=>J) (fun _=>J) (eS (g:=Signal.av) J J (.inl .p0) Eh J) J<|AT.am 3 J J<|AM.qv (aV J J) J<|AM.qv (aV J J) J<|AM.bU (xs:=([bD.bh,(0:Int),bD.At,aN ((aN (bD.At+(2592000000:Int)))+(1:Int))]).map I) J J J J J J<|AM.nil<|AT.A2 (av:=I Ef.1) (Ti:=[(aM,.cells [gQ v51.2.L,I v51.2.at_])]) (Pi:=[(aM,.cells [gQ Ef.2.L,I Ef.2.at_])]) (fun _=>J) (fun _=>J) (fun _=>J) J J J ?_ ?_
       ·exact ba J (cI J8) cR (.cons .p0 .nil) J J<|ah.nil ⟨_,J,J⟩
       refine AT.am 2 J J<|AM.qv (cm J) J<|AM.qv (bR J J) J<|AM.nil<|AT.yY (Ti:=[(tM,fS pS)]) (Pi:=[(tM,fS (pS.set kX.1.toNat (⟨v49.1,bD.Kind,bD.Device,bD.aZ,bD.By,bD.bh⟩:Signal)))]) (fun _=>J) (fun _=>J) (fun _=>J) J J ?_ ?_
       ·exact br (g:=Signal.av) (uB:=(⟨v49.1,bD.Kind,bD.Device,bD.aZ,bD.By,bD.bh⟩:Signal)) J J J J Eh J .p0 J<|ah.nil ⟨_,J⟩
       refine AT.am 2 J J<|AM.qv (cm J) J<|AM.qv (bR J J) J<|AM.nil<|AT.yY (Ti:=[(tM,fS (pS.set kX.1.toNat (⟨v49.1,bD.Kind,bD.Device,bD.aZ,bD.By,bD.bh⟩:Signal)))]) (Pi:=[(tM,fS ((pS.set kX.1.toNat (⟨v49.1,bD.Kind,bD.Device,bD.aZ,bD.By,bD.bh⟩:Signal)).set kX.1.toNat (⟨v49.1,v50.1,bD.Device,bD.aZ,bD.By,bD.bh⟩:Signal)))]) (fun _=>J) (fun _=>J) (fun _=>J) J J ?_ ?_
       ·exact br (g:=Signal.av) (uB:=(⟨v49.1,v50.1,bD.Device,bD.aZ,bD.By,bD.bh⟩:Signal)) J J J J (lP (v:=(⟨v49.1,bD.Kind,bD.Device,bD.aZ,bD.By,bD.bh⟩:Signal)) Eh) J .p0 J<|ah.nil ⟨_,J⟩
       refine AT.am 2 J J<|AM.qv (cm J) J<|AM.qv (bR J J) J<|AM.nil<|AT.yY (Ti:=[(tM,fS ((pS.set kX.1.toNat (⟨v49.1,bD.Kind,bD.Device,bD.aZ,bD.By,bD.bh⟩:Signal)).set kX.1.toNat (⟨v49.1,v50.1,bD.Device,bD.aZ,bD.By,bD.bh⟩:Signal)))]) (Pi:=[(tM,fS (((pS.set kX.1.toNat (⟨v49.1,bD.Kind,bD.Device,bD.aZ,bD.By,bD.bh⟩:Signal)).set kX.1.toNat (⟨v49.1,v50.1,bD.Device,bD.aZ,bD.By,bD.bh⟩:Signal)).set kX.1.toNat (⟨v49.1,v50.1,bD.Device,bD.aZ,v51.1,bD.bh⟩:Signal)))]) (fun _=>J) (fun _=>J) (fun _=>J) J J ?_ ?_
       ·exact br (g:=Signal.av) (uB:=(⟨v49.1,v50.1,bD.Device,bD.aZ,v51.1,bD.bh⟩:Signal)) J J J J (lP (v:=(⟨v49.1,v50.1,bD.Device,bD.aZ,bD.By,bD.bh⟩:Signal)) (lP (v:=(⟨v49.1,bD.Kind,bD.Device,bD.aZ,bD.By,bD.bh⟩:Signal)) Eh)) J .p0 J<|ah.nil ⟨_,J⟩
       exact AT.qS (fun _=>J) fun β=>ah.ghost<|aj.eqs (s:=7) (bZ:=.sl 6 tM 0 (((pS.set kX.1.toNat (⟨v49.1,bD.Kind,bD.Device,bD.aZ,bD.By,bD.bh⟩:Signal)).set kX.1.toNat (⟨v49.1,v50.1,bD.Device,bD.aZ,bD.By,bD.bh⟩:Signal)).set kX.1.toNat (⟨v49.1,v50.1,bD.Device,bD.aZ,v51.1,bD.bh⟩:Signal)).length) J (by simp)<|aj.here<|ah.ghost<|aj.eqs (s:=72) (bZ:=.sl 6 tM 0 (((pS.set kX.1.toNat (⟨v49.1,bD.Kind,bD.Device,bD.aZ,bD.By,bD.bh⟩:Signal)).set kX.1.toNat (⟨v49.1,v50.1,bD.Device,bD.aZ,bD.By,bD.bh⟩:Signal)).set kX.1.toNat (⟨v49.1,v50.1,bD.Device,bD.aZ,v51.1,bD.bh⟩:Signal)).length) J (by simp)<|aj.here<|ah.ghost<|aj.eqs (s:=74) (bZ:=.sl 6 tM 0 (((pS.set kX.1.toNat (⟨v49.1,bD.Kind,bD.Device,bD.aZ,bD.By,bD.bh⟩:Signal)).set kX.1.toNat (⟨v49.1,v50.1,bD.Device,bD.aZ,bD.By,bD.bh⟩:Signal)).set kX.1.toNat (⟨v49.1,v50.1,bD.Device,bD.aZ,v51.1,bD.bh⟩:Signal)).length) J (by simp)<|aj.here<|ah.qv (cm J) J<|ah.qv (bR J J) J<|br (g:=Signal.av) (uB:=(⟨v49.1,v50.1,bD.Device,bD.aZ,v51.1,Ef.1⟩:Signal)) J J J J (lP (v:=(⟨v49.1,v50.1,bD.Device,bD.aZ,v51.1,bD.bh⟩:Signal)) (lP (v:=(⟨v49.1,v50.1,bD.Device,bD.aZ,bD.By,bD.bh⟩:Signal)) (lP (v:=(⟨v49.1,bD.Kind,bD.Device,bD.aZ,bD.By,bD.bh⟩:Signal)) Eh))) J .p1 J<|ah.ghost<|aj.eqs (s:=7) (bZ:=.sl 6 tM 0 ((((pS.set kX.1.toNat (⟨v49.1,bD.Kind,bD.Device,bD.aZ,bD.By,bD.bh⟩:Signal)).set kX.1.toNat (⟨v49.1,v50.1,bD.Device,bD.aZ,bD.By,bD.bh⟩:Signal)).set kX.1.toNat (⟨v49.1,v50.1,bD.Device,bD.aZ,v51.1,bD.bh⟩:Signal)).set kX.1.toNat (⟨v49.1,v50.1,bD.Device,bD.aZ,v51.1,Ef.1⟩:Signal)).length) J (by rw [List.length_set])<|aj.here<|ah.ghost<|aj.eqs (s:=72) (bZ:=.sl 6 tM 0 ((((pS.set kX.1.toNat (⟨v49.1,bD.Kind,bD.Device,bD.aZ,bD.By,bD.bh⟩:Signal)).set kX.1.toNat (⟨v49.1,v50.1,bD.Device,bD.aZ,bD.By,bD.bh⟩:Signal)).set kX.1.toNat (⟨v49.1,v50.1,bD.Device,bD.aZ,v51.1,bD.bh⟩:Signal)).set kX.1.toNat (⟨v49.1,v50.1,bD.Device,bD.aZ,v51.1,Ef.1⟩:Signal)).length) J (by rw [List.length_set])<|aj.here<|ah.ghost<|aj.eqs (s:=74) (bZ:=.sl 6 tM 0 ((((pS.set kX.1.toNat (⟨v49.1,bD.Kind,bD.Device,bD.aZ,bD.By,bD.bh⟩:Signal)).set kX.1.toNat (⟨v49.1,v50.1,bD.Device,bD.aZ,bD.By,bD.bh⟩:Signal)).set kX.1.toNat (⟨v49.1,v50.1,bD.Device,bD.aZ,v51.1,bD.bh⟩:Signal)).set kX.1.toNat (⟨v49.1,v50.1,bD.Device,bD.aZ,v51.1,Ef.1⟩:Signal)).length) J (by rw [List.length_set])<|aj.here<|rN<|ae.stop<|aj.lq [0,0] ⟨Ef.2.L,Ef.2.at_,(((pS.set kX.1.toNat (⟨v49.1,bD.Kind,bD.Device,bD.aZ,bD.By,bD.bh⟩:Signal)).set kX.1.toNat (⟨v49.1,v50.1,bD.Device,bD.aZ,bD.By,bD.bh⟩:Signal)).set kX.1.toNat (⟨v49.1,v50.1,bD.Device,bD.aZ,v51.1,bD.bh⟩:Signal)).set kX.1.toNat (⟨v49.1,v50.1,bD.Device,bD.aZ,v51.1,Ef.1⟩:Signal),h,J⟩ J J
      ·exact tK<|ae.stop<|aj.lq [0,0] ⟨xQ,n41,pS,h,J⟩ J J
     ·rintro aC ⟨Bl,n45,Hg,h,rfl⟩
      unfold jW at h
      refine aI<|rM J J<|rA J J<|rN<|ae.ret<|?_
      cases h
      exact hH J [0,0] J ⟨tM,J,J⟩
theorem Ce [GI:bA] {aM:Bk} {aa:ak} {r:Int×ak} (h:qx aa=some r):aG Tryz.prog 10 [.ptr aM 0] [(aM,.cells [gQ aa.L,I aa.at_])] (T0 ([(aM,.cells [gQ r.2.L,I r.2.at_])]) (I r.1)):=by
 unfold qx at h
 refine aG.dD ?_
 refine aG.bw Tryz.func10 J Tryz.ntmps10 Tryz.results10 J J ?_
 refine aI<|rA J J<|rN<|aI<|rM J J<|rM J J<|aA h fun v1 e1 h=>ba J (iw e1) cR (.cons .p0 .nil) J J<|rM J J<|aA h fun v2 e2 h=>ba J (iw e2) cR (.cons .p0 .nil) J J<|rM J J<|aY (xs:=([(345686399999:Int),(-1:Int),(345686400000:Int)]).map I) J J J J J J<|aA h fun v3 e3 h=>ba J (cI e3) cR (.cons .p0 .nil) J J<|aY (xs:=([(0:Int),(5:Int),(20:Int),(40:Int),(60:Int),(80:Int),(120:Int),v1.1,v2.1,v3.1]).map I) J J J J J J<|aA h fun v4 e4 h=>ba J (cI e4) cR (.cons .p0 .nil) J J<|rA J J<|rN<|ae.ret<|?_
 cases h
 exact hH J [0] J ⟨J,J⟩
theorem vO [GI:bA] {aa:Int} {ai:Int} {aq:Int} {r:Bool} (h:ze aa ai aq=r):Pu Tryz.prog 77 [I aa,I ai,I aq] (.bool r):=by
 unfold ze at h
 refine aG.bw Tryz.func77 J Tryz.ntmps77 Tryz.results77 J J ?_
 refine aI<|rA J J<|rN<|tS<|ae.cut (fun aC=>∃ (c1:Bool),DG c1=r∧aC=⟨15,[(6,.bool c1)],[]⟩) ?_ ?_
 ·refine tR<|rM J J<|rM J J<|ah.qv (oW J J) J<|rM J J<|ah.bJ J J J (fun hc=>?_) (fun hc=>?_)
  ·rw [lB hc] at h
   exact rM J J<|rY J J J<|rM J J<|rY J J J<|ah.qv (oW J J) J<|rT J J J<|rA J J<|rN<|ae.stop<|aj.lq [] ⟨decide (aa≤aq),h,J⟩ J J
  ·rw [lC hc] at h
   exact rG J J J J<|rG J J J J<|rE J J J<|rA J J<|rN<|ae.stop<|aj.lq [] ⟨false,h,J⟩ J J
 ·rintro aC ⟨c1,h,rfl⟩
  unfold DG at h
  refine ae.ret<|?_
  obtain rfl:=h
  exact hP J J
theorem Cf [GI:bA] {aa:bW} {r:Int} (h:oI aa=r):Pu Tryz.prog 67 [bW.av aa] (I r):=by
 unfold oI at h
 refine aG.bw Tryz.func67 J Tryz.ntmps67 Tryz.results67 J J ?_
 refine aI<|dC J J J J fun b1=>rA J J<|rN<|tS<|tS<|ae.cut (fun aC=>∃ (c2:Bool),pe c2=r∧aC=⟨19,[(18,.bool c2)],[]⟩) ?_ ?_
 ·refine tR<|rF J J J<|rL J J .p0 J J<|bc J (vO J) cR J<|ah.qv (dB J) J<|rM J J<|ah.guard J J J (fun hc=>?_) (fun hc=>?_)
  ·rw [HN hc] at h
   refine rF J J J<|rY J J J<|rL J J .p0 J J<|rY J J J<|bc J (vO J) cR J<|rY J J J<|ah.qv (dB J) J<|rE J J J<|rM J J<|ah.guard J J J (fun hc=>?_) (fun hc=>?_)
   ·rw [HN hc] at h
    exact rF J J J<|rY J J J<|rL J J .p0 J J<|rY J J J<|bc J (vO J) cR J<|rY J J J<|ah.qv (dB J) J<|rE J J J<|rN<|ae.stop<|aj.lq [] ⟨!(ze aa.Calm (1:Int) (2592000000:Int)),h,J⟩ J J
   ·rw [HM hc] at h
    exact rG J J J J<|rG J J J J<|rG J J J J<|rT J J J<|rN<|ae.stop<|aj.lq [] ⟨true,h,J⟩ J J
  ·rw [HM hc] at h
   exact rG J J J J<|rG J J J J<|rG J J J J<|rT J J J<|rM J J<|rG J J J J<|rG J J J J<|rG J J J J<|rG J J J J<|rT J J J<|rN<|ae.stop<|aj.lq [] ⟨true,h,J⟩ J J
 ·rintro aC ⟨c2,h,rfl⟩
  unfold pe at h
  refine cB h J (fun h=>?_) (fun h=>?_)
  ·refine aI<|rA J J<|rN<|ae.ret<|?_
   obtain rfl:=h
   exact hP J J
  ·refine tK<|aI<|rA J J<|rN<|ae.ret<|?_
   obtain rfl:=h
   exact hP J J
theorem uH {aa:aS} {r:Bool} (h:vH aa=some r):Pu Tryz.prog 76 [.str aa] (.bool r):=by
 unfold vH at h
 refine aG.bw Tryz.func76 J Tryz.ntmps76 Tryz.results76 J J ?_
 refine aI<|rA J J<|rN<|tS<|ae.cut (fun aC=>∃ (c1:Bool),ub c1=some r∧aC=⟨17,[(2,.bool c1)],[]⟩) ?_ ?_
 ·refine tR<|rM J J<|ah.qv (yO J) J<|bc J (vO J) cR J<|rM J J<|ah.guard J J J (fun hc=>?_) (fun hc=>?_)
  ·refine have h:=rO hc h;rM J J<|rY J J J<|aA h fun v2 e1 h=>bc J (Bj e1) cR J<|rY J J J<|ah.qv (uX J J) J<|rT J J J<|rM J J<|gT h J J J (fun h=>?_) (fun h=>?_)
   ·exact rM J J<|rY J J J<|aA h fun c3 e2 h=>ah.qv (ta J J e2) J<|rY J J J<|bc J (wP J) cR J<|rY J J J<|ah.qv (sn J J) J<|rT J J J<|rA J J<|rN<|ae.stop<|aj.lq [] ⟨decide ((0:Int)≤(uF ([97,98,99,100,101,102,103,104,105,106,107,108,109,110,111,112,113,114,115,116,117,118,119,120,121,122]:aS) (c3.toNat:Int))),h,J⟩ J J
   ·exact rG J J J J<|rG J J J J<|rG J J J J<|rE J J J<|rA J J<|rN<|ae.stop<|aj.lq [] ⟨false,h,J⟩ J J
  ·exact have h:=vz hc h;rG J J J J<|rG J J J J<|rE J J J<|rM J J<|rG J J J J<|rG J J J J<|rG J J J J<|rG J J J J<|rE J J J<|rA J J<|rN<|ae.stop<|aj.lq [] ⟨false,h,J⟩ J J
 ·rintro aC ⟨c1,h,rfl⟩
  unfold ub at h
  refine ae.ret<|?_
  cases h
  exact hP J J
theorem DJ [GI:bA] {aa:cP} {ai:aS} {r:Bool} (h:mO aa ai=r):Pu Tryz.prog 167 [cP.av aa,.gg [.str ai]] (.bool r):=by
 unfold mO at h
 refine aG.bw Tryz.func167 J Tryz.ntmps167 Tryz.results167 J J ?_
 refine aI<|dC J J J J fun b1=>rA J J<|rN<|aI<|rF J J J<|rL J J .p0 J J<|ah.qv (aU J J J) J<|ah.qv (uX J J) J<|rA J J<|rN<|ae.ret<|?_
 obtain rfl:=h
 exact hP J J
theorem qW [GI:bA] {aa:List cP} {dH:cP→Option Bool} {cu:FuncId} [bq Tryz.prog cu] {dP:List AV} (kJ:∀ {y0:_} {u:Bool},dH y0=some u→Pu Tryz.prog cu (cP.av y0 :: dP) (.bool u)) {r:Int} (h:gq aa dH=some r):Pu Tryz.prog 166 [Gh aa,.func (.func cu) dP] (I r):=by
 unfold gq at h
 refine aG.bw Tryz.func166 J Tryz.ntmps166 Tryz.results166 J J ?_
 refine aI<|rA J J<|rN<|tS<|aI<|rM J J<|ah.qv (ey J) J<|rM J J<|rN<|ae.block<|ae.bS (fun x:Int=>fu aa dH x) (fun x aC=>aC=⟨19,[(0,Gh aa),(1,.func (.func cu) dP),(7,I (aa.length:Int)),(8,I x)],[]⟩) h ?_ ?_
 ·exact aj.lq [] J J J
 ·intro n2 z1 aC J1 dL h jF fP
  obtain rfl:=dL
  replace h:fu aa dH n2=some z1:=h
  unfold fu at h
  refine aI<|ah.qv (bB J J) J<|rN<|tS<|cD h J (fun h=>?_) (fun h=>?_)
  ·refine tK<|tS<|ae.block<|aI<|rM J J<|rA J J<|rN<|aI<|rM J J<|rM J J<|rM J J<|aA h fun v3 e1 h=>ah.qv (bO J J J e1 J J) J<|ah.qv (bn J J J) J<|aA h fun v4 e2 h=>so J J (kJ e2) cR J<|rN<|cB h J (fun h=>?_) (fun h=>?_)
   ·refine aI<|rM J J<|rA J J<|rN<|ae.ret<|have h:=bP h fP;?_
    cases h
    exact hP J J
   ·refine tK<|ae.cd<|tR<|ah.qv (aV J J) J<|rM J J<|rN<|ae.stop<|?_
    cases h
    exact jF _ _ J<|aj.lq [] J J J
  ·refine ae.exit J<|have h:=bP h fP;aI<|rA J J<|rN<|ae.ret<|?_
   cases h
   exact hP J J
theorem qX [GI:bA] {aa:List aS} {ai:aS} {r:Int} (h:jy aa ai=some r):Pu Tryz.prog 165 [IE aa,.str ai] (I r):=by
 unfold jy at h
 refine aG.bw Tryz.func165 J Tryz.ntmps165 Tryz.results165 J J ?_
 refine aI<|rA J J<|rN<|tS<|aI<|rM J J<|ah.qv (ey J) J<|rM J J<|rN<|ae.block<|ae.bS (fun x:Int=>fw aa ai x) (fun x aC=>aC=⟨19,[(0,IE aa),(1,.str ai),(7,I (aa.length:Int)),(8,I x)],[]⟩) h ?_ ?_
 ·exact aj.lq [] J J J
 ·intro n2 z1 aC J1 dL h jF fP
  obtain rfl:=dL
  replace h:fw aa ai n2=some z1:=h
  unfold fw at h
  refine aI<|ah.qv (bB J J) J<|rN<|tS<|cD h J (fun h=>?_) (fun h=>?_)
  ·refine tK<|tS<|ae.block<|aI<|rM J J<|rA J J<|rN<|aI<|rM J J<|rM J J<|rM J J<|aA h fun v3 e1 h=>ah.qv (bO J J J e1 J J) J<|ah.qv (aU J J J) J<|ah.qv (uX J J) J<|rN<|cD h J (fun h=>?_) (fun h=>?_)
   ·refine aI<|rM J J<|rA J J<|rN<|ae.ret<|have h:=bP h fP;?_
    cases h
    exact hP J J
   ·refine tK<|ae.cd<|tR<|ah.qv (aV J J) J<|rM J J<|rN<|ae.stop<|?_
    cases h
    exact jF _ _ J<|aj.lq [] J J J
  ·refine ae.exit J<|have h:=bP h fP;aI<|rA J J<|rN<|ae.ret<|?_
   cases h
   exact hP J J
theorem kK [GI:bA] {aa:List aS} {ai:aS} {r:Bool} (h:cx aa ai=some r):Pu Tryz.prog 116 [IE aa,.str ai] (.bool r):=by
 unfold cx at h
 refine aG.bw Tryz.func116 J Tryz.ntmps116 Tryz.results116 J J ?_
 refine aI<|rA J J<|rN<|aI<|rM J J<|rM J J<|aA h fun v1 e1 h=>bc J (qX e1) cR J<|ah.qv (sn J J) J<|rA J J<|rN<|ae.ret<|?_
 cases h
 exact hP J J
theorem zi [GI:bA] {aa:bd} {ai:aS} {r:(List aS)} (h:te aa ai=some r):aG Tryz.prog 117 [bd.av aa,.str ai] [] (T1 (fun lV=>[(lV,IF r)]) (fun lV=>.sl 1 lV 0 r.length)):=by
 unfold te at h
 refine aG.dD ?_
 refine aG.bw Tryz.func117 J Tryz.ntmps117 Tryz.results117 J J ?_
 refine aI<|dC J J J J fun b1=>dC J J J J fun b2=>rA J J<|rN<|aI<|rA J J<|rN<|ae.block<|ae.bS (fun x:aS×(List aS)=>kC aa x.1 x.2) (fun x aC=>∃ (b7:Bk),aC=⟨34,[(2,.ptr b1 0),(3,.ptr b2 0),(5,.sl 1 b7 0 x.2.length)],[(b1,.cells (xB aa)),(b2,.cells [.str x.1]),(b7,IF x.2)]⟩) h ?_ ?_
 ·exact aj.arr (s:=5) 1 J fun b9=>aj.lq [2,1,0] ⟨b9,J⟩ J J
 ·intro x z1 aC J1 dL h jF fP
  obtain ⟨q6,l8⟩:=x
  obtain ⟨b7,rfl⟩:=dL
  replace h:kC aa q6 l8=some z1:=h
  unfold kC at h
  refine ae.block<|aI<|rF J J J<|rL J J .p0 J J<|ah.qv (ow J) J<|aA h fun v10 e1 h=>gi J (qW (fun e=>DJ (Option.some.inj e)) e1) (.cons (.co (.refl _)) (.cons (.AO _ _ _ (.cons (.B4 _ _ _ .p1 (.cons (.co (.refl _)) .nil)) .nil)) .nil)) J J<|rA J J<|rN<|tS<|tS<|ae.cut (fun aC=>∃ (Fa:Bool),sw aa l8 v10 Fa=some z1∧aC=⟨34,[(2,.ptr b1 0),(3,.ptr b2 0),(5,.sl 1 b7 0 l8.length),(6,I v10),(22,.bool Fa)],[(b1,.cells (xB aa)),(b2,.cells [.str q6]),(b7,IF l8)]⟩) ?_ ?_
  ·refine tR<|rM J J<|ah.qv (bB J J) J<|rM J J<|gF h J J J (fun h=>?_) (fun h=>?_)
   ·exact rM J J<|rY J J J<|rF J J J<|rY J J J<|rL J J .p0 J J<|rY J J J<|rM J J<|rY J J J<|aA h fun v12 e2 h=>ah.qv (bO J J J e2 J J) J<|rY J J J<|ah.qv (bb J J) J<|rY J J J<|ah.qv (aU J J J) J<|rY J J J<|aA h fun gb e3 h=>gi J (kK e3) (.cons (nJ.qR .p2) (.cons (.co (.refl _)) .nil)) J J<|rE J J J<|rN<|ae.stop<|aj.lq [0,0,0] ⟨gb,h,J⟩ J J
   ·exact rG J J J J<|rG J J J J<|rG J J J J<|rG J J J J<|rG J J J J<|rG J J J J<|rG J J J J<|rT J J J<|rN<|ae.stop<|aj.lq [0,0,0] ⟨true,h,J⟩ J J
  ·rintro aC ⟨Fa,h,rfl⟩
   unfold sw at h
   refine cB h J (fun h=>?_) (fun h=>?_)
   ·refine aI<|rM J J<|rA J J<|rN<|ae.ret<|have h:=bP h fP;?_
    cases h
    exact hH J [2] J ⟨b7,J,J⟩
   ·refine tK<|aI<|rF J J J<|rL J J .p0 J J<|rM J J<|aA h fun gh e4 h=>ah.qv (bO J J J e4 J J) J<|ah.qv (bb J J) J<|ah.qv (aU J J J) J<|aE J J J J .p1 J J<|rN<|tR<|rM J J<|rL J J .p1 J J<|aY (xs:=([gh.fk]:List aS).map AV.str) J J J J J J<|aA h fun oh e5 h=>dq (g:=AV.str) J J J J J J J J (.list _) e5 (fun _=>.p2) J fun CV=>rA J J<|rN<|ae.cd<|ae.stop<|?_
    cases h
    exact jF _ _ J<|aj.lq [0,0,0] ⟨CV,J⟩ J J
theorem Bs {aa:bd} {r:Int} (h:pf aa=some r):Pu Tryz.prog 51 [bd.av aa] (I r):=by
 unfold pf at h
 refine aG.bw Tryz.func51 J Tryz.ntmps51 Tryz.results51 J J ?_
 refine aI<|dC J J J J fun b1=>rA J J<|rN<|tS<|aI<|rF J J J<|ah.qv (oe J J .p0 J J) J<|bc J (Cf J) cR J<|rA J J<|rN<|aI<|rM J J<|ah.qv (jH J J) J<|rN<|cD h J (fun h=>?_) (fun h=>?_)
 ·refine aI<|rM J J<|rA J J<|rN<|ae.ret<|?_
  cases h
  exact hP J J
 ·refine tK<|tS<|aI<|rF J J J<|rL J J .p0 J J<|ah.qv (ey J) J<|ah.qv (gR J J) J<|rN<|cD h J (fun h=>?_) (fun h=>?_)
  ·refine aI<|rA J J<|rN<|ae.ret<|?_
   cases h
   exact hP J J
  ·refine tK<|tS<|aI<|rF J J J<|rL J J .p0 J J<|ah.qv (ey J) J<|rM J J<|rN<|ae.block<|ae.bS (fun x:Int=>fN aa x) (fun x aC=>aC=⟨106,[(1,.ptr b1 0),(21,Gh aa.Links),(22,I (aa.Links.length:Int)),(23,I x)],[(b1,.cells (xB aa))]⟩) h ?_ ?_
   ·exact aj.lq [0] J J J
   ·intro n3 z1 aC J1 dL h jF fP
    obtain rfl:=dL
    replace h:fN aa n3=some z1:=h
    unfold fN at h
    refine aI<|ah.qv (bB J J) J<|rN<|tS<|cD h J (fun h=>?_) (fun h=>?_)
    ·refine tK<|tS<|ae.block<|aI<|rM J J<|aA h fun v4 e1 h=>ah.qv (bO J J J e1 J J) J<|ah.qv (bn J J J) J<|bT J J J J fun b5=>rA J J<|aE J J J J .p0 J J<|rN<|tS<|tS<|ae.cut (fun aC=>∃ (c6:Bool),jJ aa n3 v4 c6=some z1∧aC=⟨106,[(1,.ptr b1 0),(4,I n3),(5,.ptr b5 0),(21,Gh aa.Links),(22,I (aa.Links.length:Int)),(23,I n3),(37,.bool c6)],[(b1,.cells (xB aa)),(b5,.cells [.str v4.Device,.str v4.fk])]⟩) ?_ ?_
     ·refine tR<|rF J J J<|rL J J .p0 J J<|aA h fun v7 e2 h=>bc J (uH e2) cR J<|ah.qv (dB J) J<|rM J J<|ah.guard J J J (fun hc=>?_) (fun hc=>?_)
      ·exact have h:=vz hc h;rF J J J<|rY J J J<|rL J J .p0 J J<|rY J J J<|aA h fun v8 e3 h=>bc J (uH e3) cR J<|rY J J J<|ah.qv (dB J) J<|rE J J J<|rN<|ae.stop<|aj.lq [1,0] ⟨!v8,h,J⟩ J J
      ·exact have h:=rO hc h;rG J J J J<|rG J J J J<|rG J J J J<|rT J J J<|rN<|ae.stop<|aj.lq [1,0] ⟨true,h,J⟩ J J
     ·rintro aC ⟨c6,h,rfl⟩
      unfold jJ at h
      refine cB h J (fun h=>?_) (fun h=>?_)
      ·refine aI<|rA J J<|rN<|ae.ret<|have h:=bP h fP;?_
       cases h
       exact hP J J
      ·refine tK<|tS<|ae.cut (fun aC=>∃ (c9:Bool),mf n3 c9=some z1∧aC=⟨106,[(1,.ptr b1 0),(21,Gh aa.Links),(22,I (aa.Links.length:Int)),(23,I n3),(51,.bool c9)],[(b1,.cells (xB aa))]⟩) ?_ ?_
       ·refine ae.bV (id:=11) (A:=[0,1,3,7,15,7,39,7,135,487,999,2023,4095,8191]) 14 mixed J (by kernel_rfl) (by kernel_rfl)<|AM.qv (ax J) J<|AM.qv (gR J J) J<|AM.qv (ax J) J<|AM.bJ J J J (fun hc=>?_) (fun hc=>?_)
        ·exact have h:=rO hc h;AM.qv (au J J) J<|AM.aF J J J<|AM.qv (aB J J .p1 J) J<|AM.aF J J J<|AM.qv (au J J) J<|AM.aF J J J<|AM.qv (aB J J .p0 J) J<|AM.aF J J J<|AM.qv (ax J) J<|AM.aF J J J<|AM.qv (bF J J) J<|AM.aF J J J<|aA h fun v10 e4 h=>AM.qv (bO J J J e4 J J) J<|AM.aF J J J<|AM.qv (bb J J) J<|AM.aF J J J<|AM.qv (aU J J J) J<|AM.aF J J J<|AM.qv (Du J J) J<|AM.qv (jv J J) J<|AM.nil<|rN<|ae.stop<|aj.lq [0] ⟨Op.bytesLess v4.Device v10.Device||v4.Device==v10.Device,h,J⟩ J J
        ·exact have h:=yU hc h;AM.aJ J J J J<|AM.aJ J J J J<|AM.aJ J J J J<|AM.aJ J J J J<|AM.aJ J J J J<|AM.aJ J J J J<|AM.aJ J J J J<|AM.aJ J J J J<|AM.aJ J J J J<|AM.qv (iX J J) J<|AM.nil<|rN<|ae.stop<|aj.lq [0] ⟨false,h,J⟩ J J
       ·rintro aC ⟨c9,h,rfl⟩
        unfold mf at h
        refine cB h J (fun h=>?_) (fun h=>?_)
        ·refine aI<|rA J J<|rN<|ae.ret<|have h:=bP h fP;?_
         cases h
         exact hP J J
        ·refine tK<|ae.cd<|tR<|ah.qv (aV J J) J<|rM J J<|rN<|ae.stop<|?_
         cases h
         exact jF _ _ J<|aj.lq [0] J J J
    ·refine ae.exit J<|have h:=bP h fP;tS<|aI<|rF J J J<|rL J J .p0 J J<|ah.qv (ey J) J<|rM J J<|rN<|ae.block<|ae.bS (fun x:Int=>fM aa x) (fun x aC=>aC=⟨106,[(1,.ptr b1 0),(54,Gh aa.Links),(55,I (aa.Links.length:Int)),(56,I x)],[(b1,.cells (xB aa))]⟩) h ?_ ?_
     ·exact aj.lq [0] J J J
     ·intro n12 z2 aC J2 dL h xC wW
      obtain rfl:=dL
      replace h:fM aa n12=some z2:=h
      unfold fM at h
      refine aI<|ah.qv (bB J J) J<|rN<|tS<|cD h J (fun h=>?_) (fun h=>?_)
      ·refine tK<|tS<|ae.block<|aI<|aA h fun gb e5 h=>ah.qv (bO J J J e5 J J) J<|ah.qv (bn J J J) J<|bT J J J J fun ux=>aE J J J J .p0 J J<|rN<|tS<|aA h fun rS e6 h=>ae.fK (id:=17) (A:=[0,0,2,7,0,16,63]) (H0:=[]) (HH:=fun β=>[((β 3),IF rS),(ux,.cells [.str gb.Device,.str gb.fk]),(b1,.cells (xB aa))]) 6 mixed J (by kernel_rfl) (by kernel_rfl) [⟨some 3,none,[],fun b=>(b,IF rS),none,[]⟩] [3] J (by kernel_rfl) J .nil (fun _=>J)<|AT.am 3 J J<|AM.qv (aL J J .p1 J) J<|AM.qv (au J J) J<|AM.qv (aB J J .p0 J) J<|AM.nil<|AT.B7 (V:=fun b=>.sl 1 b 0 rS.length) (Ti:=[]) (Pi:=fun b=>[(b,IF rS)]) (fun _=>J) (fun _=>J) (fun _ _=>J) J (fun _=>J) J J J ?_ ?_
       ·exact ik J (zi e6) cR .nil (fun _=>J) J fun CV=>ah.nil ⟨CV,_,J,J⟩
       refine AT.am 2 J J<|AM.qv (au J J) J<|AM.qv (aB J J .p0 J) J<|AM.nil<|AT.qS (fun _=>J) fun β=>?_
       generalize β 3=CV
       clear β
       refine aA h fun v17 e7 h=>gi J (kK e7) (.cons (nJ.qR .p0) (.cons (.co (.refl _)) .nil)) J J<|rN<|cB h J (fun h=>?_) (fun h=>?_)
       ·refine aI<|rA J J<|rN<|ae.ret<|have h:=bP h wW;?_
        cases h
        exact hP J J
       ·refine tK<|ae.cd<|tR<|ah.qv (aV J J) J<|rM J J<|rN<|ae.stop<|?_
        cases h
        exact xC _ _ J<|aj.lq [2] J J J
      ·refine ae.exit J<|have h:=bP h wW;?_
       unfold om at h
       refine tS<|aI<|rF J J J<|rL J J .p0 J J<|ah.qv (ey J) J<|ah.qv (gR J J) J<|rN<|cD h J (fun h=>?_) (fun h=>?_)
       ·refine aI<|rA J J<|rN<|ae.ret<|?_
        cases h
        exact hP J J
       ·refine tK<|tS<|aI<|rF J J J<|rL J J .p0 J J<|ah.qv (ey J) J<|rM J J<|rN<|ae.block<|ae.bS (fun x:Int=>gE aa x) (fun x aC=>aC=⟨106,[(1,.ptr b1 0),(73,Mi aa.aW),(74,I (aa.aW.length:Int)),(75,I x)],[(b1,.cells (xB aa))]⟩) h ?_ ?_
        ·exact aj.lq [0] J J J
        ·intro n19 z3 aC J3 dL h H9 DI
         obtain rfl:=dL
         replace h:gE aa n19=some z3:=h
         unfold gE at h
         refine aI<|ah.qv (bB J J) J<|rN<|tS<|cD h J (fun h=>?_) (fun h=>?_)
         ·refine tK<|tS<|ae.block<|aI<|rM J J<|aA h fun v20 e8 h=>ah.qv (bO J J J e8 J J) J<|ah.qv (bn J J J) J<|bT J J J J fun Bp=>rA J J<|aE J J J J .p0 J J<|rN<|ae.block<|aI<|rF J J J<|rL J J .p0 J J<|aA h fun v22 e9 h=>bc J (uH e9) cR J<|ah.qv (dB J) J<|rA J J<|rN<|cB h J (fun h=>?_) (fun h=>?_)
          ·refine aI<|rA J J<|rN<|ae.ret<|have h:=bP h DI;?_
           cases h
           exact hP J J
          ·refine tS<|ae.cut (fun aC=>∃ (Qn:Bool),jK n19 v20 Qn=some z3∧aC=⟨106,[(1,.ptr b1 0),(9,.ptr Bp 0),(73,Mi aa.aW),(74,I (aa.aW.length:Int)),(75,I n19),(85,.bool Qn)],[(b1,.cells (xB aa)),(Bp,.cells [.str v20.aZ,I v20.Level,.bool v20.o1])]⟩) ?_ ?_
           ·refine ae.bV (id:=27) (A:=[0,1,3,7,15,7,39,7,135,487,999,2023,4095,8191,16383]) 15 mixed J (by kernel_rfl) (by kernel_rfl)<|AM.qv (ax J) J<|AM.qv (gR J J) J<|AM.qv (ax J) J<|AM.bJ J J J (fun hc=>?_) (fun hc=>?_)
            ·exact have h:=rO hc h;AM.qv (au J J) J<|AM.aF J J J<|AM.qv (aB J J .p0 J) J<|AM.aF J J J<|AM.qv (au J J) J<|AM.aF J J J<|AM.qv (aB J J .p1 J) J<|AM.aF J J J<|AM.qv (ax J) J<|AM.aF J J J<|AM.qv (bF J J) J<|AM.aF J J J<|aA h fun v24 yl h=>AM.qv (bO J J J yl J J) J<|AM.aF J J J<|AM.qv (bb J J) J<|AM.aF J J J<|AM.qv (aU J J J) J<|AM.aF J J J<|AM.qv (Du J J) J<|AM.qv (jv J J) J<|AM.qv (c0 J) J<|AM.nil<|rN<|ae.stop<|aj.lq [1,0] ⟨Op.bytesLess v20.aZ v24.aZ||v20.aZ==v24.aZ,h,J⟩ J J
            ·exact have h:=yU hc h;AM.aJ J J J J<|AM.aJ J J J J<|AM.aJ J J J J<|AM.aJ J J J J<|AM.aJ J J J J<|AM.aJ J J J J<|AM.aJ J J J J<|AM.aJ J J J J<|AM.aJ J J J J<|AM.qv (iX J J) J<|AM.qv (c0 J) J<|AM.nil<|rN<|ae.stop<|aj.lq [1,0] ⟨false,h,J⟩ J J
           ·rintro aC ⟨Qn,h,rfl⟩
            unfold jK at h
            refine cB h J (fun h=>?_) (fun h=>?_)
            ·refine aI<|rA J J<|rN<|ae.ret<|have h:=bP h DI;?_
             cases h
             exact hP J J
            ·refine aI<|rF J J J<|rL J J .p1 J J<|bc J (vO J) cR J<|ah.qv (dB J) J<|rA J J<|rN<|cB h J (fun h=>?_) (fun h=>?_)
             ·refine aI<|rA J J<|rN<|ae.ret<|have h:=bP h DI;?_
              cases h
              exact hP J J
             ·refine tK<|ae.cd<|ae.cd<|tR<|ah.qv (aV J J) J<|rM J J<|rN<|ae.stop<|?_
              cases h
              exact H9 _ _ J<|aj.lq [0] J J J
         ·refine ae.exit J<|have h:=bP h DI;aI<|rA J J<|rN<|ae.ret<|?_
          cases h
          exact hP J J
theorem oC [GI:bA] {aa:Int} {ai:Int} {aq:Int} {r:Bool} (h:mP aa ai aq=r):Pu Tryz.prog 98 [I aa,I ai,I aq] (.bool r):=by
 unfold mP at h
 refine aG.bw Tryz.func98 J Tryz.ntmps98 Tryz.results98 J J ?_
 refine aI<|rA J J<|rN<|tS<|ae.cut (fun aC=>∃ (c1:Bool),vI c1=r∧aC=⟨15,[(6,.bool c1)],[]⟩) ?_ ?_
 ·refine tR<|rM J J<|rM J J<|ah.qv (bB J J) J<|rM J J<|ah.fU J J J (fun hc=>?_) (fun hc=>?_)
  ·rw [Ae hc] at h
   exact rM J J<|rY J J J<|rM J J<|rY J J J<|ah.qv (gR J J) J<|rE J J J<|rA J J<|rN<|ae.stop<|aj.lq [] ⟨decide (aq < aa),h,J⟩ J J
  ·rw [Ad hc] at h
   exact rG J J J J<|rG J J J J<|rT J J J<|rA J J<|rN<|ae.stop<|aj.lq [] ⟨true,h,J⟩ J J
 ·rintro aC ⟨c1,h,rfl⟩
  unfold vI at h
  refine ae.ret<|?_
  obtain rfl:=h
  exact hP J J
theorem yn [GI:bA] {aa:bW} {r:Int} (h:jL aa=r):Pu Tryz.prog 118 [bW.av aa] (I r):=by
 unfold jL at h
 refine aG.bw Tryz.func118 J Tryz.ntmps118 Tryz.results118 J J ?_
 refine aI<|dC J J J J fun b1=>rA J J<|rN<|tS<|tS<|ae.cut (fun aC=>∃ (c2:Bool),lR c2=r∧aC=⟨16,[(15,.bool c2)],[]⟩) ?_ ?_
 ·refine tR<|rF J J J<|rL J J .p0 J J<|bc J (oC J) cR J<|rM J J<|ah.guard J J J (fun hc=>?_) (fun hc=>?_)
  ·rw [HN hc] at h
   refine rF J J J<|rY J J J<|rL J J .p0 J J<|rY J J J<|bc J (oC J) cR J<|rE J J J<|rM J J<|ah.guard J J J (fun hc=>?_) (fun hc=>?_)
   ·rw [HN hc] at h
    exact rF J J J<|rY J J J<|rL J J .p0 J J<|rY J J J<|bc J (oC J) cR J<|rE J J J<|rN<|ae.stop<|aj.lq [] ⟨(mP aa.Calm (1:Int) (2592000000:Int)),h,J⟩ J J
   ·rw [HM hc] at h
    exact rG J J J J<|rG J J J J<|rT J J J<|rN<|ae.stop<|aj.lq [] ⟨true,h,J⟩ J J
  ·rw [HM hc] at h
   exact rG J J J J<|rG J J J J<|rT J J J<|rM J J<|rG J J J J<|rG J J J J<|rG J J J J<|rT J J J<|rN<|ae.stop<|aj.lq [] ⟨true,h,J⟩ J J
 ·rintro aC ⟨c2,h,rfl⟩
  unfold lR at h
  refine cB h J (fun h=>?_) (fun h=>?_)
  ·refine aI<|rA J J<|rN<|ae.ret<|?_
   obtain rfl:=h
   exact hP J J
  ·refine tK<|aI<|rA J J<|rN<|ae.ret<|?_
   obtain rfl:=h
   exact hP J J
theorem kG [GI:bA] {aa:aS} {r:Bool} (h:jY aa=some r):Pu Tryz.prog 90 [.str aa] (.bool r):=by
 unfold jY at h
 refine aG.bw Tryz.func90 J Tryz.ntmps90 Tryz.results90 J J ?_
 refine aI<|rA J J<|rN<|tS<|tS<|ae.cut (fun aC=>∃ (c1:Bool),mR aa c1=some r∧aC=⟨54,[(0,.str aa),(21,.bool c1)],[]⟩) ?_ ?_
 ·refine tR<|rM J J<|ah.qv (uX J J) J<|rM J J<|gF h J J J (fun h=>?_) (fun h=>?_)
  ·refine rM J J<|rY J J J<|ah.qv (yO J) J<|rY J J J<|ah.qv (gR J J) J<|rE J J J<|rM J J<|gF h J J J (fun h=>?_) (fun h=>?_)
   ·refine rM J J<|rY J J J<|aA h fun c2 e1 h=>ah.qv (ta J J e1) J<|rY J J J<|ah.qv (bB J J) J<|rE J J J<|rM J J<|gF h J J J (fun h=>?_) (fun h=>?_)
    ·exact rM J J<|rY J J J<|aA h fun c3 e2 h=>ah.qv (ta J J e2) J<|rY J J J<|ah.qv (gR J J) J<|rE J J J<|rN<|ae.stop<|aj.lq [] ⟨decide ((122:Int) < (c3.toNat:Int)),h,J⟩ J J
    ·exact rG J J J J<|rG J J J J<|rT J J J<|rN<|ae.stop<|aj.lq [] ⟨true,h,J⟩ J J
   ·exact rG J J J J<|rG J J J J<|rT J J J<|rM J J<|rG J J J J<|rG J J J J<|rG J J J J<|rT J J J<|rN<|ae.stop<|aj.lq [] ⟨true,h,J⟩ J J
  ·exact rG J J J J<|rG J J J J<|rT J J J<|rM J J<|rG J J J J<|rG J J J J<|rG J J J J<|rT J J J<|rM J J<|rG J J J J<|rG J J J J<|rG J J J J<|rT J J J<|rN<|ae.stop<|aj.lq [] ⟨true,h,J⟩ J J
 ·rintro aC ⟨c1,h,rfl⟩
  unfold mR at h
  refine cB h J (fun h=>?_) (fun h=>?_)
  ·refine aI<|rA J J<|rN<|ae.ret<|?_
   cases h
   exact hP J J
  ·refine tK<|tS<|aI<|rM J J<|ah.qv (yO J) J<|rM J J<|rN<|ae.block<|ae.bS (fun x:Int=>mQ aa x) (fun x aC=>aC=⟨54,[(0,.str aa),(23,I (aa.length:Int)),(24,I x)],[]⟩) h ?_ ?_
   ·exact aj.lq [] J J J
   ·intro n5 z1 aC J1 dL h jF fP
    obtain rfl:=dL
    replace h:mQ aa n5=some z1:=h
    unfold mQ at h
    refine aI<|ah.qv (bB J J) J<|rN<|tS<|cD h J (fun h=>?_) (fun h=>?_)
    ·refine tK<|tS<|ae.block<|aI<|rM J J<|rA J J<|rN<|aI<|rM J J<|rM J J<|aA h fun c6 e3 h=>ah.qv (ta J J e3) J<|rA J J<|rN<|tS<|ae.cut (fun aC=>∃ (c7:Bool),tf n5 c7=some z1∧aC=⟨54,[(0,.str aa),(23,I (aa.length:Int)),(24,I n5),(52,.bool c7)],[]⟩) ?_ ?_
     ·refine tR<|rM J J<|ah.qv (sn J J) J<|rM J J<|ah.bJ J J J (fun hc=>?_) (fun hc=>?_)
      ·rw [if_pos hc] at h
       refine rM J J<|rY J J J<|ah.qv (oW J J) J<|rT J J J<|rM J J<|ah.fU J J J (fun hc=>?_) (fun hc=>?_)
       ·rw [if_neg hc] at h
        refine rM J J<|rY J J J<|ah.qv (sn J J) J<|rY J J J<|rM J J<|ah.bJ J J J (fun hc=>?_) (fun hc=>?_)
        ·rw [if_pos hc] at h
         refine rM J J<|rY J J J<|ah.qv (oW J J) J<|rY J J J<|rT J J J<|rE J J J<|rM J J<|ah.fU J J J (fun hc=>?_) (fun hc=>?_)
         ·rw [if_neg hc] at h
          refine rM J J<|rY J J J<|ah.qv (cH J J) J<|rE J J J<|rM J J<|ah.fU J J J (fun hc=>?_) (fun hc=>?_)
          ·rw [if_neg hc] at h
           exact rM J J<|rY J J J<|ah.qv (cH J J) J<|rE J J J<|ah.qv (lM J) J<|rN<|ae.stop<|aj.lq [] ⟨decide (¬ ((c6.toNat:Int)=(95:Int))),h,J⟩ J J
          ·rw [if_pos hc] at h
           exact rG J J J J<|rT J J J<|ah.qv (dB J) J<|rN<|ae.stop<|aj.lq [] ⟨!true,h,J⟩ J J
         ·rw [if_pos hc] at h
          exact rG J J J J<|rT J J J<|rM J J<|rG J J J J<|rG J J J J<|rT J J J<|ah.qv (dB J) J<|rN<|ae.stop<|aj.lq [] ⟨!true,h,J⟩ J J
        ·rw [if_neg hc] at h
         refine rG J J J J<|rY J J J<|rE J J J<|rE J J J<|rM J J<|rY J J J<|rM J J<|rY J J J<|ah.qv (cH J J) J<|rE J J J<|rM J J<|ah.fU J J J (fun hc=>?_) (fun hc=>?_)
         ·rw [if_neg hc] at h
          exact rM J J<|rY J J J<|ah.qv (cH J J) J<|rE J J J<|ah.qv (lM J) J<|rN<|ae.stop<|aj.lq [] ⟨decide (¬ ((c6.toNat:Int)=(95:Int))),h,J⟩ J J
         ·rw [if_pos hc] at h
          exact rG J J J J<|rT J J J<|ah.qv (dB J) J<|rN<|ae.stop<|aj.lq [] ⟨!true,h,J⟩ J J
       ·rw [if_pos hc] at h
        exact rG J J J J<|rG J J J J<|ah.fT J J J<|ah.fT J J J<|rG J J J J<|rT J J J<|rM J J<|rG J J J J<|rG J J J J<|rT J J J<|rM J J<|rG J J J J<|rG J J J J<|rT J J J<|ah.qv (dB J) J<|rN<|ae.stop<|aj.lq [] ⟨!true,h,J⟩ J J
      ·rw [if_neg hc] at h
       refine rG J J J J<|rE J J J<|rM J J<|rY J J J<|rM J J<|rY J J J<|ah.qv (sn J J) J<|rY J J J<|rM J J<|ah.bJ J J J (fun hc=>?_) (fun hc=>?_)
       ·rw [if_pos hc] at h
        refine rM J J<|rY J J J<|ah.qv (oW J J) J<|rY J J J<|rT J J J<|rE J J J<|rM J J<|ah.fU J J J (fun hc=>?_) (fun hc=>?_)
        ·rw [if_neg hc] at h
         refine rM J J<|rY J J J<|ah.qv (cH J J) J<|rE J J J<|rM J J<|ah.fU J J J (fun hc=>?_) (fun hc=>?_)
         ·rw [if_neg hc] at h
          exact rM J J<|rY J J J<|ah.qv (cH J J) J<|rE J J J<|ah.qv (lM J) J<|rN<|ae.stop<|aj.lq [] ⟨decide (¬ ((c6.toNat:Int)=(95:Int))),h,J⟩ J J
         ·rw [if_pos hc] at h
          exact rG J J J J<|rT J J J<|ah.qv (dB J) J<|rN<|ae.stop<|aj.lq [] ⟨!true,h,J⟩ J J
        ·rw [if_pos hc] at h
         exact rG J J J J<|rT J J J<|rM J J<|rG J J J J<|rG J J J J<|rT J J J<|ah.qv (dB J) J<|rN<|ae.stop<|aj.lq [] ⟨!true,h,J⟩ J J
       ·rw [if_neg hc] at h
        refine rG J J J J<|rY J J J<|rE J J J<|rE J J J<|rM J J<|rY J J J<|rM J J<|rY J J J<|ah.qv (cH J J) J<|rE J J J<|rM J J<|ah.fU J J J (fun hc=>?_) (fun hc=>?_)
        ·rw [if_neg hc] at h
         exact rM J J<|rY J J J<|ah.qv (cH J J) J<|rE J J J<|ah.qv (lM J) J<|rN<|ae.stop<|aj.lq [] ⟨decide (¬ ((c6.toNat:Int)=(95:Int))),h,J⟩ J J
        ·rw [if_pos hc] at h
         exact rG J J J J<|rT J J J<|ah.qv (dB J) J<|rN<|ae.stop<|aj.lq [] ⟨!true,h,J⟩ J J
     ·rintro aC ⟨c7,h,rfl⟩
      unfold tf at h
      refine cB h J (fun h=>?_) (fun h=>?_)
      ·refine aI<|rA J J<|rN<|ae.ret<|have h:=bP h fP;?_
       cases h
       exact hP J J
      ·refine tK<|ae.cd<|tR<|ah.qv (aV J J) J<|rM J J<|rN<|ae.stop<|?_
       cases h
       exact jF _ _ J<|aj.lq [] J J J
    ·refine ae.exit J<|have h:=bP h fP;aI<|rA J J<|rN<|ae.ret<|?_
     cases h
     exact hP J J
theorem qY [GI:bA] {aa:List cP} {r:(List (aS×aS))} (h:kD aa=some r):aG Tryz.prog 119 [Gh aa] [] (T1 (fun lV=>[(lV,BW r)]) (fun lV=>.gD lV)):=by
 unfold kD at h
 refine aG.dD ?_
 refine aG.bw Tryz.func119 J Tryz.ntmps119 Tryz.results119 J J ?_
 refine aI<|rA J J<|rN<|aI<|pO J fun b1=>rA J J<|rN<|tS<|aI<|rM J J<|ah.qv (ey J) J<|rM J J<|rN<|ae.block<|ae.bS (fun x:(List (aS×aS))×Int=>fe aa x.1 x.2) (fun x aC=>aC=⟨20,[(3,.gD b1),(7,Gh aa),(8,I (aa.length:Int)),(9,I x.2)],[(b1,BW x.1)]⟩) h ?_ ?_
 ·exact aj.lq [0] J J J
 ·intro x z1 aC J1 dL h jF fP
  obtain ⟨l4,n5⟩:=x
  obtain rfl:=dL
  replace h:fe aa l4 n5=some z1:=h
  unfold fe at h
  refine aI<|ah.qv (bB J J) J<|rN<|tS<|cD h J (fun h=>?_) (fun h=>?_)
  ·refine tK<|tS<|ae.block<|aI<|aA h fun v6 e1 h=>ah.qv (bO J J J e1 J J) J<|ah.qv (bn J J J) J<|bT J J J J fun b7=>aE J J J J .p0 J J<|rN<|tR<|rM J J<|rF J J J<|rL J J .p0 J J<|rF J J J<|rL J J .p0 J J<|oF (gk:=AV.str) (gv:=AV.str) (M:=l4) (key:=v6.Device) (v:=v6.fk) J J J J .p1<|rN<|ae.cd<|tR<|ah.qv (aV J J) J<|rM J J<|rN<|ae.stop<|?_
   cases h
   exact jF _ _ J<|aj.lq [1] J J J
  ·refine ae.exit J<|have h:=bP h fP;aI<|rM J J<|rA J J<|rN<|ae.ret<|?_
   cases h
   exact hH J [0] J ⟨b1,J,J⟩
theorem xd [GI:bA] {aM:Bk} {aa:List (aS×aS)} {ai:aS} {r:(List aS)×Bool} (h:lD aa ai=some r):aG Tryz.prog 120 [.gD aM,.str ai] [(aM,BW aa)] (T1 (fun lV=>[(aM,BW aa),(lV,IF r.1)]) (fun lV=>.nI [.sl 1 lV 0 r.1.length,.bool r.2])):=by
 unfold lD at h
 refine aG.dD ?_
 refine aG.bw Tryz.func120 J Tryz.ntmps120 Tryz.results120 J J ?_
 refine aI<|rA J J<|rA J J<|rN<|aI<|rA J J<|rN<|tS<|aI<|rM J J<|rM J J<|aA h fun v1 e1 h=>ah.qv (wz (gk:=AV.str) (gv:=AV.str) (M:=aa) (key:=ai) (Z:=[]) J J .p0 J J J e1 J) J<|rM J J<|rX J J J<|rX J J J<|rA J J<|rA J J<|rN<|ae.cut (fun aC=>∃ (b2:Bk) (l3:List aS),pg l3=some r∧aC=⟨35,[(6,.sl 1 b2 0 l3.length)],[(aM,BW aa),(b2,IF l3)]⟩) ?_ ?_
 ·refine ae.block<|ae.bS (fun x:(List aS)×aS×Bool=>eT aa ai x.1 x.2.1 x.2.2) (fun x aC=>∃ (b8:Bk),aC=⟨35,[(0,.gD aM),(1,.str ai),(6,.sl 1 b8 0 x.1.length),(7,.str x.2.1),(8,.bool x.2.2)],[(aM,BW aa),(b8,IF x.1)]⟩) h ?_ ?_
  ·exact aj.arr (s:=6) 1 J fun wX=>aj.lq [1,0] ⟨wX,J⟩ J J
  ·intro x z1 aC J1 dL h jF fP
   obtain ⟨l9,H7,Fa⟩:=x
   obtain ⟨b8,rfl⟩:=dL
   replace h:eT aa ai l9 H7 Fa=some z1:=h
   unfold eT at h
   refine tS<|aI<|rM J J<|rN<|cB h J (fun h=>?_) (fun h=>?_)
   ·refine tK<|tS<|ae.block<|tS<|aI<|rM J J<|rM J J<|ah.qv (uX J J) J<|rN<|cD h J (fun h=>?_) (fun h=>?_)
    ·refine aI<|rA J J<|rA J J<|rN<|ae.ret<|have h:=bP h fP;?_
     cases h
     exact aj.arr (s:=4) 1 J fun Cc=>aj.here ⟨_,.cons (.tmp _ _ J) (.cons (.tmp _ _ J) .nil),_,.cons .p1 (.cons .p0 .nil),⟨Cc,J,J⟩⟩
    ·refine tK<|tS<|aI<|rM J J<|ah.qv (eR J) J<|rM J J<|ah.qv (HX (gk:=AV.str) (gv:=AV.str) (M:=aa) J .p0) J<|ah.qv (gR J J) J<|rN<|cD h J (fun h=>?_) (fun h=>?_)
     ·exact ae.exit J<|have h:=bP h fP;ae.stop<|aj.lq [0,0] ⟨b8,l9,h,J⟩ J J
     ·refine tK<|tR<|rM J J<|rM J J<|aY (xs:=([H7]:List aS).map AV.str) J J J J J J<|aA h fun oG e2 h=>dq (g:=AV.str) J J J J J J J J (.list _) e2 (fun _=>.p1) J fun Mp=>rA J J<|rN<|ae.cd<|tR<|rM J J<|rM J J<|aA h fun kS e3 h=>ah.qv (wz (gk:=AV.str) (gv:=AV.str) (M:=aa) (key:=H7) (Z:=[]) J J .p0 J J J e3 J) J<|rM J J<|rX J J J<|rX J J J<|rA J J<|rA J J<|rN<|ae.stop<|?_
      cases h
      exact jF _ _ J<|aj.lq [0,0] ⟨Mp,J⟩ J J
   ·exact ae.exit J<|have h:=bP h fP;ae.stop<|aj.lq [0,0] ⟨b8,l9,h,J⟩ J J
 ·rintro aC ⟨b2,l3,h,rfl⟩
  unfold pg at h
  refine aI<|rM J J<|rA J J<|rA J J<|rN<|ae.ret<|?_
  cases h
  exact hI J J [0,0] J ⟨b2,J,J⟩
theorem lW [GI:bA] {aa:bd} {r:Int} (h:fW aa=some r):Pu Tryz.prog 52 [bd.av aa] (I r):=by
 unfold fW at h
 refine aG.bw Tryz.func52 J Tryz.ntmps52 Tryz.results52 J J ?_
 refine aI<|dC J J J J fun b1=>rA J J<|rN<|tS<|aI<|rF J J J<|ah.qv (oe J J .p0 J J) J<|bc J (yn J) cR J<|rA J J<|rN<|aI<|rM J J<|ah.qv (jH J J) J<|rN<|cD h J (fun h=>?_) (fun h=>?_)
 ·refine aI<|rM J J<|rA J J<|rN<|ae.ret<|?_
  cases h
  exact hP J J
 ·refine tK<|tS<|aI<|rF J J J<|rL J J .p0 J J<|ah.qv (ey J) J<|ah.qv (gR J J) J<|rN<|cD h J (fun h=>?_) (fun h=>?_)
  ·refine aI<|rA J J<|rN<|ae.ret<|?_
   cases h
   exact hP J J
  ·refine tK<|tS<|aI<|rF J J J<|rL J J .p0 J J<|ah.qv (ey J) J<|rM J J<|rN<|ae.block<|ae.bS (fun x:Int=>cU aa x) (fun x aC=>aC=⟨113,[(1,.ptr b1 0),(24,Gh aa.Links),(25,I (aa.Links.length:Int)),(26,I x)],[(b1,.cells (xB aa))]⟩) h ?_ ?_
   ·exact aj.lq [0] J J J
   ·intro n3 z1 aC J1 dL h jF fP
    obtain rfl:=dL
    replace h:cU aa n3=some z1:=h
    unfold cU at h
    refine aI<|ah.qv (bB J J) J<|rN<|tS<|cD h J (fun h=>?_) (fun h=>?_)
    ·refine tK<|tS<|ae.block<|aI<|rM J J<|aA h fun v4 e1 h=>ah.qv (bO J J J e1 J J) J<|ah.qv (bn J J J) J<|bT J J J J fun b5=>rA J J<|aE J J J J .p0 J J<|rN<|tS<|tS<|ae.cut (fun aC=>∃ (c6:Bool),gB aa n3 v4 c6=some z1∧aC=⟨113,[(1,.ptr b1 0),(4,I n3),(5,.ptr b5 0),(24,Gh aa.Links),(25,I (aa.Links.length:Int)),(26,I n3),(40,.bool c6)],[(b1,.cells (xB aa)),(b5,.cells [.str v4.Device,.str v4.fk])]⟩) ?_ ?_
     ·refine tR<|rF J J J<|rL J J .p0 J J<|aA h fun v7 e2 h=>bc J (kG e2) cR J<|ah.qv (dB J) J<|rM J J<|ah.guard J J J (fun hc=>?_) (fun hc=>?_)
      ·exact have h:=vz hc h;rF J J J<|rY J J J<|rL J J .p0 J J<|rY J J J<|aA h fun v8 e3 h=>bc J (kG e3) cR J<|rY J J J<|ah.qv (dB J) J<|rE J J J<|rN<|ae.stop<|aj.lq [1,0] ⟨!v8,h,J⟩ J J
      ·exact have h:=rO hc h;rG J J J J<|rG J J J J<|rG J J J J<|rT J J J<|rN<|ae.stop<|aj.lq [1,0] ⟨true,h,J⟩ J J
     ·rintro aC ⟨c6,h,rfl⟩
      unfold gB at h
      refine cB h J (fun h=>?_) (fun h=>?_)
      ·refine aI<|rA J J<|rN<|ae.ret<|have h:=bP h fP;?_
       cases h
       exact hP J J
      ·refine tK<|tS<|ae.cut (fun aC=>∃ (c9:Bool),iZ n3 c9=some z1∧aC=⟨113,[(1,.ptr b1 0),(24,Gh aa.Links),(25,I (aa.Links.length:Int)),(26,I n3),(54,.bool c9)],[(b1,.cells (xB aa))]⟩) ?_ ?_
       ·refine ae.bV (id:=11) (A:=[0,1,3,7,15,7,39,7,135,487,999,2023,4095,8191]) 14 mixed J (by kernel_rfl) (by kernel_rfl)<|AM.qv (ax J) J<|AM.qv (gR J J) J<|AM.qv (ax J) J<|AM.bJ J J J (fun hc=>?_) (fun hc=>?_)
        ·exact have h:=rO hc h;AM.qv (au J J) J<|AM.aF J J J<|AM.qv (aB J J .p1 J) J<|AM.aF J J J<|AM.qv (au J J) J<|AM.aF J J J<|AM.qv (aB J J .p0 J) J<|AM.aF J J J<|AM.qv (ax J) J<|AM.aF J J J<|AM.qv (bF J J) J<|AM.aF J J J<|aA h fun v10 e4 h=>AM.qv (bO J J J e4 J J) J<|AM.aF J J J<|AM.qv (bb J J) J<|AM.aF J J J<|AM.qv (aU J J J) J<|AM.aF J J J<|AM.qv (Du J J) J<|AM.qv (jv J J) J<|AM.nil<|rN<|ae.stop<|aj.lq [0] ⟨Op.bytesLess v4.Device v10.Device||v4.Device==v10.Device,h,J⟩ J J
        ·exact have h:=yU hc h;AM.aJ J J J J<|AM.aJ J J J J<|AM.aJ J J J J<|AM.aJ J J J J<|AM.aJ J J J J<|AM.aJ J J J J<|AM.aJ J J J J<|AM.aJ J J J J<|AM.aJ J J J J<|AM.qv (iX J J) J<|AM.nil<|rN<|ae.stop<|aj.lq [0] ⟨false,h,J⟩ J J
       ·rintro aC ⟨c9,h,rfl⟩
        unfold iZ at h
        refine cB h J (fun h=>?_) (fun h=>?_)
        ·refine aI<|rA J J<|rN<|ae.ret<|have h:=bP h fP;?_
         cases h
         exact hP J J
        ·refine tK<|ae.cd<|tR<|ah.qv (aV J J) J<|rM J J<|rN<|ae.stop<|?_
         cases h
         exact jF _ _ J<|aj.lq [0] J J J
    ·refine ae.exit J<|have h:=bP h fP;?_
     unfold kO at h
     refine aI<|rF J J J<|rL J J .p0 J J<|aA h fun v11 e5 h=>ik J (qY e5) cR .nil (fun _=>J) J fun wX=>rA J J<|rN<|tS<|aI<|rF J J J<|rL J J .p1 J J<|ah.qv (ey J) J<|rM J J<|rN<|ae.block<|ae.bS (fun x:Int=>cT aa v11 x) (fun x aC=>aC=⟨113,[(1,.ptr b1 0),(6,.gD wX),(60,Gh aa.Links),(61,I (aa.Links.length:Int)),(62,I x)],[(b1,.cells (xB aa)),(wX,BW v11)]⟩) h ?_ ?_
     ·exact aj.lq [1,0] J J J
     ·intro n14 z2 aC J2 dL h xC wW
      obtain rfl:=dL
      replace h:cT aa v11 n14=some z2:=h
      unfold cT at h
      refine aI<|ah.qv (bB J J) J<|rN<|tS<|cD h J (fun h=>?_) (fun h=>?_)
      ·refine tK<|tS<|ae.block<|aI<|aA h fun rS e6 h=>ah.qv (bO J J J e6 J J) J<|ah.qv (bn J J J) J<|bT J J J J fun CV=>aE J J J J .p0 J J<|rN<|aI<|rM J J<|rF J J J<|rL J J .p0 J J<|aA h fun v17 e7 h=>ik J (xd e7) cR (.cons .p2 .nil) (fun _=>J) J fun sS=>rM J J<|rX J J J<|rX J J J<|rA J J<|rA J J<|rN<|aI<|rM J J<|ah.qv (dB J) J<|rN<|cB h J (fun h=>?_) (fun h=>?_)
       ·refine aI<|rA J J<|rN<|ae.ret<|have h:=bP h wW;?_
        cases h
        exact hP J J
       ·refine tK<|ae.cd<|tR<|ah.qv (aV J J) J<|rM J J<|rN<|ae.stop<|?_
        cases h
        exact xC _ _ J<|aj.lq [3,0] J J J
      ·refine ae.exit J<|have h:=bP h wW;?_
       unfold kN at h
       refine tS<|aI<|rF J J J<|rL J J .p0 J J<|ah.qv (ey J) J<|ah.qv (gR J J) J<|rN<|cD h J (fun h=>?_) (fun h=>?_)
       ·refine aI<|rA J J<|rN<|ae.ret<|?_
        cases h
        exact hP J J
       ·refine tK<|tS<|aI<|rF J J J<|rL J J .p0 J J<|ah.qv (ey J) J<|rM J J<|rN<|ae.block<|ae.bS (fun x:Int=>dM aa x) (fun x aC=>aC=⟨113,[(1,.ptr b1 0),(81,Mi aa.aW),(82,I (aa.aW.length:Int)),(83,I x)],[(b1,.cells (xB aa))]⟩) h ?_ ?_
        ·exact aj.lq [0] J J J
        ·intro n20 z3 aC J3 dL h H9 DI
         obtain rfl:=dL
         replace h:dM aa n20=some z3:=h
         unfold dM at h
         refine aI<|ah.qv (bB J J) J<|rN<|tS<|cD h J (fun h=>?_) (fun h=>?_)
         ·refine tK<|tS<|ae.block<|aI<|rM J J<|aA h fun v21 e8 h=>ah.qv (bO J J J e8 J J) J<|ah.qv (bn J J J) J<|bT J J J J fun Eg=>rA J J<|aE J J J J .p0 J J<|rN<|ae.block<|aI<|rF J J J<|rL J J .p0 J J<|aA h fun v23 e9 h=>bc J (kG e9) cR J<|ah.qv (dB J) J<|rA J J<|rN<|cB h J (fun h=>?_) (fun h=>?_)
          ·refine aI<|rA J J<|rN<|ae.ret<|have h:=bP h DI;?_
           cases h
           exact hP J J
          ·refine tS<|ae.cut (fun aC=>∃ (Qo:Bool),gC n20 v21 Qo=some z3∧aC=⟨113,[(1,.ptr b1 0),(12,.ptr Eg 0),(81,Mi aa.aW),(82,I (aa.aW.length:Int)),(83,I n20),(93,.bool Qo)],[(b1,.cells (xB aa)),(Eg,.cells [.str v21.aZ,I v21.Level,.bool v21.o1])]⟩) ?_ ?_
           ·refine ae.bV (id:=29) (A:=[0,1,3,7,15,7,39,7,135,487,999,2023,4095,8191,16383]) 15 mixed J (by kernel_rfl) (by kernel_rfl)<|AM.qv (ax J) J<|AM.qv (gR J J) J<|AM.qv (ax J) J<|AM.bJ J J J (fun hc=>?_) (fun hc=>?_)
            ·exact have h:=rO hc h;AM.qv (au J J) J<|AM.aF J J J<|AM.qv (aB J J .p0 J) J<|AM.aF J J J<|AM.qv (au J J) J<|AM.aF J J J<|AM.qv (aB J J .p1 J) J<|AM.aF J J J<|AM.qv (ax J) J<|AM.aF J J J<|AM.qv (bF J J) J<|AM.aF J J J<|aA h fun v25 yl h=>AM.qv (bO J J J yl J J) J<|AM.aF J J J<|AM.qv (bb J J) J<|AM.aF J J J<|AM.qv (aU J J J) J<|AM.aF J J J<|AM.qv (Du J J) J<|AM.qv (jv J J) J<|AM.qv (c0 J) J<|AM.nil<|rN<|ae.stop<|aj.lq [1,0] ⟨Op.bytesLess v21.aZ v25.aZ||v21.aZ==v25.aZ,h,J⟩ J J
            ·exact have h:=yU hc h;AM.aJ J J J J<|AM.aJ J J J J<|AM.aJ J J J J<|AM.aJ J J J J<|AM.aJ J J J J<|AM.aJ J J J J<|AM.aJ J J J J<|AM.aJ J J J J<|AM.aJ J J J J<|AM.qv (iX J J) J<|AM.qv (c0 J) J<|AM.nil<|rN<|ae.stop<|aj.lq [1,0] ⟨false,h,J⟩ J J
           ·rintro aC ⟨Qo,h,rfl⟩
            unfold gC at h
            refine cB h J (fun h=>?_) (fun h=>?_)
            ·refine aI<|rA J J<|rN<|ae.ret<|have h:=bP h DI;?_
             cases h
             exact hP J J
            ·refine aI<|rF J J J<|rL J J .p1 J J<|bc J (oC J) cR J<|rA J J<|rN<|cB h J (fun h=>?_) (fun h=>?_)
             ·refine aI<|rA J J<|rN<|ae.ret<|have h:=bP h DI;?_
              cases h
              exact hP J J
             ·refine tK<|ae.cd<|ae.cd<|tR<|ah.qv (aV J J) J<|rM J J<|rN<|ae.stop<|?_
              cases h
              exact H9 _ _ J<|aj.lq [0] J J J
         ·refine ae.exit J<|have h:=bP h DI;aI<|rA J J<|rN<|ae.ret<|?_
          cases h
          exact hP J J
theorem Cg [GI:bA] {aa:bd} {ai:aS} {r:(List aS)×Int} (h:tg aa ai=some r):aG Tryz.prog 53 [bd.av aa,.str ai] [] (T1 (fun lV=>[(lV,IF r.1)]) (fun lV=>.nI [.sl 1 lV 0 r.1.length,I r.2])):=by
 unfold tg at h
 refine aG.dD ?_
 refine aG.bw Tryz.func53 J Tryz.ntmps53 Tryz.results53 J J ?_
 refine aI<|dC J J J J fun b1=>rA J J<|rA J J<|rN<|tS<|aI<|ah.qv (aL J J .p0 J) J<|aA h fun v2 e1 h=>bc J (lW e1) cR J<|rA J J<|rN<|aI<|rM J J<|ah.qv (jH J J) J<|rN<|cD h J (fun h=>?_) (fun h=>?_)
 ·refine aI<|rM J J<|rA J J<|rA J J<|rN<|ae.ret<|?_
  cases h
  exact aj.arr (s:=4) 1 J fun b3=>aj.here ⟨_,.cons (.tmp _ _ J) (.cons (.tmp _ _ J) .nil),_,.cons .p0 .nil,⟨b3,J,J⟩⟩
 ·refine tK<|tS<|aI<|rM J J<|aA h fun v4 e2 h=>bc J (kG e2) cR J<|ah.qv (dB J) J<|rN<|cB h J (fun h=>?_) (fun h=>?_)
  ·refine aI<|rA J J<|rA J J<|rN<|ae.ret<|?_
   cases h
   exact aj.arr (s:=4) 1 J fun b5=>aj.here ⟨_,.cons (.tmp _ _ J) (.cons (.tmp _ _ J) .nil),_,.cons .p0 .nil,⟨b5,J,J⟩⟩
  ·refine tK<|aI<|rF J J J<|rL J J .p0 J J<|aA h fun v6 e3 h=>ik J (qY e3) cR .nil (fun _=>J) J fun b7=>rM J J<|aA h fun v8 e4 h=>ik J (xd e4) cR (.cons .p0 .nil) (fun _=>J) J fun b9=>rM J J<|rX J J J<|rX J J J<|rA J J<|rA J J<|rN<|aI<|rM J J<|rA J J<|rA J J<|rN<|ae.ret<|?_
   cases h
   exact hI J J [1] J ⟨b9,J,J⟩
theorem yo {aa:aS} {r:Int} (h:pT aa=some r):Pu Tryz.prog 31 [.str aa] (I r):=by
 unfold pT at h
 refine aG.bw Tryz.func31 J Tryz.ntmps31 Tryz.results31 J J ?_
 refine aI<|rA J J<|rN<|tS<|aI<|rM J J<|aA h fun v1 e1 h=>bc J (uH e1) cR J<|ah.qv (dB J) J<|rN<|cB h J (fun h=>?_) (fun h=>?_)
 ·refine aI<|rA J J<|rN<|ae.ret<|?_
  cases h
  exact hP J J
 ·refine tK<|aI<|rA J J<|rN<|ae.ret<|?_
  cases h
  exact hP J J
theorem sI [GI:bA] {aa:List Int} {r:Int} (h:nt aa=some r):Pu Tryz.prog 18 [gQ aa] (I r):=by
 unfold nt at h
 refine aG.bw Tryz.func18 J Tryz.ntmps18 Tryz.results18 J J ?_
 refine aI<|rA J J<|rN<|aI<|rA J J<|rN<|tS<|aI<|rM J J<|ah.qv (ey J) J<|rM J J<|rN<|ae.block<|ae.bS (fun x:Int=>oo aa x) (fun x aC=>aC=⟨18,[(3,I (0:Int)),(6,gQ aa),(7,I (aa.length:Int)),(8,I x)],[]⟩) h ?_ ?_
 ·exact aj.lq [] J J J
 ·intro n2 z1 aC J1 dL h jF fP
  obtain rfl:=dL
  replace h:oo aa n2=some z1:=h
  unfold oo at h
  refine aI<|ah.qv (bB J J) J<|rN<|tS<|cD h J (fun h=>?_) (fun h=>?_)
  ·refine tK<|tS<|ae.block<|aI<|aA h fun v3 e1 h=>ah.qv (bO J J J e1 J J) J<|ah.qv (aU J J J) J<|rA J J<|rN<|aI<|rM J J<|rM J J<|ah.qv (jH J J) J<|rN<|cD h J (fun h=>?_) (fun h=>?_)
   ·refine aI<|rM J J<|rA J J<|rN<|ae.ret<|have h:=bP h fP;?_
    cases h
    exact hP J J
   ·refine tK<|ae.cd<|tR<|ah.qv (aV J J) J<|rM J J<|rN<|ae.stop<|?_
    cases h
    exact jF _ _ J<|aj.lq [] J J J
  ·refine ae.exit J<|have h:=bP h fP;aI<|rM J J<|rA J J<|rN<|ae.ret<|?_
   cases h
   exact hP J J
theorem Fe [GI:bA] {aa:bd} {ai:aS} {r:(List aS)} (h:wD aa ai=some r):aG Tryz.prog 55 [bd.av aa,.str ai] [] (T1 (fun lV=>[(lV,IF r)]) (fun lV=>.sl 1 lV 0 r.length)):=by
 unfold wD at h
 refine aG.dD ?_
 refine aG.bw Tryz.func55 J Tryz.ntmps55 Tryz.results55 J J ?_
 refine aI<|dC J J J J fun b1=>rA J J<|rN<|aI<|ah.qv (aL J J .p0 J) J<|rM J J<|aA h fun v2 e1 h=>ik J (zi e1) cR .nil (fun _=>J) J fun b3=>rA J J<|rN<|ae.ret<|?_
 cases h
 exact hH J [0] J ⟨b3,J,J⟩
theorem qZ [GI:bA] {aa:List aS} {ai:List aS} {r:Bool} (h:gu aa ai=some r):Pu Tryz.prog 54 [IE aa,IE ai] (.bool r):=by
 unfold gu at h
 refine aG.bw Tryz.func54 J Tryz.ntmps54 Tryz.results54 J J ?_
 refine aI<|rA J J<|rN<|tS<|aI<|rM J J<|ah.qv (ey J) J<|rM J J<|ah.qv (ey J) J<|ah.qv (jH J J) J<|rN<|cD h J (fun h=>?_) (fun h=>?_)
 ·refine aI<|rA J J<|rN<|ae.ret<|?_
  cases h
  exact hP J J
 ·refine tK<|tS<|aI<|rM J J<|ah.qv (ey J) J<|rM J J<|rN<|ae.block<|ae.bS (fun x:Int=>fx aa ai x) (fun x aC=>aC=⟨26,[(0,IE aa),(1,IE ai),(12,I (aa.length:Int)),(13,I x)],[]⟩) h ?_ ?_
  ·exact aj.lq [] J J J
  ·intro n2 z1 aC J1 dL h jF fP
   obtain rfl:=dL
   replace h:fx aa ai n2=some z1:=h
   unfold fx at h
   refine aI<|ah.qv (bB J J) J<|rN<|tS<|cD h J (fun h=>?_) (fun h=>?_)
   ·refine tK<|tS<|ae.block<|aI<|rM J J<|rA J J<|rN<|tS<|ae.bV (id:=6) (A:=[0,0,3,7,0,0,48,112,255]) 9 mixed J (by kernel_rfl) (by kernel_rfl)<|AM.qv (ax J) J<|AM.qv (ax J) J<|aA h fun v3 e1 h=>AM.qv (bO J J J e1 J J) J<|AM.qv (aU J J J) J<|AM.qv (ax J) J<|AM.qv (ax J) J<|aA h fun v4 e2 h=>AM.qv (bO J J J e2 J J) J<|AM.qv (aU J J J) J<|AM.qv (zu J J) J<|AM.nil<|rN<|cD h J (fun h=>?_) (fun h=>?_)
    ·refine aI<|rA J J<|rN<|ae.ret<|have h:=bP h fP;?_
     cases h
     exact hP J J
    ·refine tK<|ae.cd<|tR<|ah.qv (aV J J) J<|rM J J<|rN<|ae.stop<|?_
     cases h
     exact jF _ _ J<|aj.lq [] J J J
   ·refine ae.exit J<|have h:=bP h fP;aI<|rA J J<|rN<|ae.ret<|?_
    cases h
    exact hP J J
theorem qk [GI:bA] {aa:Int} {r:Bool} (h:lE aa=r):Pu Tryz.prog 89 [I aa] (.bool r):=by
 unfold lE at h
 refine aG.bw Tryz.func89 J Tryz.ntmps89 Tryz.results89 J J ?_
 refine aI<|rA J J<|rN<|aI<|rM J J<|bc J (oC J) cR J<|ah.qv (dB J) J<|rA J J<|rN<|ae.ret<|?_
 obtain rfl:=h
 exact hP J J
theorem wZ [GI:bA] {aa:Signal} {r:Int} (h:j9 aa=some r):Pu Tryz.prog 78 [Signal.av aa] (I r):=by
 unfold j9 at h
 refine aG.bw Tryz.func78 J Tryz.ntmps78 Tryz.results78 J J ?_
 refine aI<|dC J J J J fun b1=>rA J J<|rN<|aI<|rF J J J<|rL J J .p0 J J<|ah.qv (sn J J) J<|rA J J<|rN<|aI<|rF J J J<|rL J J .p0 J J<|ah.qv (cH J J) J<|rA J J<|rN<|tS<|ae.block<|aI<|rF J J J<|rL J J .p0 J J<|bc J (qk J) cR J<|ah.qv (dB J) J<|rA J J<|rN<|cB h J (fun h=>?_) (fun h=>?_)
 ·refine aI<|rA J J<|rN<|ae.ret<|?_
  cases h
  exact hP J J
 ·refine tS<|ae.cut (fun aC=>∃ (c2:Bool),fY aa c2=some r∧aC=⟨73,[(1,.ptr b1 0),(3,.bool (decide ((3:Int)≤aa.Kind))),(4,.bool (decide (aa.Kind=(4:Int)))),(16,.bool c2)],[(b1,.cells (wU aa))]⟩) ?_ ?_
  ·refine tR<|rF J J J<|rL J J .p0 J J<|aA h fun v3 e1 h=>bc J (kG e1) cR J<|ah.qv (dB J) J<|rM J J<|ah.guard J J J (fun hc=>?_) (fun hc=>?_)
   ·exact have h:=vz hc h;rF J J J<|rY J J J<|rL J J .p0 J J<|rY J J J<|aA h fun v4 e2 h=>bc J (kG e2) cR J<|rY J J J<|ah.qv (dB J) J<|rE J J J<|rA J J<|rN<|ae.stop<|aj.lq [0] ⟨!v4,h,J⟩ J J
   ·exact have h:=rO hc h;rG J J J J<|rG J J J J<|rG J J J J<|rT J J J<|rA J J<|rN<|ae.stop<|aj.lq [0] ⟨true,h,J⟩ J J
  ·rintro aC ⟨c2,h,rfl⟩
   unfold fY at h
   refine cB h J (fun h=>?_) (fun h=>?_)
   ·refine aI<|rA J J<|rN<|ae.ret<|?_
    cases h
    exact hP J J
   ·refine aI<|rF J J J<|rL J J .p0 J J<|bc J (oC J) cR J<|rA J J<|rN<|cB h J (fun h=>?_) (fun h=>?_)
    ·refine aI<|rA J J<|rN<|ae.ret<|?_
     cases h
     exact hP J J
    ·refine tS<|ae.cut (fun aC=>∃ (c5:Bool),fX aa c5=some r∧aC=⟨73,[(1,.ptr b1 0),(3,.bool (decide ((3:Int)≤aa.Kind))),(4,.bool (decide (aa.Kind=(4:Int)))),(31,.bool c5)],[(b1,.cells (wU aa))]⟩) ?_ ?_
     ·refine tR<|rM J J<|rM J J<|gT h J J J (fun h=>?_) (fun h=>?_)
      ·exact rF J J J<|rY J J J<|rL J J .p0 J J<|rY J J J<|aA h fun v6 e3 h=>bc J (kG e3) cR J<|rY J J J<|ah.qv (dB J) J<|rT J J J<|rA J J<|rN<|ae.stop<|aj.lq [0] ⟨!v6,h,J⟩ J J
      ·exact rG J J J J<|rG J J J J<|rG J J J J<|rE J J J<|rA J J<|rN<|ae.stop<|aj.lq [0] ⟨false,h,J⟩ J J
     ·rintro aC ⟨c5,h,rfl⟩
      unfold fX at h
      refine cB h J (fun h=>?_) (fun h=>?_)
      ·refine aI<|rA J J<|rN<|ae.ret<|?_
       cases h
       exact hP J J
      ·refine tS<|ae.cut (fun aC=>∃ (c7:Bool),j8 aa c7=some r∧aC=⟨73,[(1,.ptr b1 0),(4,.bool (decide (aa.Kind=(4:Int)))),(39,.bool c7)],[(b1,.cells (wU aa))]⟩) ?_ ?_
       ·refine tR<|rM J J<|ah.qv (lM J) J<|rM J J<|ah.bJ J J J (fun hc=>?_) (fun hc=>?_)
        ·rw [lB hc] at h
         exact rF J J J<|rY J J J<|rL J J .p0 J J<|rY J J J<|ah.qv (zu J J) J<|rT J J J<|rA J J<|rN<|ae.stop<|aj.lq [0] ⟨decide (aa.By≠([]:aS)),h,J⟩ J J
        ·rw [lC hc] at h
         exact rG J J J J<|rG J J J J<|rE J J J<|rA J J<|rN<|ae.stop<|aj.lq [0] ⟨false,h,J⟩ J J
       ·rintro aC ⟨c7,h,rfl⟩
        unfold j8 at h
        refine cB h J (fun h=>?_) (fun h=>?_)
        ·refine aI<|rA J J<|rN<|ae.ret<|?_
         cases h
         exact hP J J
        ·refine tS<|ae.cut (fun aC=>∃ (c8:Bool),j6 aa c8=some r∧aC=⟨73,[(1,.ptr b1 0),(4,.bool (decide (aa.Kind=(4:Int)))),(47,.bool c8)],[(b1,.cells (wU aa))]⟩) ?_ ?_
         ·refine tR<|rM J J<|rM J J<|ah.bJ J J J (fun hc=>?_) (fun hc=>?_)
          ·rw [lB hc] at h
           refine rF J J J<|rY J J J<|rL J J .p0 J J<|rY J J J<|rF J J J<|rY J J J<|rL J J .p0 J J<|rY J J J<|ah.qv (aV J J) J<|rY J J J<|rF J J J<|rY J J J<|rL J J .p0 J J<|rY J J J<|ah.qv (aV J J) J<|rY J J J<|bc J (oC J) cR J<|rY J J J<|rM J J<|ah.guard J J J (fun hc=>?_) (fun hc=>?_)
           ·rw [HN hc] at h
            exact rF J J J<|rY J J J<|rL J J .p0 J J<|rY J J J<|ah.qv (gR J J) J<|rY J J J<|rE J J J<|rT J J J<|rA J J<|rN<|ae.stop<|aj.lq [0] ⟨decide ((345686400000:Int) < aa.bh),h,J⟩ J J
           ·rw [HM hc] at h
            exact rG J J J J<|rG J J J J<|rY J J J<|rT J J J<|rT J J J<|rA J J<|rN<|ae.stop<|aj.lq [0] ⟨true,h,J⟩ J J
          ·rw [lC hc] at h
           exact rG J J J J<|rG J J J J<|rG J J J J<|rG J J J J<|rG J J J J<|rG J J J J<|rG J J J J<|rG J J J J<|rG J J J J<|ah.fT J J J<|ah.fT J J J<|ah.fT J J J<|rG J J J J<|rE J J J<|rA J J<|rN<|ae.stop<|aj.lq [0] ⟨false,h,J⟩ J J
         ·rintro aC ⟨c8,h,rfl⟩
          unfold j6 at h
          refine cB h J (fun h=>?_) (fun h=>?_)
          ·refine aI<|rA J J<|rN<|ae.ret<|?_
           cases h
           exact hP J J
          ·refine tS<|ae.cut (fun aC=>∃ (c9:Bool),jZ c9=some r∧aC=⟨73,[(65,.bool c9)],[]⟩) ?_ ?_
           ·refine tR<|rM J J<|ah.qv (lM J) J<|rM J J<|ah.bJ J J J (fun hc=>?_) (fun hc=>?_)
            ·rw [lB hc] at h
             exact rF J J J<|rY J J J<|rL J J .p0 J J<|rY J J J<|ah.qv (jH J J) J<|rT J J J<|rA J J<|rN<|ae.stop<|aj.lq [] ⟨decide (aa.bh≠(0:Int)),h,J⟩ J J
            ·rw [lC hc] at h
             exact rG J J J J<|rG J J J J<|rE J J J<|rA J J<|rN<|ae.stop<|aj.lq [] ⟨false,h,J⟩ J J
           ·rintro aC ⟨c9,h,rfl⟩
            unfold jZ at h
            refine cB h J (fun h=>?_) (fun h=>?_)
            ·refine aI<|rA J J<|rN<|ae.ret<|?_
             cases h
             exact hP J J
            ·refine tK<|ae.cd<|aI<|rA J J<|rN<|ae.ret<|?_
             cases h
             exact hP J J
end Go.Proofs.YtifmjkaghhkhfaaGreatDoor
