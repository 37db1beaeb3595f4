/- The code computes the plain functions: proofs written by shal.py. -/
import Derived.Test.YtjgdilohhcheoaaGreatDoorEvwP
import Derived.Test.YtjgdilohhcheoaaGreatDoorLib
set_option maxHeartbeats 4000000
set_option maxRecDepth 100000
set_option linter.unusedVariables false
set_option linter.unusedSimpArgs false
namespace Go.Proofs.YtjgdilohhcheoaaGreatDoor
open Go Go.Eng Go.Proofs Go.Beacon
attribute [local irreducible] ah aa AQ QV aH aj LM AM
instance XF:Eu Tryz.prog 32:=⟨by kernel_rfl⟩
instance XG:lr Tryz.prog 32 2 Version.av:=⟨fun x y w S v u hv hu=>by
 obtain ⟨vs,rfl,hl,ha⟩:=At.jo hv
 obtain ⟨us,rfl,sq,vO⟩:=At.jo hu
 obtain ⟨v0,p0,q0⟩:=gX.get hl ha (off:=0) rfl
 obtain ⟨u0,NF,NG⟩:=gX.get sq vO (off:=0) rfl
 obtain ⟨v1,p1,q1⟩:=gX.get hl ha (off:=1) rfl
 obtain ⟨u1,NH,NI⟩:=gX.get sq vO (off:=1) rfl
 obtain ⟨v2,p2,q2⟩:=gX.get hl ha (off:=2) rfl
 obtain ⟨u2,TC,TE⟩:=gX.get sq vO (off:=2) rfl
 refine rV.cast (rV.struct Tryz.underlying32 (by kernel_rfl) (.cons (by decide) (bE J p0) (bE J NF) (rV.up (lr.h (g:=I) x.dX y.dX w S _ _ q0 NG) 0) (.cons (by decide) (bE J p1) (bE J NH) (rV.up (lr.h (g:=I) x.dY y.dY w S _ _ q1 NI) 0) (.cons (by decide) (bE J p2) (bE J TC) (rV.up (lr.h (g:=I) x.dI y.dI w S _ _ q2 TE) 0) .nil)))) ?_
 obtain ⟨_,_,_⟩:=x
 obtain ⟨_,_,_⟩:=y
 rw [Bool.eq_iff_iff];simp [and_assoc]⟩
instance XH:Eu Tryz.prog 34:=⟨by kernel_rfl⟩
instance XI:lr Tryz.prog 34 3 ab.av:=⟨fun x y w S v u hv hu=>by
 obtain ⟨vs,rfl,hl,ha⟩:=At.jo hv
 obtain ⟨us,rfl,sq,vO⟩:=At.jo hu
 obtain ⟨v0,p0,q0⟩:=gX.get hl ha (off:=0) rfl
 obtain ⟨u0,NF,NG⟩:=gX.get sq vO (off:=0) rfl
 obtain ⟨v1,p1,q1⟩:=gX.get hl ha (off:=1) rfl
 obtain ⟨u1,NH,NI⟩:=gX.get sq vO (off:=1) rfl
 obtain ⟨v2,p2,q2⟩:=gX.get hl ha (off:=2) rfl
 obtain ⟨u2,TC,TE⟩:=gX.get sq vO (off:=2) rfl
 obtain ⟨v3,p3,q3⟩:=gX.get hl ha (off:=3) rfl
 obtain ⟨u3,p3',q3'⟩:=gX.get sq vO (off:=3) rfl
 obtain ⟨v4,p4,q4⟩:=gX.get hl ha (off:=4) rfl
 obtain ⟨u4,p4',q4'⟩:=gX.get sq vO (off:=4) rfl
 obtain ⟨v5,p5,q5⟩:=gX.get hl ha (off:=5) rfl
 obtain ⟨u5,p5',q5'⟩:=gX.get sq vO (off:=5) rfl
 obtain ⟨v6,p6,q6⟩:=gX.get hl ha (off:=6) rfl
 obtain ⟨u6,p6',q6'⟩:=gX.get sq vO (off:=6) rfl
 obtain ⟨v7,p7,q7⟩:=gX.get hl ha (off:=7) rfl
 obtain ⟨u7,p7',q7'⟩:=gX.get sq vO (off:=7) rfl
 obtain ⟨v8,p8,q8⟩:=gX.get hl ha (off:=8) rfl
 obtain ⟨u8,KI,q8'⟩:=gX.get sq vO (off:=8) rfl
 obtain ⟨v9,p9,q9⟩:=gX.get hl ha (off:=9) rfl
 obtain ⟨u9,p9',q9'⟩:=gX.get sq vO (off:=9) rfl
 obtain ⟨v10,p10,zW⟩:=gX.get hl ha (off:=10) rfl
 obtain ⟨u10,TF,TG⟩:=gX.get sq vO (off:=10) rfl
 obtain ⟨v11,p11,uv⟩:=gX.get hl ha (off:=11) rfl
 obtain ⟨XE,TH,TI⟩:=gX.get sq vO (off:=11) rfl
 obtain ⟨v12,p12,zX⟩:=gX.get hl ha (off:=12) rfl
 obtain ⟨u12,TJ,TK⟩:=gX.get sq vO (off:=12) rfl
 refine rV.cast (rV.struct Tryz.underlying34 (by kernel_rfl) (.cons (by decide) (bE J p0) (bE J NF) (rV.up (lr.h (g:=AV.str) x.cj y.cj w S _ _ q0 NG) 1) (.cons (by decide) (bE J p1) (bE J NH) (rV.up (lr.h (g:=I) x.No y.No w S _ _ q1 NI) 1) (.cons (by decide) (bE J p2) (bE J TC) (rV.up (lr.h (g:=I) x.aO y.aO w S _ _ q2 TE) 1) (.cons (by decide) (bE J p3) (bE J p3') (rV.up (lr.h (g:=I) x.At y.At w S _ _ q3 q3') 1) (.cons (by decide) (bE J p4) (bE J p4') (rV.up (lr.h (g:=I) x.Kind y.Kind w S _ _ q4 q4') 1) (.cons (by decide) (bE J p5) (bE J p5') (rV.up (lr.h (g:=AV.str) x.Device y.Device w S _ _ q5 q5') 1) (.cons (by decide) (bE J p6) (bE J p6') (rV.up (lr.h (g:=AV.str) x.Model y.Model w S _ _ q6 q6') 1) (.cons (by decide) (bE J p7) (bE J p7') (rV.up (lr.h (g:=AV.str) x.aK y.aK w S _ _ q7 q7') 1) (.cons (by decide) (bE J p8) (bE J KI) (rV.up (lr.h (g:=I) x.az y.az w S _ _ q8 q8') 1) (.cons (by decide) (bE J p9) (bE J p9') (rV.up (lr.h (g:=AV.str) x.Key y.Key w S _ _ q9 q9') 1) (.cons (by decide) (bE J p10) (bE J TF) (rV.up (lr.h (g:=AV.str) x.Name y.Name w S _ _ zW TG) 1) (.cons (by decide) (bE J p11) (bE J TH) (rV.up (lr.h (g:=AV.str) x.Value y.Value w S _ _ uv TI) 1) (.cons (by decide) (bE J p12) (bE J TJ) (rV.up (lr.h (g:=I) x.aW y.aW w S _ _ zX TK) 1) (.cons (by decide) (CV J J) (CV J J) (rV.up (lr.h (g:=Version.av) x.ak y.ak w S _ _ (gX.sub hl ha 13 3 (Nat.le_of_ble_eq_true J)) (gX.sub sq vO 13 3 (Nat.le_of_ble_eq_true J))) 0) .nil))))))))))))))) ?_
 obtain ⟨_,_,_,_,_,_,_,_,_,_,_,_,_,_⟩:=x
 obtain ⟨_,_,_,_,_,_,_,_,_,_,_,_,_,_⟩:=y
 rw [Bool.eq_iff_iff];simp [and_assoc]⟩
instance XJ:Eu Tryz.prog 55:=⟨by kernel_rfl⟩
instance XK:lr Tryz.prog 55 2 bd.av:=⟨fun x y w S v u hv hu=>by
 obtain ⟨vs,rfl,hl,ha⟩:=At.jo hv
 obtain ⟨us,rfl,sq,vO⟩:=At.jo hu
 obtain ⟨v0,p0,q0⟩:=gX.get hl ha (off:=0) rfl
 obtain ⟨u0,NF,NG⟩:=gX.get sq vO (off:=0) rfl
 obtain ⟨v1,p1,q1⟩:=gX.get hl ha (off:=1) rfl
 obtain ⟨u1,NH,NI⟩:=gX.get sq vO (off:=1) rfl
 refine rV.cast (rV.struct Tryz.underlying55 (by kernel_rfl) (.cons (by decide) (bE J p0) (bE J NF) (rV.up (lr.h (g:=I) x.Event y.Event w S _ _ q0 NG) 0) (.cons (by decide) (bE J p1) (bE J NH) (rV.up (lr.h (g:=I) x.Ru y.Ru w S _ _ q1 NI) 0) .nil))) ?_
 obtain ⟨_,_⟩:=x
 obtain ⟨_,_⟩:=y
 rw [Bool.eq_iff_iff];simp [and_assoc]⟩
instance TL:lr Tryz.prog 179 2 bx.av:=⟨fun x y w S v u hv hu=>by
 obtain ⟨vs,rfl,hl,ha⟩:=At.jo hv
 obtain ⟨us,rfl,sq,vO⟩:=At.jo hu
 obtain ⟨v0,p0,q0⟩:=gX.get hl ha (off:=0) rfl
 obtain ⟨u0,NF,NG⟩:=gX.get sq vO (off:=0) rfl
 obtain ⟨v1,p1,q1⟩:=gX.get hl ha (off:=1) rfl
 obtain ⟨u1,NH,NI⟩:=gX.get sq vO (off:=1) rfl
 refine rV.cast (rV.struct Tryz.underlying179 (by kernel_rfl) (.cons (by decide) (bE J p0) (bE J NF) (rV.up (lr.h (g:=AV.str) x.vk y.vk w S _ _ q0 NG) 0) (.cons (by decide) (bE J p1) (bE J NH) (rV.up (lr.h (g:=I) x.sc y.sc w S _ _ q1 NI) 0) .nil))) ?_
 obtain ⟨_,_⟩:=x
 obtain ⟨_,_⟩:=y
 rw [Bool.eq_iff_iff];simp [and_assoc]⟩
instance TN:il Tryz.prog 179 bx.av:=il.struct (n:=2) J Tryz.underlying179 (fun f hf=>by
 simp only [List.mem_cons,List.not_mem_nil,or_false] at hf
 rcases hf with rfl | rfl
 ·exact ⟨_,ay.h (P:=Tryz.prog) (t:=9),J,by decide⟩
 ·exact ⟨_,ay.h (P:=Tryz.prog) (t:=3),J,by decide⟩) (fun x=>⟨_,J,J,fun c hc=>by
 simp only [List.mem_cons,List.not_mem_nil,or_false] at hc
 rcases hc with rfl | rfl<;>rfl⟩) (fun a b h=>by
 obtain ⟨_,_⟩:=a
 obtain ⟨_,_⟩:=b
 simpa [bx.av] using h)
abbrev ic (xs:List Int):AV:=.list 1 (xs.map I)
abbrev Rx (xs:List ax):AV:=.list 1 (xs.map AV.str)
abbrev Bd (xs:List aL):Ob:=.arr 4 (xs.map aL.av)
abbrev Lh (xs:List Model):Ob:=.arr 3 (xs.map Model.av)
abbrev pa (xs:List Model):AV:=.list 3 (xs.map Model.av)
abbrev gw (xs:List ab):Ob:=.arr 16 (xs.map ab.av)
abbrev Mq (xs:List (ax×Int)):Ob:=.mp (xs.map (fun e=>(AV.str e.1,I e.2)))
abbrev tv (xs:List ab):AV:=.list 16 (xs.map ab.av)
abbrev zZ (xs:List aL):AV:=.list 4 (xs.map aL.av)
abbrev Ry (x:aL):List AV:=[.str x.Name,I x.Kind,I x.vj,I x.iA]
abbrev x5 (x:ab):List AV:=[.str x.cj,I x.No,I x.aO,I x.At,I x.Kind,.str x.Device,.str x.Model,.str x.aK,I x.az,.str x.Key,.str x.Name,.str x.Value,I x.aW,I x.ak.dX,I x.ak.dY,I x.ak.dI]
abbrev iJ (b:Bk) (s:Nat→Bk) (x:aX):List (Bk×PO):=[(b,.cells [.str x.Device.Key,.str x.Device.Model,.str x.Device.aK,I x.Device.ak.dX,I x.Device.ak.dY,I x.Device.ak.dI,.sl 2 (s 0) 0 x.Device.bn.length,I x.az,I x.State,.sl 3 (s 1) 0 x.aY.length]),(s 0,.arr 2 (x.Device.bn.map aZ.av)),(s 1,.arr 3 (x.aY.map Term.av))]
abbrev JT (xs:List (bx×Bool)):Ob:=.mp (xs.map (fun e=>(bx.av e.1,AV.bool e.2)))
abbrev GV (xs:List (ax×ax)):Ob:=.mp (xs.map (fun e=>(AV.str e.1,AV.str e.2)))
abbrev zi (x:aX) (b6 b9:Bk):List AV:=[.str x.Device.Key,.str x.Device.Model,.str x.Device.aK,I x.Device.ak.dX,I x.Device.ak.dY,I x.Device.ak.dI,.sl 2 b6 0 x.Device.bn.length,I x.az,I x.State,.sl 3 b9 0 x.aY.length]
abbrev uw (xs:List aZ):Ob:=.arr 2 (xs.map aZ.av)
abbrev pR (xs:List Term):Ob:=.arr 3 (xs.map Term.av)
abbrev TO (xs:List Term):AV:=.list 3 (xs.map Term.av)
abbrev Qu (xs:List aZ):AV:=.list 2 (xs.map aZ.av)
abbrev Dz (xs:List bd):Ob:=.arr 2 (xs.map bd.av)
abbrev Qv (xs:List Int):AV:=.list 1 (xs.map (AV.int .u8))
abbrev IW (xs:List (ax×Bool)):Ob:=.mp (xs.map (fun e=>(AV.str e.1,AV.bool e.2)))
abbrev Qw:=(fun (e:ax×Bool)=>(AV.str e.1,AV.bool e.2))
abbrev XL (xs:List ab):Ob:=.xR 16 (xs.map ab.av)
abbrev Li (xs:List bd):AV:=.list 2 (xs.map bd.av)
theorem B9 [GI:bz] {ae:Int} {ai:Int} {r:Int} (h:Below ae ai=some r):Pu Tryz.prog 72 [I ae,I ai] (I r):=by
 unfold Below at h
 refine aH.bj Tryz.func72 J Tryz.ntmps72 Tryz.results72 J J ?_
 refine aE<|rA J J<|rN<|tS<|aE<|rM J J<|ah.qv (ca J J) J<|rN<|cD h J (fun h=>?_) (fun h=>?_)
 ·refine aE<|rA J J<|rN<|aa.ret<|?_
  cases h
  exact hP J J
 ·refine tK<|aE<|rM J J<|rM J J<|aG h fun n1 e1 h=>ah.qv (HT J J e1) J<|rA J J<|rN<|tS<|aE<|rM J J<|ah.qv (ca J J) J<|rN<|aa.cut (fun aI=>∃ (n2:Int),ti n2=some r∧aI=⟨16,[(0,I n2)],[]⟩) ?_ ?_
  ·refine cD h J (fun h=>?_) (fun h=>?_)
   ·exact tR<|rM J J<|rM J J<|ah.qv (bh J J) J<|rA J J<|rN<|aa.stop<|aj.lq [] ⟨aU (n1+ai),h,J⟩ J J
   ·exact tK<|aa.stop<|aj.lq [] ⟨n1,h,J⟩ J J
  ·rintro aI ⟨n2,h,rfl⟩
   unfold ti at h
   refine aE<|rM J J<|rA J J<|rN<|aa.ret<|?_
   cases h
   exact hP J J
theorem fc [GI:bz] {aQ:Bk} {ae:an} {ai:Int} {r:Int×an} (h:dJ ae ai=some r):aH Tryz.prog 37 [.ptr aQ 0,I ai] [(aQ,.cells [ic ae.L,I ae.at_])] (T0 ([(aQ,.cells [ic r.2.L,I r.2.at_])]) (I r.1)):=by
 unfold dJ at h
 refine aH.fg ?_
 refine aH.bj Tryz.func37 J Tryz.ntmps37 Tryz.results37 J J ?_
 refine aE<|rA J J<|rN<|aE<|rM J J<|ah.qv (aq J) J<|rF J J J<|rL J J .p0 J J<|ah.qv (bh J J) J<|ah.qv (aq J) J<|rF J J J<|aC J J J J .p0 J J<|rN<|tS<|aE<|rM J J<|ah.qv (aq J) J<|rF J J J<|rL J J .p0 J J<|ah.qv (ff J) J<|ah.qv (bH J J) J<|rN<|cD h J (fun h=>?_) (fun h=>?_)
 ·refine aE<|rM J J<|ah.qv (aq J) J<|rF J J J<|rL J J .p0 J J<|ah.qv (wG J J) J<|rM J J<|aG h fun v1 e1 h=>aM J (B9 e1) cR J<|rA J J<|rN<|aa.ret<|?_
  cases h
  exact hH J [0] J ⟨J,J⟩
 ·refine tK<|tS<|aa.bM (id:=4) (A:=[0,1,3,7,15,0,32,96,224,480,1023,2047]) 12 mixed J (by kernel_rfl) (by kernel_rfl)<|AM.qv (ar J) J<|AM.qv (aq J) J<|AM.qv (au J J) J<|AM.qv (aB J J .p0 J) J<|AM.qv (cE J J) J<|AM.qv (ar J) J<|AM.qv (aq J) J<|AM.qv (au J J) J<|AM.qv (aB J J .p0 J) J<|AM.qv (ff J) J<|aG h fun n2 e2 h=>AM.qv (HT J J e2) J<|AM.qv (bl J) J<|AM.nil<|rN<|tS<|aa.bM (id:=5) (A:=[0,1,3,7,15,0,32,96,224,480,1023,2047]) 12 mixed J (by kernel_rfl) (by kernel_rfl)<|AM.qv (ar J) J<|AM.qv (aq J) J<|AM.qv (au J J) J<|AM.qv (aB J J .p0 J) J<|AM.qv (cE J J) J<|AM.qv (ar J) J<|AM.qv (aq J) J<|AM.qv (au J J) J<|AM.qv (aB J J .p0 J) J<|AM.qv (ff J) J<|aG h fun n3 e3 h=>AM.qv (MX J J e3) J<|AM.qv (bl J) J<|AM.nil<|rN<|aE<|rM J J<|ah.qv (aq J) J<|rF J J J<|rL J J .p0 J J<|rM J J<|aG h fun v4 e4 h=>ah.qv (cu J J J e4 J J) J<|ah.qv (bV J J J) J<|aG h fun v5 e5 h=>aM J (B9 e5) cR J<|rM J J<|rM J J<|ah.qv (bh J J) J<|ah.qv (wG J J) J<|ah.qv (bh J J) J<|rM J J<|aG h fun v6 e6 h=>aM J (B9 e6) cR J<|rA J J<|rN<|aa.ret<|?_
  cases h
  exact hH J [0] J ⟨J,J⟩
theorem bJ [GI:bz] {aQ:Bk} {ae:an} {ai:List ax} {r:ax×an} (h:bI ae ai=some r):aH Tryz.prog 10 [.ptr aQ 0,Rx ai] [(aQ,.cells [ic ae.L,I ae.at_])] (T0 ([(aQ,.cells [ic r.2.L,I r.2.at_])]) (.str r.1)):=by
 unfold bI at h
 refine aH.fg ?_
 refine aH.bj Tryz.func10 J Tryz.ntmps10 Tryz.results10 J J ?_
 refine aE<|rA J J<|rN<|aE<|rM J J<|rM J J<|rM J J<|ah.qv (ff J) J<|aG h fun v1 e1 h=>aV J (fc e1) cR (.cons .p0 .nil) J J<|aG h fun v2 e2 h=>ah.qv (cu J J J e2 J J) J<|ah.qv (bV J J J) J<|rA J J<|rN<|aa.ret<|?_
 cases h
 exact hH J [0] J ⟨J,J⟩
theorem ux [GI:bz] {aQ:Bk} {ae:an} {r:(Model×Model)×an} (h:iX ae=some r):aH Tryz.prog 36 [.ptr aQ 0] [(aQ,.cells [ic ae.L,I ae.at_])] (T3 (fun oP tw IX=>[(aQ,.cells [ic r.2.L,I r.2.at_]),((⟨some oP,2⟩:Bk),.cells [.str r.1.1.Key,.str r.1.1.Prefix,.sl 4 tw 0 r.1.1.ba.length,.str r.1.2.Key,.str r.1.2.Prefix,.sl 4 IX 0 r.1.2.ba.length]),(tw,Bd r.1.1.ba),(IX,Bd r.1.2.ba)]) (fun oP tw IX=>.sl 3 (⟨some oP,2⟩:Bk) 0 2)):=by
 unfold iX at h
 refine aH.fg ?_
 refine aH.bj Tryz.func36 J Tryz.ntmps36 Tryz.results36 J J ?_
 refine aE<|rA J J<|rN<|aE<|ah.qv (cW J J J J J) J<|ah.qv (cW J J J J J) J<|ah.qv (cW J J J J J) J<|jS J J J J J J fun b1=>ah.qv (cW J J J J J) J<|rM J J<|aT (xs:=([([65,66,67]:ax),([88,89]:ax),([90,90,90,90]:ax)]).map AV.str) J J J J J J<|aG h fun v2 e1 h=>aV J (bJ e1) cR (.cons .p1 .nil) J J<|ah.qv (cW J J J J J) J<|jS J J J J J J fun b3=>ah.qv (cW J J J J J) J<|Ag (xs:=[.agg [.str ([109,97]:ax),.str ([65,66]:ax),.sl 4 b1 0 [(⟨([97]:ax),(2:Int),(-5:Int),(50:Int)⟩:aL),(⟨([98]:ax),(3:Int),(0:Int),(0:Int)⟩:aL),(⟨([102,97,110,46,111,110]:ax),(1:Int),(0:Int),(0:Int)⟩:aL)].length],.agg [.str ([109,98]:ax),.str v2.1,.sl 4 b3 0 [(⟨([97]:ax),(1:Int),(0:Int),(0:Int)⟩:aL)].length]]) J J J J J J fun m4=>ah.ghost<|aj.IB .p0 J J<|aj.here<|?_
 generalize e2:(⟨some m4,2⟩:Bk)=b5
 refine rA J J<|rN<|aa.ret<|?_
 cases h
 subst e2
 exact hH J [2,0,1,0] J ⟨m4,b1,b3,J,J⟩
theorem mg [GI:bz] {aQ:Bk} {ae:an} {ai:Int} {r:Bool×an} (h:ia ae ai=some r):aH Tryz.prog 11 [.ptr aQ 0,I ai] [(aQ,.cells [ic ae.L,I ae.at_])] (T0 ([(aQ,.cells [ic r.2.L,I r.2.at_])]) (.bool r.1)):=by
 unfold ia at h
 refine aH.fg ?_
 refine aH.bj Tryz.func11 J Tryz.ntmps11 Tryz.results11 J J ?_
 refine aE<|rA J J<|rN<|aE<|rM J J<|rM J J<|aG h fun v1 e1 h=>aV J (fc e1) cR (.cons .p0 .nil) J J<|ah.qv (bH J J) J<|rA J J<|rN<|aa.ret<|?_
 cases h
 exact hH J [0] J ⟨J,J⟩
theorem dO [GI:bz] {aQ:Bk} {ae:an} {ai:List Int} {r:Int×an} (h:cS ae ai=some r):aH Tryz.prog 9 [.ptr aQ 0,ic ai] [(aQ,.cells [ic ae.L,I ae.at_])] (T0 ([(aQ,.cells [ic r.2.L,I r.2.at_])]) (I r.1)):=by
 unfold cS at h
 refine aH.fg ?_
 refine aH.bj Tryz.func9 J Tryz.ntmps9 Tryz.results9 J J ?_
 refine aE<|rA J J<|rN<|aE<|rM J J<|rM J J<|rM J J<|ah.qv (ff J) J<|aG h fun v1 e1 h=>aV J (fc e1) cR (.cons .p0 .nil) J J<|aG h fun v2 e2 h=>ah.qv (cu J J J e2 J J) J<|ah.qv (bV J J J) J<|rA J J<|rN<|aa.ret<|?_
 cases h
 exact hH J [0] J ⟨J,J⟩
theorem tx [GI:bz] {aQ:Bk} {ae:an} {ai:Int} {ao:Int} {r:Int×an} (h:jV ae ai ao=some r):aH Tryz.prog 7 [.ptr aQ 0,I ai,I ao] [(aQ,.cells [ic ae.L,I ae.at_])] (T0 ([(aQ,.cells [ic r.2.L,I r.2.at_])]) (I r.1)):=by
 unfold jV at h
 refine aH.fg ?_
 refine aH.bj Tryz.func7 J Tryz.ntmps7 Tryz.results7 J J ?_
 refine aE<|rA J J<|rN<|tS<|aE<|rM J J<|rM J J<|ah.qv (ca J J) J<|rN<|cD h J (fun h=>?_) (fun h=>?_)
 ·refine aE<|rM J J<|rA J J<|rN<|aa.ret<|?_
  cases h
  exact hH J [0] J ⟨J,J⟩
 ·refine tK<|aE<|rM J J<|rM J J<|rM J J<|rM J J<|ah.qv (cE J J) J<|ah.qv (bh J J) J<|aG h fun v1 e1 h=>aV J (fc e1) cR (.cons .p0 .nil) J J<|ah.qv (bh J J) J<|rA J J<|rN<|aa.ret<|?_
  cases h
  exact hH J [0] J ⟨J,J⟩
theorem gW [GI:bz] {aQ:Bk} {ae:an} {ai:Int} {ao:Int} {r:Int×an} (h:fj ae ai ao=some r):aH Tryz.prog 38 [.ptr aQ 0,I ai,I ao] [(aQ,.cells [ic ae.L,I ae.at_])] (T0 ([(aQ,.cells [ic r.2.L,I r.2.at_])]) (I r.1)):=by
 unfold fj at h
 refine aH.fg ?_
 refine aH.bj Tryz.func38 J Tryz.ntmps38 Tryz.results38 J J ?_
 refine aE<|rA J J<|rN<|tS<|aE<|rM J J<|aG h fun v1 e1 h=>aV J (mg e1) cR (.cons .p0 .nil) J J<|rN<|cB h J (fun h=>?_) (fun h=>?_)
 ·refine aE<|rM J J<|rM J J<|ah.qv (cE J J) J<|rM J J<|ah.qv (bh J J) J<|rM J J<|rM J J<|aT (xs:=([aU (ai - (1:Int)),aU (ao+(1:Int)),ai,ao,(-1099511627776:Int),(1099511627776:Int)]).map I) J J J J J J<|aG h fun v2 e2 h=>aV J (dO e2) cR (.cons .p0 .nil) J J<|rA J J<|rN<|aa.ret<|?_
  cases h
  exact hH J [0] J ⟨J,J⟩
 ·refine tK<|aE<|rM J J<|rM J J<|rM J J<|aG h fun v3 e3 h=>aV J (tx e3) cR (.cons .p0 .nil) J J<|rA J J<|rN<|aa.ret<|?_
  cases h
  exact hH J [0] J ⟨J,J⟩
theorem zj [GI:bz] {aQ:Bk} {ae:an} {r:(List Model)×an} (h:mW ae=some r):aH Tryz.prog 5 [.ptr aQ 0] [(aQ,.cells [ic ae.L,I ae.at_])] (T0 ([(aQ,.cells [ic r.2.L,I r.2.at_])]) (pa r.1)):=by
 unfold mW at h
 refine aH.fg ?_
 refine aH.bj Tryz.func5 J Tryz.ntmps5 Tryz.results5 J J ?_
 refine aE<|rA J J<|rN<|aE<|rM J J<|aG h fun v1 e1 h=>KL J (ux e1) cR (.cons .p0 .nil) (fun _ _ _=>J) J fun m2 b4 b5=>?_
 generalize e2:(⟨some m2,2⟩:Bk)=b3
 refine rA J J<|rN<|tS<|aE<|rM J J<|aG h fun v6 e3 h=>aV J (mg e3) cR (.cons .p0 .nil) J J<|rN<|aa.cut (fun aI=>∃ (b9:Bk) (l7:List Int) (n8:Int) (l10:List Model),iR l7 n8 l10=some r∧aI=⟨71,[(3,.sl 3 b9 0 l10.length)],[(aQ,.cells [ic l7,I n8]),(b9,Lh l10)]⟩) ?_ ?_
 ·refine cB h J (fun h=>?_) (fun h=>?_)
  ·refine aE<|rM J J<|rM J J<|aG h fun v11 e4 h=>aV J (fc e4) cR (.cons .p0 .nil) J J<|Classical.byCases (p:=v11.1=(0:Int)) (fun Lj=>?_) (fun Lj=>?_)
   ·replace h:=nv Lj h
    refine ah.qv (xD (q:=0) (o:=0) J J J Lj J J) J<|rA J J<|rN<|aE<|rM J J<|aG h fun v12 e6 h=>aV J (fc e6) cR (.cons .p0 .nil) J J<|rN<|aa.block<|aE<|ah.qv (bH J J) J<|rA J J<|rN<|aa.cut (fun aI=>∃ (Hr:Bk) (Ai:List Int) (n14:Int) (Bb:List Model),j9 Ai n14 Bb=some r∧aI=⟨71,[(3,.sl 3 Hr 0 Bb.length)],[(aQ,.cells [ic Ai,I n14]),(Hr,Lh Bb)]⟩) ?_ ?_
    ·refine cD h J (fun h=>?_) (fun h=>?_)
     ·exact tR<|rM J J<|rM J J<|aT (xs:=([([]:ax),([109,97]:ax),([65]:ax)]).map AV.str) J J J J J J<|aG h fun v17 e7 h=>aV J (bJ e7) cR (.cons .p0 .nil) J J<|ah.qv (aq J) J<|rF J J J<|aC J J J J .p1 J J<|rN<|aa.stop<|aj.freeze .p2<|aj.lM (j:=2) .p1 J (Co.nL .p2) J J<|aj.freeze .p3<|aj.lM (j:=5) .p1 J (Co.nL .p3) J J<|aj.kT (xs:=([(⟨v17.1,v1.1.1.Prefix,v1.1.1.ba⟩:Model),v1.1.2]:List Model).map Model.av) e2 .p1 J J J<|aj.lq [0,0] ⟨b3,v17.2.L,v17.2.at_,[(⟨v17.1,v1.1.1.Prefix,v1.1.1.ba⟩:Model),v1.1.2],h,J⟩ J J
     ·refine aE<|ah.qv (bH J J) J<|rA J J<|rN<|aa.cut (fun aI=>∃ (Rz:Bk) (vV:List Int) (n19:Int) (Ef:List Model),kc vV n19 Ef=some r∧aI=⟨71,[(3,.sl 3 Rz 0 Ef.length)],[(aQ,.cells [ic vV,I n19]),(Rz,Lh Ef)]⟩) ?_ ?_
      ·refine cD h J (fun h=>?_) (fun h=>?_)
       ·exact tR<|rM J J<|rM J J<|aT (xs:=([([65]:ax),([65,66,67,68,69]:ax),([97,98]:ax),([65,66]:ax),([65,49]:ax)]).map AV.str) J J J J J J<|aG h fun v22 e8 h=>aV J (bJ e8) cR (.cons .p0 .nil) J J<|ah.qv (aq J) J<|rF J J J<|aC J J J J .p1 J J<|rN<|aa.stop<|aj.freeze .p2<|aj.lM (j:=2) .p1 J (Co.nL .p2) J J<|aj.freeze .p3<|aj.lM (j:=5) .p1 J (Co.nL .p3) J J<|aj.kT (xs:=([(⟨v1.1.1.Key,v22.1,v1.1.1.ba⟩:Model),v1.1.2]:List Model).map Model.av) e2 .p1 J J J<|aj.lq [0,0] ⟨b3,v22.2.L,v22.2.at_,[(⟨v1.1.1.Key,v22.1,v1.1.1.ba⟩:Model),v1.1.2],h,J⟩ J J
       ·refine aE<|ah.qv (bH J J) J<|rA J J<|rN<|aa.cut (fun aI=>∃ (FY:Bk) (On:List Int) (n24:Int) (yn:List Model),kd On n24 yn=some r∧aI=⟨71,[(3,.sl 3 FY 0 yn.length)],[(aQ,.cells [ic On,I n24]),(FY,Lh yn)]⟩) ?_ ?_
        ·refine cD h J (fun h=>?_) (fun h=>?_)
         ·refine aG h fun Bc e9 h=>aG h fun v28 Eg h=>aG h fun oN Hs h=>aa.gg (id:=11) (A:=[0,0,2,6,14,0,0,96,0,480,992,2016,4094,8191,16383,32767]) (H0:=[(aQ,.cells [ic v12.2.L,I v12.2.at_]),(b4,Bd v1.1.1.ba)]) (HH:=fun β=>[(aQ,.cells [ic v28.2.L,I v28.2.at_]),((β 12),Bd oN),(b3,.cells [.str v1.1.1.Key,.str v1.1.1.Prefix,.sl 4 b4 0 v1.1.1.ba.length,.str v1.1.2.Key,.str v1.1.2.Prefix,.sl 4 b5 0 v1.1.2.ba.length]),(b5,Bd v1.1.2.ba)]) 13 mixed J (by kernel_rfl) (by kernel_rfl) [⟨none,some 7,[],fun _=>(aQ,.cells [ic v12.2.L,I v12.2.at_]),none,[]⟩,⟨none,some 12,[],fun _=>(b4,Bd v1.1.1.ba),none,[]⟩,⟨some 7,some 9,[],fun _=>(aQ,.cells [ic Bc.2.L,I Bc.2.at_]),none,[]⟩,⟨some 9,none,[],fun _=>(aQ,.cells [ic v28.2.L,I v28.2.at_]),none,[]⟩,⟨some 12,none,[],fun b=>(b,Bd oN),none,[]⟩] [12] J (by kernel_rfl) J (.cons .p0 (.cons .p1 .nil)) (fun _=>J)<|AT.am 7 J J<|AM.qv (ar J) J<|AM.qv (ar J) J<|AM.qv (aq J) J<|AM.qv (au J J) J<|AM.qv (aB J J .p0 J) J<|AM.qv (ar J) J<|AM.ec (xs:=([([122,122]:ax),([97]:ax),([97,46,46,98]:ax),([65]:ax),([97,46,98,46,99,46,100,46,101,46,102]:ax)]).map AV.str) J J J J J J<|AM.nil<|AT.xV (av:=.str Bc.1) (Ti:=[(aQ,.cells [ic v12.2.L,I v12.2.at_])]) (Pi:=[(aQ,.cells [ic Bc.2.L,I Bc.2.at_])]) (fun _=>J) (fun _=>J) (fun _=>J) J J J ?_ ?_
          ·exact aV J (bJ e9) cR (.cons .p0 .nil) J J<|ah.nil ⟨_,J,J⟩
          refine AT.am 1 J J<|AM.qv (ar J) J<|AM.nil<|AT.xV (av:=I v28.1) (Ti:=[(aQ,.cells [ic Bc.2.L,I Bc.2.at_])]) (Pi:=[(aQ,.cells [ic v28.2.L,I v28.2.at_])]) (fun _=>J) (fun _=>J) (fun _=>J) J J J ?_ ?_
          ·exact aV J (gW Eg) cR (.cons .p0 .nil) J J<|ah.nil ⟨_,J,J⟩
          refine AT.am 2 J J<|AM.qv (cW J J J J J) J<|AM.ec (xs:=([(⟨Bc.1,v28.1,(0:Int),(0:Int)⟩:aL)]).map aL.av) J J J J J J<|AM.nil<|AT.Ey (V:=fun b=>.sl 4 b 0 oN.length) (Ti:=[(b4,Bd v1.1.1.ba)]) (Pi:=fun b=>[(b,Bd oN)]) (fun _=>J) (fun _=>J) (fun _ _=>J) J (fun _=>J) J J J ?_ ?_
          ·exact iz (g:=aL.av) J J J J J J J J (.list _) Hs (fun _=>.p0) J fun XM=>ah.nil ⟨XM,_,J,J⟩
          refine AT.ra (fun _=>J) fun β=>?_
          generalize β 12=XM
          clear β
          exact ah.qv (aq J) J<|rF J J J<|aC J J J J .p2 J J<|rN<|aa.stop<|aj.freeze .p1<|aj.lM (j:=2) .p2 J (Co.nL .p1) J J<|aj.freeze .p3<|aj.lM (j:=5) .p2 J (Co.nL .p3) J J<|aj.kT (xs:=([(⟨v1.1.1.Key,v1.1.1.Prefix,oN⟩:Model),v1.1.2]:List Model).map Model.av) e2 .p2 J J J<|aj.lq [0,1] ⟨b3,v28.2.L,v28.2.at_,[(⟨v1.1.1.Key,v1.1.1.Prefix,oN⟩:Model),v1.1.2],h,J⟩ J J
         ·refine aE<|ah.qv (bH J J) J<|rA J J<|rN<|aa.cut (fun aI=>∃ (RA:Bk) (Oo:List Int) (n32:Int) (Dy:List Model),ke Oo n32 Dy=some r∧aI=⟨71,[(3,.sl 3 RA 0 Dy.length)],[(aQ,.cells [ic Oo,I n32]),(RA,Lh Dy)]⟩) ?_ ?_
          ·refine cD h J (fun h=>?_) (fun h=>?_)
           ·refine aG h fun v35 Be h=>aG h fun B5 JU h=>aa.gg (id:=13) (A:=[0,1,3,7,0,16,48,112,0,256,0,1792,4095,8191,16383,32767,65535,131071]) (H0:=[(aQ,.cells [ic v12.2.L,I v12.2.at_])]) (HH:=fun β=>[(aQ,.cells [ic B5.2.L,I B5.2.at_]),(b3,.cells [.str v1.1.1.Key,.str v1.1.1.Prefix,.sl 4 b4 0 v1.1.1.ba.length,.str v1.1.2.Key,.str v1.1.2.Prefix,.sl 4 b5 0 v1.1.2.ba.length]),(b4,Bd v1.1.1.ba),(b5,Bd v1.1.2.ba)]) 12 mixed J (by kernel_rfl) (by kernel_rfl) [⟨none,some 9,[],fun _=>(aQ,.cells [ic v12.2.L,I v12.2.at_]),none,[]⟩,⟨some 9,some 11,[],fun _=>(aQ,.cells [ic v35.2.L,I v35.2.at_]),none,[]⟩,⟨some 11,none,[],fun _=>(aQ,.cells [ic B5.2.L,I B5.2.at_]),none,[]⟩] [] J (by kernel_rfl) J (.cons .p0 .nil) (fun _=>J)<|AT.am 9 J J<|AM.qv (ar J) J<|AM.qv (aq J) J<|AM.qv (au J J) J<|AM.qv (aB J J .p0 J) J<|AM.qv (ar J) J<|AM.qv (aq J) J<|AM.qv (au J J) J<|AM.qv (aB J J .p0 J) J<|AM.qv (ar J) J<|AM.nil<|AT.xV (av:=I v35.1) (Ti:=[(aQ,.cells [ic v12.2.L,I v12.2.at_])]) (Pi:=[(aQ,.cells [ic v35.2.L,I v35.2.at_])]) (fun _=>J) (fun _=>J) (fun _=>J) J J J ?_ ?_
            ·exact aV J (gW Be) cR (.cons .p0 .nil) J J<|ah.nil ⟨_,J,J⟩
            refine AT.am 1 J J<|AM.qv (ar J) J<|AM.nil<|AT.xV (av:=I B5.1) (Ti:=[(aQ,.cells [ic v35.2.L,I v35.2.at_])]) (Pi:=[(aQ,.cells [ic B5.2.L,I B5.2.at_])]) (fun _=>J) (fun _=>J) (fun _=>J) J J J ?_ ?_
            ·exact aV J (gW JU) cR (.cons .p0 .nil) J J<|ah.nil ⟨_,J,J⟩
            exact AT.ra (fun _=>J) fun β=>aG h fun v37 IY h=>ah.qv (bc J J J IY) J<|ah.qv (bg J J) J<|bA (g:=aL.av) (vb:=(⟨v37.Name,v37.Kind,v35.1,v37.iA⟩:aL)) J J J J IY J .p2 J<|ah.ghost<|aj.eqs (s:=57) (dt:=.sl 4 b4 0 (v1.1.1.ba.set (0:Int).toNat (⟨v37.Name,v37.Kind,v35.1,v37.iA⟩:aL)).length) J (by rw [List.length_set])<|aj.here<|ah.ghost<|aj.eqs (s:=61) (dt:=.sl 4 b4 0 (v1.1.1.ba.set (0:Int).toNat (⟨v37.Name,v37.Kind,v35.1,v37.iA⟩:aL)).length) J (by rw [List.length_set])<|aj.here<|ah.ghost<|aj.vC (j:=2) (dt:=.sl 4 b4 0 (v1.1.1.ba.set (0:Int).toNat (⟨v37.Name,v37.Kind,v35.1,v37.iA⟩:aL)).length) .p1 J (by rw [List.length_set]) J<|aj.here<|aG h fun aD IZ h=>ah.qv (bc J J J IZ) J<|ah.qv (bg J J) J<|bA (g:=aL.av) (vb:=(⟨aD.Name,aD.Kind,aD.vj,B5.1⟩:aL)) J J J J IZ J .p2 J<|ah.ghost<|aj.eqs (s:=57) (dt:=.sl 4 b4 0 ((v1.1.1.ba.set (0:Int).toNat (⟨v37.Name,v37.Kind,v35.1,v37.iA⟩:aL)).set (0:Int).toNat (⟨aD.Name,aD.Kind,aD.vj,B5.1⟩:aL)).length) J (by rw [List.length_set])<|aj.here<|ah.ghost<|aj.eqs (s:=61) (dt:=.sl 4 b4 0 ((v1.1.1.ba.set (0:Int).toNat (⟨v37.Name,v37.Kind,v35.1,v37.iA⟩:aL)).set (0:Int).toNat (⟨aD.Name,aD.Kind,aD.vj,B5.1⟩:aL)).length) J (by rw [List.length_set])<|aj.here<|ah.ghost<|aj.vC (j:=2) (dt:=.sl 4 b4 0 ((v1.1.1.ba.set (0:Int).toNat (⟨v37.Name,v37.Kind,v35.1,v37.iA⟩:aL)).set (0:Int).toNat (⟨aD.Name,aD.Kind,aD.vj,B5.1⟩:aL)).length) .p1 J (by rw [List.length_set]) J<|aj.here<|rN<|aa.stop<|aj.freeze .p2<|aj.lM (j:=2) .p1 J (Co.nL .p2) J J<|aj.freeze .p3<|aj.lM (j:=5) .p1 J (Co.nL .p3) J J<|aj.kT (xs:=([(⟨v1.1.1.Key,v1.1.1.Prefix,(v1.1.1.ba.set (0:Int).toNat (⟨v37.Name,v37.Kind,v35.1,v37.iA⟩:aL)).set (0:Int).toNat (⟨aD.Name,aD.Kind,aD.vj,B5.1⟩:aL)⟩:Model),v1.1.2]:List Model).map Model.av) e2 .p1 J J J<|aj.lq [0,0] ⟨b3,B5.2.L,B5.2.at_,[(⟨v1.1.1.Key,v1.1.1.Prefix,(v1.1.1.ba.set (0:Int).toNat (⟨v37.Name,v37.Kind,v35.1,v37.iA⟩:aL)).set (0:Int).toNat (⟨aD.Name,aD.Kind,aD.vj,B5.1⟩:aL)⟩:Model),v1.1.2],h,J⟩ J J
           ·exact tR<|rM J J<|ah.qv (cW J J J J J) J<|aT (xs:=[.agg [.str ([109,122]:ax),.str ([81,81]:ax),.nil]]) J J J J J J<|ah.ghost<|aj.Sh (s:=17) (dt:=.list 3 (([(⟨([109,122]:ax),([81,81]:ax),[]⟩:Model)]:List Model).map Model.av)) J (Ae.H9 (.cons .r (.cons .r (.cons .n .nil))) J J)<|aj.here<|ah.ghost<|aj.freeze .p2<|aj.here<|ah.ghost<|aj.lM (j:=2) .p1 J (Co.nL .p2) J J<|aj.here<|ah.ghost<|aj.freeze .p3<|aj.here<|ah.ghost<|aj.lM (j:=5) .p1 J (Co.nL .p3) J J<|aj.here<|ah.ghost<|aj.kT (xs:=([v1.1.1,v1.1.2]:List Model).map Model.av) e2 .p1 J J J<|aj.here<|aG h fun JQ JV h=>iz (g:=Model.av) J J J J J J J J (.list _) JV (fun _=>.p1) J fun b40=>rA J J<|rN<|aa.stop<|aj.lq [0,0] ⟨b40,v12.2.L,v12.2.at_,JQ,h,J⟩ J J
          ·rintro aI ⟨RA,Oo,n32,Dy,h,rfl⟩
           unfold ke at h
           exact aa.stop<|aj.lq [0,0] ⟨RA,Oo,n32,Dy,h,J⟩ J J
        ·rintro aI ⟨FY,On,n24,yn,h,rfl⟩
         unfold kd at h
         exact aa.stop<|aj.lq [0,0] ⟨FY,On,n24,yn,h,J⟩ J J
      ·rintro aI ⟨Rz,vV,n19,Ef,h,rfl⟩
       unfold kc at h
       exact aa.stop<|aj.lq [0,0] ⟨Rz,vV,n19,Ef,h,J⟩ J J
    ·rintro aI ⟨Hr,Ai,n14,Bb,h,rfl⟩
     unfold j9 at h
     exact aa.cr<|aa.stop<|aj.lq [0,0] ⟨Hr,Ai,n14,Bb,h,J⟩ J J
   ·replace h:=vz Lj h
    refine Classical.byCases (p:=v11.1=(1:Int)) (fun FZ=>?_) (fun FZ=>?_)
    ·replace h:=nv FZ h
     refine ah.qv (xD (q:=1) (o:=3) J J J FZ J J) J<|rA J J<|rN<|aE<|rM J J<|aG h fun v41 Lk h=>aV J (fc Lk) cR (.cons .p0 .nil) J J<|rN<|aa.block<|aE<|ah.qv (bH J J) J<|rA J J<|rN<|aa.cut (fun aI=>∃ (RB:Bk) (Oq:List Int) (n43:Int) (Nv:List Model),kf Oq n43 Nv=some r∧aI=⟨71,[(3,.sl 3 RB 0 Nv.length)],[(aQ,.cells [ic Oq,I n43]),(RB,Lh Nv)]⟩) ?_ ?_
     ·refine cD h J (fun h=>?_) (fun h=>?_)
      ·exact tR<|rM J J<|rM J J<|aT (xs:=([([]:ax),([109,97]:ax),([65]:ax)]).map AV.str) J J J J J J<|aG h fun v46 NJ h=>aV J (bJ NJ) cR (.cons .p0 .nil) J J<|ah.qv (aq J) J<|rF J J J<|aC J J J J .p1 J J<|rN<|aa.stop<|aj.freeze .p2<|aj.lM (j:=2) .p1 J (Co.nL .p2) J J<|aj.freeze .p3<|aj.lM (j:=5) .p1 J (Co.nL .p3) J J<|aj.kT (xs:=([v1.1.1,(⟨v46.1,v1.1.2.Prefix,v1.1.2.ba⟩:Model)]:List Model).map Model.av) e2 .p1 J J J<|aj.lq [0,0] ⟨b3,v46.2.L,v46.2.at_,[v1.1.1,(⟨v46.1,v1.1.2.Prefix,v1.1.2.ba⟩:Model)],h,J⟩ J J
      ·refine aE<|ah.qv (bH J J) J<|rA J J<|rN<|aa.cut (fun aI=>∃ (RC:Bk) (wE:List Int) (n48:Int) (zV:List Model),kh wE n48 zV=some r∧aI=⟨71,[(3,.sl 3 RC 0 zV.length)],[(aQ,.cells [ic wE,I n48]),(RC,Lh zV)]⟩) ?_ ?_
       ·refine cD h J (fun h=>?_) (fun h=>?_)
        ·exact tR<|rM J J<|rM J J<|aT (xs:=([([65]:ax),([65,66,67,68,69]:ax),([97,98]:ax),([65,66]:ax),([65,49]:ax)]).map AV.str) J J J J J J<|aG h fun v51 NK h=>aV J (bJ NK) cR (.cons .p0 .nil) J J<|ah.qv (aq J) J<|rF J J J<|aC J J J J .p1 J J<|rN<|aa.stop<|aj.freeze .p2<|aj.lM (j:=2) .p1 J (Co.nL .p2) J J<|aj.freeze .p3<|aj.lM (j:=5) .p1 J (Co.nL .p3) J J<|aj.kT (xs:=([v1.1.1,(⟨v1.1.2.Key,v51.1,v1.1.2.ba⟩:Model)]:List Model).map Model.av) e2 .p1 J J J<|aj.lq [0,0] ⟨b3,v51.2.L,v51.2.at_,[v1.1.1,(⟨v1.1.2.Key,v51.1,v1.1.2.ba⟩:Model)],h,J⟩ J J
        ·refine aE<|ah.qv (bH J J) J<|rA J J<|rN<|aa.cut (fun aI=>∃ (RD:Bk) (Ot:List Int) (Ou:Int) (Nw:List Model),ki Ot Ou Nw=some r∧aI=⟨71,[(3,.sl 3 RD 0 Nw.length)],[(aQ,.cells [ic Ot,I Ou]),(RD,Lh Nw)]⟩) ?_ ?_
         ·refine cD h J (fun h=>?_) (fun h=>?_)
          ·refine aG h fun IU TP h=>aG h fun FX e22 h=>aG h fun Mj e23 h=>aa.gg (id:=11) (A:=[0,0,2,6,14,0,0,96,0,480,992,2016,4094,8191,16383,32767]) (H0:=[(aQ,.cells [ic v41.2.L,I v41.2.at_]),(b5,Bd v1.1.2.ba)]) (HH:=fun β=>[(aQ,.cells [ic FX.2.L,I FX.2.at_]),((β 12),Bd Mj),(b3,.cells [.str v1.1.1.Key,.str v1.1.1.Prefix,.sl 4 b4 0 v1.1.1.ba.length,.str v1.1.2.Key,.str v1.1.2.Prefix,.sl 4 b5 0 v1.1.2.ba.length]),(b4,Bd v1.1.1.ba)]) 13 mixed J (by kernel_rfl) (by kernel_rfl) [⟨none,some 7,[],fun _=>(aQ,.cells [ic v41.2.L,I v41.2.at_]),none,[]⟩,⟨none,some 12,[],fun _=>(b5,Bd v1.1.2.ba),none,[]⟩,⟨some 7,some 9,[],fun _=>(aQ,.cells [ic IU.2.L,I IU.2.at_]),none,[]⟩,⟨some 9,none,[],fun _=>(aQ,.cells [ic FX.2.L,I FX.2.at_]),none,[]⟩,⟨some 12,none,[],fun b=>(b,Bd Mj),none,[]⟩] [12] J (by kernel_rfl) J (.cons .p0 (.cons .p2 .nil)) (fun _=>J)<|AT.am 7 J J<|AM.qv (ar J) J<|AM.qv (ar J) J<|AM.qv (aq J) J<|AM.qv (au J J) J<|AM.qv (aB J J .p0 J) J<|AM.qv (ar J) J<|AM.ec (xs:=([([122,122]:ax),([97]:ax),([97,46,46,98]:ax),([65]:ax),([97,46,98,46,99,46,100,46,101,46,102]:ax)]).map AV.str) J J J J J J<|AM.nil<|AT.xV (av:=.str IU.1) (Ti:=[(aQ,.cells [ic v41.2.L,I v41.2.at_])]) (Pi:=[(aQ,.cells [ic IU.2.L,I IU.2.at_])]) (fun _=>J) (fun _=>J) (fun _=>J) J J J ?_ ?_
           ·exact aV J (bJ TP) cR (.cons .p0 .nil) J J<|ah.nil ⟨_,J,J⟩
           refine AT.am 1 J J<|AM.qv (ar J) J<|AM.nil<|AT.xV (av:=I FX.1) (Ti:=[(aQ,.cells [ic IU.2.L,I IU.2.at_])]) (Pi:=[(aQ,.cells [ic FX.2.L,I FX.2.at_])]) (fun _=>J) (fun _=>J) (fun _=>J) J J J ?_ ?_
           ·exact aV J (gW e22) cR (.cons .p0 .nil) J J<|ah.nil ⟨_,J,J⟩
           refine AT.am 2 J J<|AM.qv (cW J J J J J) J<|AM.ec (xs:=([(⟨IU.1,FX.1,(0:Int),(0:Int)⟩:aL)]).map aL.av) J J J J J J<|AM.nil<|AT.Ey (V:=fun b=>.sl 4 b 0 Mj.length) (Ti:=[(b5,Bd v1.1.2.ba)]) (Pi:=fun b=>[(b,Bd Mj)]) (fun _=>J) (fun _=>J) (fun _ _=>J) J (fun _=>J) J J J ?_ ?_
           ·exact iz (g:=aL.av) J J J J J J J J (.list _) e23 (fun _=>.p0) J fun XN=>ah.nil ⟨XN,_,J,J⟩
           refine AT.ra (fun _=>J) fun β=>?_
           generalize β 12=XN
           clear β
           exact ah.qv (aq J) J<|rF J J J<|aC J J J J .p2 J J<|rN<|aa.stop<|aj.freeze .p3<|aj.lM (j:=2) .p2 J (Co.nL .p3) J J<|aj.freeze .p1<|aj.lM (j:=5) .p2 J (Co.nL .p1) J J<|aj.kT (xs:=([v1.1.1,(⟨v1.1.2.Key,v1.1.2.Prefix,Mj⟩:Model)]:List Model).map Model.av) e2 .p2 J J J<|aj.lq [0,1] ⟨b3,FX.2.L,FX.2.at_,[v1.1.1,(⟨v1.1.2.Key,v1.1.2.Prefix,Mj⟩:Model)],h,J⟩ J J
          ·refine aE<|ah.qv (bH J J) J<|rA J J<|rN<|aa.cut (fun aI=>∃ (RE:Bk) (Ov:List Int) (n61:Int) (Nx:List Model),kj Ov n61 Nx=some r∧aI=⟨71,[(3,.sl 3 RE 0 Nx.length)],[(aQ,.cells [ic Ov,I n61]),(RE,Lh Nx)]⟩) ?_ ?_
           ·refine cD h J (fun h=>?_) (fun h=>?_)
            ·refine aG h fun v64 e24 h=>aG h fun B6 e25 h=>aa.gg (id:=13) (A:=[0,1,3,7,0,16,48,112,0,256,0,1792,4095,8191,16383,32767,65535,131071]) (H0:=[(aQ,.cells [ic v41.2.L,I v41.2.at_])]) (HH:=fun β=>[(aQ,.cells [ic B6.2.L,I B6.2.at_]),(b3,.cells [.str v1.1.1.Key,.str v1.1.1.Prefix,.sl 4 b4 0 v1.1.1.ba.length,.str v1.1.2.Key,.str v1.1.2.Prefix,.sl 4 b5 0 v1.1.2.ba.length]),(b4,Bd v1.1.1.ba),(b5,Bd v1.1.2.ba)]) 12 mixed J (by kernel_rfl) (by kernel_rfl) [⟨none,some 9,[],fun _=>(aQ,.cells [ic v41.2.L,I v41.2.at_]),none,[]⟩,⟨some 9,some 11,[],fun _=>(aQ,.cells [ic v64.2.L,I v64.2.at_]),none,[]⟩,⟨some 11,none,[],fun _=>(aQ,.cells [ic B6.2.L,I B6.2.at_]),none,[]⟩] [] J (by kernel_rfl) J (.cons .p0 .nil) (fun _=>J)<|AT.am 9 J J<|AM.qv (ar J) J<|AM.qv (aq J) J<|AM.qv (au J J) J<|AM.qv (aB J J .p0 J) J<|AM.qv (ar J) J<|AM.qv (aq J) J<|AM.qv (au J J) J<|AM.qv (aB J J .p0 J) J<|AM.qv (ar J) J<|AM.nil<|AT.xV (av:=I v64.1) (Ti:=[(aQ,.cells [ic v41.2.L,I v41.2.at_])]) (Pi:=[(aQ,.cells [ic v64.2.L,I v64.2.at_])]) (fun _=>J) (fun _=>J) (fun _=>J) J J J ?_ ?_
             ·exact aV J (gW e24) cR (.cons .p0 .nil) J J<|ah.nil ⟨_,J,J⟩
             refine AT.am 1 J J<|AM.qv (ar J) J<|AM.nil<|AT.xV (av:=I B6.1) (Ti:=[(aQ,.cells [ic v64.2.L,I v64.2.at_])]) (Pi:=[(aQ,.cells [ic B6.2.L,I B6.2.at_])]) (fun _=>J) (fun _=>J) (fun _=>J) J J J ?_ ?_
             ·exact aV J (gW e25) cR (.cons .p0 .nil) J J<|ah.nil ⟨_,J,J⟩
             exact AT.ra (fun _=>J) fun β=>aG h fun v66 XO h=>ah.qv (bc J J J XO) J<|ah.qv (bg J J) J<|bA (g:=aL.av) (vb:=(⟨v66.Name,v66.Kind,v64.1,v66.iA⟩:aL)) J J J J XO J .p3 J<|ah.ghost<|aj.eqs (s:=57) (dt:=.sl 4 b5 0 (v1.1.2.ba.set (0:Int).toNat (⟨v66.Name,v66.Kind,v64.1,v66.iA⟩:aL)).length) J (by rw [List.length_set])<|aj.here<|ah.ghost<|aj.eqs (s:=61) (dt:=.sl 4 b5 0 (v1.1.2.ba.set (0:Int).toNat (⟨v66.Name,v66.Kind,v64.1,v66.iA⟩:aL)).length) J (by rw [List.length_set])<|aj.here<|ah.ghost<|aj.vC (j:=5) (dt:=.sl 4 b5 0 (v1.1.2.ba.set (0:Int).toNat (⟨v66.Name,v66.Kind,v64.1,v66.iA⟩:aL)).length) .p1 J (by rw [List.length_set]) J<|aj.here<|aG h fun v67 XP h=>ah.qv (bc J J J XP) J<|ah.qv (bg J J) J<|bA (g:=aL.av) (vb:=(⟨v67.Name,v67.Kind,v67.vj,B6.1⟩:aL)) J J J J XP J .p3 J<|ah.ghost<|aj.eqs (s:=57) (dt:=.sl 4 b5 0 ((v1.1.2.ba.set (0:Int).toNat (⟨v66.Name,v66.Kind,v64.1,v66.iA⟩:aL)).set (0:Int).toNat (⟨v67.Name,v67.Kind,v67.vj,B6.1⟩:aL)).length) J (by rw [List.length_set])<|aj.here<|ah.ghost<|aj.eqs (s:=61) (dt:=.sl 4 b5 0 ((v1.1.2.ba.set (0:Int).toNat (⟨v66.Name,v66.Kind,v64.1,v66.iA⟩:aL)).set (0:Int).toNat (⟨v67.Name,v67.Kind,v67.vj,B6.1⟩:aL)).length) J (by rw [List.length_set])<|aj.here<|ah.ghost<|aj.vC (j:=5) (dt:=.sl 4 b5 0 ((v1.1.2.ba.set (0:Int).toNat (⟨v66.Name,v66.Kind,v64.1,v66.iA⟩:aL)).set (0:Int).toNat (⟨v67.Name,v67.Kind,v67.vj,B6.1⟩:aL)).length) .p1 J (by rw [List.length_set]) J<|aj.here<|rN<|aa.stop<|aj.freeze .p2<|aj.lM (j:=2) .p1 J (Co.nL .p2) J J<|aj.freeze .p3<|aj.lM (j:=5) .p1 J (Co.nL .p3) J J<|aj.kT (xs:=([v1.1.1,(⟨v1.1.2.Key,v1.1.2.Prefix,(v1.1.2.ba.set (0:Int).toNat (⟨v66.Name,v66.Kind,v64.1,v66.iA⟩:aL)).set (0:Int).toNat (⟨v67.Name,v67.Kind,v67.vj,B6.1⟩:aL)⟩:Model)]:List Model).map Model.av) e2 .p1 J J J<|aj.lq [0,0] ⟨b3,B6.2.L,B6.2.at_,[v1.1.1,(⟨v1.1.2.Key,v1.1.2.Prefix,(v1.1.2.ba.set (0:Int).toNat (⟨v66.Name,v66.Kind,v64.1,v66.iA⟩:aL)).set (0:Int).toNat (⟨v67.Name,v67.Kind,v67.vj,B6.1⟩:aL)⟩:Model)],h,J⟩ J J
            ·exact tR<|rM J J<|ah.qv (cW J J J J J) J<|aT (xs:=[.agg [.str ([109,122]:ax),.str ([81,81]:ax),.nil]]) J J J J J J<|ah.ghost<|aj.Sh (s:=17) (dt:=.list 3 (([(⟨([109,122]:ax),([81,81]:ax),[]⟩:Model)]:List Model).map Model.av)) J (Ae.H9 (.cons .r (.cons .r (.cons .n .nil))) J J)<|aj.here<|ah.ghost<|aj.freeze .p2<|aj.here<|ah.ghost<|aj.lM (j:=2) .p1 J (Co.nL .p2) J J<|aj.here<|ah.ghost<|aj.freeze .p3<|aj.here<|ah.ghost<|aj.lM (j:=5) .p1 J (Co.nL .p3) J J<|aj.here<|ah.ghost<|aj.kT (xs:=([v1.1.1,v1.1.2]:List Model).map Model.av) e2 .p1 J J J<|aj.here<|aG h fun Tz e28 h=>iz (g:=Model.av) J J J J J J J J (.list _) e28 (fun _=>.p1) J fun b69=>rA J J<|rN<|aa.stop<|aj.lq [0,0] ⟨b69,v41.2.L,v41.2.at_,Tz,h,J⟩ J J
           ·rintro aI ⟨RE,Ov,n61,Nx,h,rfl⟩
            unfold kj at h
            exact aa.stop<|aj.lq [0,0] ⟨RE,Ov,n61,Nx,h,J⟩ J J
         ·rintro aI ⟨RD,Ot,Ou,Nw,h,rfl⟩
          unfold ki at h
          exact aa.stop<|aj.lq [0,0] ⟨RD,Ot,Ou,Nw,h,J⟩ J J
       ·rintro aI ⟨RC,wE,n48,zV,h,rfl⟩
        unfold kh at h
        exact aa.stop<|aj.lq [0,0] ⟨RC,wE,n48,zV,h,J⟩ J J
     ·rintro aI ⟨RB,Oq,n43,Nv,h,rfl⟩
      unfold kf at h
      exact aa.cr<|aa.stop<|aj.lq [0,0] ⟨RB,Oq,n43,Nv,h,J⟩ J J
    ·replace h:=vz FZ h
     cases h
  ·exact tK<|aa.stop<|aj.freeze .p2<|aj.lM (j:=2) .p1 J (Co.nL .p2) J J<|aj.freeze .p3<|aj.lM (j:=5) .p1 J (Co.nL .p3) J J<|aj.kT (xs:=([v1.1.1,v1.1.2]:List Model).map Model.av) e2 .p1 J J J<|aj.lq [0,0] ⟨b3,v6.2.L,v6.2.at_,[v1.1.1,v1.1.2],h,J⟩ J J
 ·rintro aI ⟨b9,l7,n8,l10,h,rfl⟩
  unfold iR at h
  refine aE<|rM J J<|rA J J<|rN<|aa.ret<|?_
  cases h
  exact aj.freeze .p1<|aj.co (s:=2) J (Co.nL .p1)<|aj.here ⟨_,.cons (.tmp _ _ J) .nil,_,.cons .p0 .nil,⟨J,J⟩⟩
theorem pS [GI:bz] {aQ:Bk} {ae:an} {ai:Int} {r:ab×an} (h:im ae ai=some r):aH Tryz.prog 8 [.ptr aQ 0,I ai] [(aQ,.cells [ic ae.L,I ae.at_])] (T0 ([(aQ,.cells [ic r.2.L,I r.2.at_])]) (ab.av r.1)):=by
 unfold im at h
 refine aH.fg ?_
 refine aH.bj Tryz.func8 J Tryz.ntmps8 Tryz.results8 J J ?_
 refine aE<|gd J J J J fun b1=>rN<|aE<|rM J J<|rM J J<|aT (xs:=([(1:Int),(1:Int),(2:Int),(2:Int),(3:Int),(4:Int),(5:Int),(6:Int),(6:Int),(7:Int),(8:Int),(9:Int)]).map I) J J J J J J<|aG h fun v2 e1 h=>aV J (dO e1) cR (.cons .p1 .nil) J J<|rM J J<|aT (xs:=([([100,97]:ax),([100,97]:ax),([100,98]:ax),([100,99]:ax)]).map AV.str) J J J J J J<|aG h fun v3 e2 h=>aV J (bJ e2) cR (.cons .p0 .nil) J J<|ah.qv (cW J J J J J) J<|gd J J J J fun b4=>aC J J J J .p0 J J<|rN<|tS<|aE<|rF J J J<|rL J J .p0 J J<|rN<|aa.block<|aE<|ah.qv (bH J J) J<|rA J J<|rN<|aa.cut (fun aI=>∃ (l5:List Int) (n6:Int) (q7:ax) (q8:ax) (n9:Int) (zW:ax) (uv:ax) (zX:ax) (n13:Int) (n14:Int) (n15:Int),ft ai v2 v3 l5 n6 q7 q8 n9 zW uv zX n13 n14 n15=some r∧aI=⟨104,[(0,.ptr aQ 0),(4,.ptr b1 0),(5,.ptr b4 0)],[(aQ,.cells [ic l5,I n6]),(b1,.cells [.str [],I (0:Int),I (0:Int),I (0:Int),I (0:Int),.str [],.str [],.str [],I (0:Int),.str [],.str [],.str [],I (0:Int),I (0:Int),I (0:Int),I (0:Int)]),(b4,.cells [.str [],I (0:Int),I (0:Int),I ai,I v2.1,.str v3.1,.str q7,.str q8,I n9,.str zW,.str uv,.str zX,I n13,I n14,I n15,I (0:Int)])]⟩) ?_ ?_
 ·refine cD h J (fun h=>?_) (fun h=>?_)
  ·exact tR<|rM J J<|aT (xs:=([([109,97]:ax),([109,97]:ax),([109,98]:ax)]).map AV.str) J J J J J J<|aG h fun qL e3 h=>aV J (bJ e3) cR (.cons .p1 .nil) J J<|rM J J<|aT (xs:=([(1:Int),(2:Int),(3:Int)]).map I) J J J J J J<|aG h fun v17 e4 h=>aV J (dO e4) cR (.cons .p0 .nil) J J<|rM J J<|aT (xs:=([([48,97]:ax),([48,98]:ax),([48,99]:ax)]).map AV.str) J J J J J J<|aG h fun Hp e5 h=>aV J (bJ e5) cR (.cons .p0 .nil) J J<|rF J J J<|aC J J J J .p1 J J<|rF J J J<|aC J J J J .p1 J J<|rF J J J<|aC J J J J .p1 J J<|rN<|aa.stop<|aj.lq [0,1,0] ⟨Hp.2.L,Hp.2.at_,qL.1,[],v17.1,Hp.1,[],[],(0:Int),(0:Int),(0:Int),h,J⟩ J J
  ·refine aE<|ah.qv (bH J J) J<|rA J J<|rN<|aa.cut (fun aI=>∃ (GS:List Int) (n20:Int) (OS:ax) (OT:ax) (OU:ax) (OV:ax) (n25:Int) (n26:Int) (n27:Int),gE ai v2 v3 GS n20 OS OT OU OV n25 n26 n27=some r∧aI=⟨104,[(0,.ptr aQ 0),(4,.ptr b1 0),(5,.ptr b4 0)],[(aQ,.cells [ic GS,I n20]),(b1,.cells [.str [],I (0:Int),I (0:Int),I (0:Int),I (0:Int),.str [],.str [],.str [],I (0:Int),.str [],.str [],.str [],I (0:Int),I (0:Int),I (0:Int),I (0:Int)]),(b4,.cells [.str [],I (0:Int),I (0:Int),I ai,I v2.1,.str v3.1,.str [],.str OS,I (0:Int),.str OT,.str OU,.str OV,I n25,I n26,I n27,I (0:Int)])]⟩) ?_ ?_
   ·refine cD h J (fun h=>?_) (fun h=>?_)
    ·exact tR<|rM J J<|aT (xs:=([([116,97]:ax),([116,97]:ax),([116,98]:ax),([116,99]:ax)]).map AV.str) J J J J J J<|aG h fun v28 e6 h=>aV J (bJ e6) cR (.cons .p1 .nil) J J<|rF J J J<|aC J J J J .p1 J J<|rN<|aa.stop<|aj.lq [0,1,0] ⟨v28.2.L,v28.2.at_,v28.1,[],[],[],(0:Int),(0:Int),(0:Int),h,J⟩ J J
    ·refine aE<|ah.qv (bH J J) J<|rA J J<|rN<|aa.cut (fun aI=>∃ (oN:List Int) (n30:Int) (OW:ax) (OX:ax) (OY:ax) (n34:Int) (n35:Int) (n36:Int),gG ai v2 v3 oN n30 OW OX OY n34 n35 n36=some r∧aI=⟨104,[(0,.ptr aQ 0),(4,.ptr b1 0),(5,.ptr b4 0)],[(aQ,.cells [ic oN,I n30]),(b1,.cells [.str [],I (0:Int),I (0:Int),I (0:Int),I (0:Int),.str [],.str [],.str [],I (0:Int),.str [],.str [],.str [],I (0:Int),I (0:Int),I (0:Int),I (0:Int)]),(b4,.cells [.str [],I (0:Int),I (0:Int),I ai,I v2.1,.str v3.1,.str [],.str [],I (0:Int),.str OW,.str OX,.str OY,I n34,I n35,I n36,I (0:Int)])]⟩) ?_ ?_
     ·refine cD h J (fun h=>?_) (fun h=>?_)
      ·exact tR<|rM J J<|aT (xs:=([([48,97]:ax),([49,97]:ax),([49,98]:ax),([49,99]:ax)]).map AV.str) J J J J J J<|aG h fun v37 e7 h=>aV J (bJ e7) cR (.cons .p1 .nil) J J<|rM J J<|rM J J<|aT (xs:=([(0:Int),(5:Int),(50:Int),(1000:Int)]).map I) J J J J J J<|aG h fun aD e8 h=>aV J (dO e8) cR (.cons .p0 .nil) J J<|ah.qv (bh J J) J<|rF J J J<|aC J J J J .p1 J J<|rF J J J<|aC J J J J .p1 J J<|rN<|aa.stop<|aj.lq [0,1,0] ⟨aD.2.L,aD.2.at_,v37.1,[],[],aU (ai+aD.1),(0:Int),(0:Int),h,J⟩ J J
      ·refine aE<|ah.qv (bH J J) J<|rA J J<|rN<|aa.cut (fun aI=>∃ (JQ:List Int) (n40:Int) (OZ:ax) (GU:ax) (n43:Int) (n44:Int),gH ai v2 v3 JQ n40 OZ GU n43 n44=some r∧aI=⟨104,[(0,.ptr aQ 0),(4,.ptr b1 0),(5,.ptr b4 0)],[(aQ,.cells [ic JQ,I n40]),(b1,.cells [.str [],I (0:Int),I (0:Int),I (0:Int),I (0:Int),.str [],.str [],.str [],I (0:Int),.str [],.str [],.str [],I (0:Int),I (0:Int),I (0:Int),I (0:Int)]),(b4,.cells [.str [],I (0:Int),I (0:Int),I ai,I v2.1,.str v3.1,.str [],.str [],I (0:Int),.str [],.str OZ,.str GU,I (0:Int),I n43,I n44,I (0:Int)])]⟩) ?_ ?_
       ·refine cD h J (fun h=>?_) (fun h=>?_)
        ·exact tR<|rM J J<|aT (xs:=([(0:Int),(1:Int),(1:Int)]).map I) J J J J J J<|aG h fun v45 e9 h=>aV J (dO e9) cR (.cons .p1 .nil) J J<|rM J J<|aT (xs:=([(0:Int),(2:Int)]).map I) J J J J J J<|aG h fun v46 Eg h=>aV J (dO Eg) cR (.cons .p0 .nil) J J<|ah.qv (cW J J J J J) J<|rF J J J<|aC J J J J .p1 J J<|rN<|aa.stop<|aj.lq [0,1,0] ⟨v46.2.L,v46.2.at_,[],[],v45.1,v46.1,h,J⟩ J J
        ·refine aE<|ah.qv (bH J J) J<|rA J J<|rN<|aa.cut (fun aI=>∃ (wE:List Int) (n48:Int) (O0:ax) (O1:ax),gI ai v2 v3 wE n48 O0 O1=some r∧aI=⟨104,[(0,.ptr aQ 0),(4,.ptr b1 0),(5,.ptr b4 0)],[(aQ,.cells [ic wE,I n48]),(b1,.cells [.str [],I (0:Int),I (0:Int),I (0:Int),I (0:Int),.str [],.str [],.str [],I (0:Int),.str [],.str [],.str [],I (0:Int),I (0:Int),I (0:Int),I (0:Int)]),(b4,.cells [.str [],I (0:Int),I (0:Int),I ai,I v2.1,.str v3.1,.str [],.str [],I (0:Int),.str [],.str O0,.str O1,I (0:Int),I (0:Int),I (0:Int),I (0:Int)])]⟩) ?_ ?_
         ·refine cD h J (fun h=>?_) (fun h=>?_)
          ·exact tR<|rM J J<|aT (xs:=([([115,105,116,101]:ax),([115,105,116,101]:ax),([111,112,101,110]:ax)]).map AV.str) J J J J J J<|aG h fun v51 Hs h=>aV J (bJ Hs) cR (.cons .p1 .nil) J J<|rM J J<|aT (xs:=([([120]:ax),([121]:ax),([97,32,98]:ax),([]:ax)]).map AV.str) J J J J J J<|aG h fun ND Be h=>aV J (bJ Be) cR (.cons .p0 .nil) J J<|rF J J J<|aC J J J J .p1 J J<|rF J J J<|aC J J J J .p1 J J<|rN<|aa.stop<|aj.lq [0,1,0] ⟨ND.2.L,ND.2.at_,v51.1,ND.1,h,J⟩ J J
          ·exact tK<|aa.stop<|aj.lq [1,1,0] ⟨v3.2.L,v3.2.at_,[],[],h,J⟩ J J
         ·rintro aI ⟨wE,n48,O0,O1,h,rfl⟩
          unfold gI at h
          exact aa.stop<|aj.lq [0,0,0] ⟨wE,n48,O0,O1,(0:Int),(0:Int),h,J⟩ J J
       ·rintro aI ⟨JQ,n40,OZ,GU,n43,n44,h,rfl⟩
        unfold gH at h
        exact aa.stop<|aj.lq [0,0,0] ⟨JQ,n40,[],OZ,GU,(0:Int),n43,n44,h,J⟩ J J
     ·rintro aI ⟨oN,n30,OW,OX,OY,n34,n35,n36,h,rfl⟩
      unfold gG at h
      exact aa.stop<|aj.lq [0,0,0] ⟨oN,n30,[],OW,OX,OY,n34,n35,n36,h,J⟩ J J
   ·rintro aI ⟨GS,n20,OS,OT,OU,OV,n25,n26,n27,h,rfl⟩
    unfold gE at h
    exact aa.stop<|aj.lq [0,0,0] ⟨GS,n20,[],OS,(0:Int),OT,OU,OV,n25,n26,n27,h,J⟩ J J
 ·rintro aI ⟨l5,n6,q7,q8,n9,zW,uv,zX,n13,n14,n15,h,rfl⟩
  unfold ft at h
  refine aa.cr<|tS<|aE<|rM J J<|aG h fun v53 JU h=>aV J (mg JU) cR (.cons .p0 .nil) J J<|rN<|aa.cut (fun aI=>∃ (Qg:List Int) (Qh:Int) (Ny:Int) (Nz:ax) (NA:ax) (n59:Int) (Mk:ax) (Ml:ax) (n62:Int),fq ai q7 uv n14 n15 Qg Qh Ny Nz NA n59 Mk Ml n62=some r∧aI=⟨104,[(4,.ptr b1 0),(5,.ptr b4 0)],[(aQ,.cells [ic Qg,I Qh]),(b1,.cells [.str [],I (0:Int),I (0:Int),I (0:Int),I (0:Int),.str [],.str [],.str [],I (0:Int),.str [],.str [],.str [],I (0:Int),I (0:Int),I (0:Int),I (0:Int)]),(b4,.cells [.str [],I (0:Int),I (0:Int),I ai,I Ny,.str Nz,.str q7,.str NA,I n59,.str Mk,.str uv,.str Ml,I n62,I n14,I n15,I (0:Int)])]⟩) ?_ ?_
  ·refine cB h J (fun h=>?_) (fun h=>?_)
   ·refine aE<|rM J J<|aG h fun Mm IY h=>aV J (fc IY) cR (.cons .p0 .nil) J J<|rN<|aa.block<|aE<|ah.qv (bH J J) J<|rA J J<|rN<|aa.cut (fun aI=>∃ (Ow:List Int) (Ox:Int) (Oy:Int) (Oz:ax) (OA:ax) (n69:Int) (OB:ax) (OC:ax) (OD:Int),gB ai q7 uv n14 n15 Ow Ox Oy Oz OA n69 OB OC OD=some r∧aI=⟨104,[(4,.ptr b1 0),(5,.ptr b4 0)],[(aQ,.cells [ic Ow,I Ox]),(b1,.cells [.str [],I (0:Int),I (0:Int),I (0:Int),I (0:Int),.str [],.str [],.str [],I (0:Int),.str [],.str [],.str [],I (0:Int),I (0:Int),I (0:Int),I (0:Int)]),(b4,.cells [.str [],I (0:Int),I (0:Int),I ai,I Oy,.str Oz,.str q7,.str OA,I n69,.str OB,.str uv,.str OC,I OD,I n14,I n15,I (0:Int)])]⟩) ?_ ?_
    ·refine cD h J (fun h=>?_) (fun h=>?_)
     ·exact tR<|rM J J<|aG h fun NB IZ h=>aV J (gW IZ) cR (.cons .p0 .nil) J J<|rF J J J<|aC J J J J .p2 J J<|rN<|aa.stop<|aj.lq [0,0,0] ⟨NB.2.L,NB.2.at_,NB.1,v3.1,q8,n9,zW,zX,n13,h,J⟩ J J
     ·refine aE<|ah.qv (bH J J) J<|rA J J<|rN<|aa.cut (fun aI=>∃ (OE:List Int) (OF:Int) (OG:ax) (OH:ax) (OI:Int) (OJ:ax) (OK:ax) (OL:Int),gC ai v2 q7 uv n14 n15 OE OF OG OH OI OJ OK OL=some r∧aI=⟨104,[(4,.ptr b1 0),(5,.ptr b4 0)],[(aQ,.cells [ic OE,I OF]),(b1,.cells [.str [],I (0:Int),I (0:Int),I (0:Int),I (0:Int),.str [],.str [],.str [],I (0:Int),.str [],.str [],.str [],I (0:Int),I (0:Int),I (0:Int),I (0:Int)]),(b4,.cells [.str [],I (0:Int),I (0:Int),I ai,I v2.1,.str OG,.str q7,.str OH,I OI,.str OJ,.str uv,.str OK,I OL,I n14,I n15,I (0:Int)])]⟩) ?_ ?_
      ·refine cD h J (fun h=>?_) (fun h=>?_)
       ·exact tR<|rM J J<|aT (xs:=([([]:ax),([65]:ax),([100,97]:ax)]).map AV.str) J J J J J J<|aG h fun v82 JV h=>aV J (bJ JV) cR (.cons .p0 .nil) J J<|rM J J<|aT (xs:=([([]:ax),([116]:ax)]).map AV.str) J J J J J J<|aG h fun NC Qx h=>aV J (bJ Qx) cR (.cons .p0 .nil) J J<|rF J J J<|aC J J J J .p2 J J<|rF J J J<|aC J J J J .p2 J J<|rN<|aa.stop<|aj.lq [0,0,0] ⟨NC.2.L,NC.2.at_,v82.1,NC.1,n9,zW,zX,n13,h,J⟩ J J
       ·refine aE<|ah.qv (bH J J) J<|rA J J<|rN<|aa.cut (fun aI=>∃ (OM:List Int) (ON:Int) (OO:Int) (OP:ax) (OQ:ax) (OR:Int),gD ai v2 v3 q7 q8 uv n14 n15 OM ON OO OP OQ OR=some r∧aI=⟨104,[(4,.ptr b1 0),(5,.ptr b4 0)],[(aQ,.cells [ic OM,I ON]),(b1,.cells [.str [],I (0:Int),I (0:Int),I (0:Int),I (0:Int),.str [],.str [],.str [],I (0:Int),.str [],.str [],.str [],I (0:Int),I (0:Int),I (0:Int),I (0:Int)]),(b4,.cells [.str [],I (0:Int),I (0:Int),I ai,I v2.1,.str v3.1,.str q7,.str q8,I OO,.str OP,.str uv,.str OQ,I OR,I n14,I n15,I (0:Int)])]⟩) ?_ ?_
        ·refine cD h J (fun h=>?_) (fun h=>?_)
         ·exact tR<|rM J J<|aG h fun Rv Lk h=>aV J (gW Lk) cR (.cons .p0 .nil) J J<|rM J J<|aG h fun v91 NJ h=>aV J (gW NJ) cR (.cons .p0 .nil) J J<|rF J J J<|aC J J J J .p2 J J<|rF J J J<|aC J J J J .p2 J J<|rN<|aa.stop<|aj.lq [0,0,0] ⟨v91.2.L,v91.2.at_,Rv.1,zW,zX,v91.1,h,J⟩ J J
         ·exact tR<|rM J J<|aT (xs:=([([]:ax),([71]:ax),([48,97]:ax)]).map AV.str) J J J J J J<|aG h fun Rw NK h=>aV J (bJ NK) cR (.cons .p0 .nil) J J<|rM J J<|aT (xs:=([([]:ax),([32,120]:ax),([120]:ax)]).map AV.str) J J J J J J<|aG h fun v93 TP h=>aV J (bJ TP) cR (.cons .p0 .nil) J J<|rF J J J<|aC J J J J .p2 J J<|rF J J J<|aC J J J J .p2 J J<|rN<|aa.stop<|aj.lq [0,0,0] ⟨v93.2.L,v93.2.at_,n9,Rw.1,v93.1,n13,h,J⟩ J J
        ·rintro aI ⟨OM,ON,OO,OP,OQ,OR,h,rfl⟩
         unfold gD at h
         exact aa.stop<|aj.lq [0,0,0] ⟨OM,ON,v3.1,q8,OO,OP,OQ,OR,h,J⟩ J J
      ·rintro aI ⟨OE,OF,OG,OH,OI,OJ,OK,OL,h,rfl⟩
       unfold gC at h
       exact aa.stop<|aj.lq [0,0,0] ⟨OE,OF,v2.1,OG,OH,OI,OJ,OK,OL,h,J⟩ J J
    ·rintro aI ⟨Ow,Ox,Oy,Oz,OA,n69,OB,OC,OD,h,rfl⟩
     unfold gB at h
     exact aa.cr<|aa.stop<|aj.lq [0,0,0] ⟨Ow,Ox,Oy,Oz,OA,n69,OB,OC,OD,h,J⟩ J J
   ·exact tK<|aa.stop<|aj.lq [0,0,0] ⟨v53.2.L,v53.2.at_,v2.1,v3.1,q8,n9,zW,zX,n13,h,J⟩ J J
  ·rintro aI ⟨Qg,Qh,Ny,Nz,NA,n59,Mk,Ml,n62,h,rfl⟩
   unfold fq at h
   refine aE<|ah.qv (aS J J .p2 J) J<|aC J J J J .p1 J J<|rN<|aa.ret<|?_
   cases h
   exact aj.here ⟨_,.cons (.all _ _ _ _ _ _ J .p1 ay.h aP.h J J) .nil,_,.cons .p0 .nil,⟨J,J⟩⟩
theorem sx [GI:bz] {ae:Int} {r:Bool} (h:cmp_isNaN_int ae=r):Pu Tryz.prog 123 [I ae] (.bool r):=by
 unfold cmp_isNaN_int at h
 refine aH.bj Tryz.func123 J Tryz.ntmps123 Tryz.results123 J J ?_
 refine aE<|rA J J<|rN<|aE<|rM J J<|rM J J<|ah.qv (eT J J) J<|rA J J<|rN<|aa.ret<|?_
 obtain rfl:=h
 exact hP J J
theorem kQ [GI:bz] {ae:Int} {ai:Int} {r:Int} (h:cmp_Compare_int ae ai=r):Pu Tryz.prog 75 [I ae,I ai] (I r):=by
 unfold cmp_Compare_int at h
 refine aH.bj Tryz.func75 J Tryz.ntmps75 Tryz.results75 J J ?_
 refine aE<|rA J J<|rN<|aE<|rM J J<|aM J (sx J) cR J<|rA J J<|rN<|aE<|rM J J<|aM J (sx J) cR J<|rA J J<|rN<|tS<|aE<|rM J J<|rN<|cB h J (fun h=>?_) (fun h=>?_)
 ·refine tS<|aE<|rM J J<|rN<|cB h J (fun h=>?_) (fun h=>?_)
  ·refine aE<|rA J J<|rN<|aa.ret<|?_
   obtain rfl:=h
   exact hP J J
  ·refine tK<|aE<|rA J J<|rN<|aa.ret<|?_
   obtain rfl:=h
   exact hP J J
 ·refine tK<|tS<|aE<|rM J J<|rN<|cB h J (fun h=>?_) (fun h=>?_)
  ·refine aE<|rA J J<|rN<|aa.ret<|?_
   obtain rfl:=h
   exact hP J J
  ·refine tK<|tS<|aE<|rM J J<|rM J J<|ah.qv (ca J J) J<|rN<|cD h J (fun h=>?_) (fun h=>?_)
   ·refine aE<|rA J J<|rN<|aa.ret<|?_
    obtain rfl:=h
    exact hP J J
   ·refine tK<|tS<|aE<|rM J J<|rM J J<|ah.qv (gx J J) J<|rN<|cD h J (fun h=>?_) (fun h=>?_)
    ·refine aE<|rA J J<|rN<|aa.ret<|?_
     obtain rfl:=h
     exact hP J J
    ·refine tK<|aE<|rA J J<|rN<|aa.ret<|?_
     obtain rfl:=h
     exact hP J J
theorem vY [GI:bz] {ae:List Int} {r:Int} (h:pG ae=some r):Pu Tryz.prog 74 [ic ae] (I r):=by
 unfold pG at h
 refine aH.bj Tryz.func74 J Tryz.ntmps74 Tryz.results74 J J ?_
 refine aE<|rA J J<|rN<|aE<|rA J J<|rN<|tS<|aE<|rM J J<|ah.qv (ff J) J<|rM J J<|rN<|aa.block<|aa.eU (fun x:Int=>oh ae x) (fun x aI=>aI=⟨18,[(3,I (0:Int)),(6,ic ae),(7,I (ae.length:Int)),(8,I x)],[]⟩) h ?_ ?_
 ·exact aj.lq [] J J J
 ·intro n2 z1 aI J1 iQ h lK fS
  obtain rfl:=iQ
  replace h:oh ae n2=some z1:=h
  unfold oh at h
  refine aE<|ah.qv (ca J J) J<|rN<|tS<|cD h J (fun h=>?_) (fun h=>?_)
  ·refine tK<|tS<|aa.block<|aE<|aG h fun v3 e1 h=>ah.qv (cu J J J e1 J J) J<|ah.qv (bV J J J) J<|rA J J<|rN<|aE<|rM J J<|rM J J<|ah.qv (eT J J) J<|rN<|cD h J (fun h=>?_) (fun h=>?_)
   ·refine aE<|rM J J<|rA J J<|rN<|aa.ret<|have h:=cy h fS;?_
    cases h
    exact hP J J
   ·refine tK<|aa.cr<|tR<|ah.qv (bh J J) J<|rM J J<|rN<|aa.stop<|?_
    cases h
    exact lK _ _ J<|aj.lq [] J J J
  ·refine aa.exit J<|have h:=cy h fS;aE<|rM J J<|rA J J<|rN<|aa.ret<|?_
   cases h
   exact hP J J
theorem tz [GI:bz] {ae:ab} {ai:ab} {r:Int} (h:lx ae ai=some r):Pu Tryz.prog 40 [ab.av ae,ab.av ai] (I r):=by
 unfold lx at h
 refine aH.bj Tryz.func40 J Tryz.ntmps40 Tryz.results40 J J ?_
 refine aE<|fe J J J J fun b1=>fe J J J J fun b2=>rA J J<|rN<|tS<|aa.bM (id:=1) (A:=[0,1,0,4,15,0,32,0,128,511,0,1024,0,4096,16383,32767,65535,131071]) 18 mixed J (by kernel_rfl) (by kernel_rfl)<|AM.qv (au J J) J<|AM.qv (aB J J .p1 J) J<|AM.qv (au J J) J<|AM.qv (aB J J .p0 J) J<|AM.qW J (kQ J) cR J<|AM.qv (au J J) J<|AM.qv (aB J J .p1 J) J<|AM.qv (au J J) J<|AM.qv (aB J J .p0 J) J<|AM.qW J (kP J) cR J<|AM.qv (au J J) J<|AM.qv (aB J J .p1 J) J<|AM.qv (au J J) J<|AM.qv (aB J J .p0 J) J<|AM.qW J (kQ J) cR J<|AM.ec (xs:=([(cmp_Compare_int ae.aO ai.aO),(Lib.compareBytes ae.cj ai.cj),(cmp_Compare_int ae.No ai.No)]:List Int).map I) J J J J J J<|aG h fun v3 e1 h=>AM.qW J (vY e1) cR J<|AM.qv (bl J) J<|AM.nil<|rN<|aa.ret<|?_
 cases h
 exact hP J J
theorem ie [GI:bz] {aQ:Bk} {ae:List ab} {ai:Int} {ao:Int} {lp:ab→ab→Option Int} {Bf:FuncId} [bf Tryz.prog Bf] {DA:List AV} (Qy:∀ {y0 y1:_} {u:Int},lp y0 y1=some u→Pu Tryz.prog Bf (ab.av y0 :: ab.av y1 :: DA) (I u)) {r:(List ab)} (h:bC ae ai ao lp=some r):aH Tryz.prog 121 [.sl 16 aQ 0 ae.length,I ai,I ao,.func (.func Bf) DA] [(aQ,gw ae)] (T0 ([(aQ,gw r)]) (.mA [])):=by
 unfold bC at h
 refine aH.fg ?_
 refine aH.bj Tryz.func121 J Tryz.ntmps121 Tryz.results121 J J ?_
 refine aE<|rM J J<|ah.qv (bh J J) J<|rA J J<|rN<|aa.block<|aa.eU (fun x:(List ab)×Int=>bX ai ao lp x.1 x.2) (fun x aI=>aI=⟨53,[(0,.sl 16 aQ 0 x.1.length),(1,I ai),(2,I ao),(3,.func (.func Bf) DA),(8,I x.2)],[(aQ,gw x.1)]⟩) h ?_ ?_
 ·exact aj.lq [0] J J J
 ·intro x z1 aI J1 iQ h lK fS
  obtain ⟨l3,n4⟩:=x
  obtain rfl:=iQ
  replace h:bX ai ao lp l3 n4=some z1:=h
  unfold bX at h
  refine tS<|aE<|rM J J<|rM J J<|ah.qv (ca J J) J<|rN<|cD h J (fun h=>?_) (fun h=>?_)
  ·refine tK<|tS<|aa.block<|aE<|rM J J<|rA J J<|rN<|aa.block<|aa.eU (fun x:(List ab)×Int=>cH ai lp n4 x.1 x.2) (fun x aI=>aI=⟨53,[(0,.sl 16 aQ 0 x.1.length),(1,I ai),(2,I ao),(3,.func (.func Bf) DA),(8,I n4),(9,I x.2)],[(aQ,gw x.1)]⟩) h ?_ ?_
   ·exact aj.lq [0] J J J
   ·intro x z2 aI J2 iQ h NL Ht
    obtain ⟨l7,n8⟩:=x
    obtain rfl:=iQ
    replace h:cH ai lp n4 l7 n8=some z2:=h
    unfold cH at h
    refine tS<|tS<|aa.cut (fun aI=>∃ (c9:Bool),cG n4 l7 n8 c9=some z2∧aI=⟨53,[(0,.sl 16 aQ 0 l7.length),(1,I ai),(2,I ao),(3,.func (.func Bf) DA),(8,I n4),(9,I n8),(34,.bool c9)],[(aQ,gw l7)]⟩) ?_ ?_
    ·refine aa.bM (id:=4) (A:=[0,0,3,7,15,15,15,111,239,15,15,1039,3599,7695,16383,32767,65535]) 17 mixed J (by kernel_rfl) (by kernel_rfl)<|AM.qv (ar J) J<|AM.qv (ar J) J<|AM.qv (gx J J) J<|AM.qv (ar J) J<|AM.cJ J J J (fun hc=>?_) (fun hc=>?_)
     ·exact have h:=nv hc h;AM.qv (ar J) J<|AM.aA J J J<|AM.qv (ar J) J<|AM.aA J J J<|AM.qv (ar J) J<|AM.aA J J J<|aG h fun v10 e1 h=>AM.qv (bc J J J e1) J<|AM.aA J J J<|AM.qv (bK (g:=ab.av) J J (.inl .p0) J e1 J) J<|AM.aA J J J<|AM.qv (ar J) J<|AM.aA J J J<|AM.qv (ar J) J<|AM.aA J J J<|AM.qv (cE J J) J<|AM.aA J J J<|aG h fun v11 e2 h=>AM.qv (bc J J J e2) J<|AM.aA J J J<|AM.qv (bK (g:=ab.av) J J (.inl .p0) J e2 J) J<|AM.aA J J J<|aG h fun v12 e3 h=>AM.BW J J (Qy e3) cR J<|AM.aA J J J<|AM.qv (ca J J) J<|AM.qv (fT J J) J<|AM.nil<|rN<|aa.stop<|aj.lq [0] ⟨decide (v12 < (0:Int)),h,J⟩ J J
     ·exact have h:=vz hc h;AM.aF J J J J<|AM.aF J J J J<|AM.aF J J J J<|AM.aF J J J J<|AM.aF J J J J<|AM.aF J J J J<|AM.aF J J J J<|AM.aF J J J J<|AM.aF J J J J<|AM.aF J J J J<|AM.aF J J J J<|AM.qv (eI J J) J<|AM.nil<|rN<|aa.stop<|aj.lq [0] ⟨false,h,J⟩ J J
    ·rintro aI ⟨c9,h,rfl⟩
     unfold cG at h
     refine cB h J (fun h=>?_) (fun h=>?_)
     ·refine tK<|tS<|aa.block<|aG h fun xH e4 h=>aG h fun sv e5 h=>aG h fun pH e6 h=>aa.gg (id:=6) (A:=[0,0,0,0,8,0,0,64,224,480,0,0,3072,7168,16355,32739,65535,131071]) (H0:=[(aQ,gw l7)]) (HH:=fun β=>[(aQ,gw (l7.set n8.toNat xH))]) 16 mixed J (by kernel_rfl) (by kernel_rfl) [⟨none,some 15,[9,13],fun _=>(aQ,gw l7),none,[]⟩,⟨some 15,none,[],fun _=>(aQ,gw (l7.set n8.toNat xH)),none,[]⟩] [] J (by kernel_rfl) J (.cons .p0 .nil) (fun _=>J)<|AT.am 9 J J<|AM.qv (ar J) J<|AM.qv (ar J) J<|AM.qv (ar J) J<|AM.qv (ar J) J<|AM.qv (cE J J) J<|AM.qv (ar J) J<|AM.qv (ar J) J<|AM.qv (cE J J) J<|AM.qv (bc J J J e4) J<|AM.nil<|AT.rd (Rs:=[(aQ,gw l7)]) (fun _=>J) J (fun _=>J) (fun _=>J) (bK (g:=ab.av) J J (.inl .p0) J e4 J) J<|AT.am 3 J J<|AM.qv (ar J) J<|AM.qv (ar J) J<|AM.qv (bc J J J e5) J<|AM.nil<|AT.rd (Rs:=[(aQ,gw l7)]) (fun _=>J) J (fun _=>J) (fun _=>J) (bK (g:=ab.av) J J (.inl .p0) J e5 J) J<|AT.am 1 J J<|AM.qv (bc J J J e6) J<|AM.nil<|AT.vF (Ti:=[(aQ,gw l7)]) (Pi:=[(aQ,gw (l7.set n8.toNat xH))]) (fun _=>J) (fun _=>J) (fun _=>J) J J ?_ ?_
      ·exact bA (g:=ab.av) (vb:=xH) J J J J e6 J .p0 J<|ah.nil ⟨_,J⟩
      refine AT.ra (fun _=>J) fun β=>ah.ghost<|aj.eqs (s:=0) (dt:=.sl 16 aQ 0 (l7.set n8.toNat xH).length) J (by simp)<|aj.here<|ah.ghost<|aj.eqs (s:=37) (dt:=.sl 16 aQ 0 (l7.set n8.toNat xH).length) J (by simp)<|aj.here<|ah.ghost<|aj.eqs (s:=39) (dt:=.sl 16 aQ 0 (l7.set n8.toNat xH).length) J (by simp)<|aj.here<|ah.ghost<|aj.eqs (s:=42) (dt:=.sl 16 aQ 0 (l7.set n8.toNat xH).length) J (by simp)<|aj.here<|ah.ghost<|aj.eqs (s:=47) (dt:=.sl 16 aQ 0 (l7.set n8.toNat xH).length) J (by simp)<|aj.here<|aG h fun qL e7 h=>ah.qv (bc J J J e7) J<|bA (g:=ab.av) (vb:=sv) J J J J e7 J .p0 J<|ah.ghost<|aj.eqs (s:=0) (dt:=.sl 16 aQ 0 ((l7.set n8.toNat xH).set (aU (n8 - (1:Int))).toNat sv).length) J (by rw [List.length_set])<|aj.here<|ah.ghost<|aj.eqs (s:=37) (dt:=.sl 16 aQ 0 ((l7.set n8.toNat xH).set (aU (n8 - (1:Int))).toNat sv).length) J (by rw [List.length_set])<|aj.here<|ah.ghost<|aj.eqs (s:=39) (dt:=.sl 16 aQ 0 ((l7.set n8.toNat xH).set (aU (n8 - (1:Int))).toNat sv).length) J (by rw [List.length_set])<|aj.here<|ah.ghost<|aj.eqs (s:=42) (dt:=.sl 16 aQ 0 ((l7.set n8.toNat xH).set (aU (n8 - (1:Int))).toNat sv).length) J (by rw [List.length_set])<|aj.here<|ah.ghost<|aj.eqs (s:=47) (dt:=.sl 16 aQ 0 ((l7.set n8.toNat xH).set (aU (n8 - (1:Int))).toNat sv).length) J (by rw [List.length_set])<|aj.here<|rN<|aa.cr<|tR<|rM J J<|ah.qv (cE J J) J<|rA J J<|rN<|aa.stop<|?_
      cases h
      exact NL _ _ J<|aj.lq [0] J J J
     ·refine aa.exit J<|have h:=cy h Ht;aa.cr<|tR<|rM J J<|ah.qv (bh J J) J<|rA J J<|rN<|aa.stop<|?_
      cases h
      exact lK _ _ J<|aj.lq [0] J J J
  ·refine aa.exit J<|have h:=cy h fS;aa.nil<|?_
   cases h
   exact aj.here ⟨_,.nil,_,.cons .p0 .nil,⟨J,J⟩⟩
theorem fG [GI:bz] {aQ:Bk} {ae:List ab} {ai:Int} {ao:Int} {bD:Int} {jL:ab→ab→Option Int} {fo:FuncId} [bf Tryz.prog fo] {gO:List AV} (nG:∀ {y0 y1:_} {u:Int},jL y0 y1=some u→Pu Tryz.prog fo (ab.av y0 :: ab.av y1 :: gO) (I u)) {r:(List ab)} (h:cT ae ai ao bD jL=some r):aH Tryz.prog 206 [.sl 16 aQ 0 ae.length,I ai,I ao,I bD,.func (.func fo) gO] [(aQ,gw ae)] (T0 ([(aQ,gw r)]) (.mA [])):=by
 unfold cT at h
 refine aH.fg ?_
 refine aH.bj Tryz.func206 J Tryz.ntmps206 Tryz.results206 J J ?_
 refine aE<|rA J J<|rN<|aa.block<|aa.eU (fun x:(List ab)×Int=>dn ai ao bD x.1 x.2) (fun x aI=>aI=⟨38,[(0,.sl 16 aQ 0 x.1.length),(1,I ai),(2,I ao),(3,I bD),(10,I x.2)],[(aQ,gw x.1)]⟩) h ?_ ?_
 ·exact aj.lq [0] J J J
 ·intro x z1 aI J1 iQ h lK fS
  obtain ⟨l3,n4⟩:=x
  obtain rfl:=iQ
  replace h:dn ai ao bD l3 n4=some z1:=h
  unfold dn at h
  refine tS<|aE<|rM J J<|rM J J<|ah.qv (ca J J) J<|rN<|cD h J (fun h=>?_) (fun h=>?_)
  ·refine tK<|tS<|aa.block<|aG h fun v5 e1 h=>aG h fun v6 e2 h=>aG h fun v7 e3 h=>aa.gg (id:=3) (A:=[0,0,0,6,0,0,0,96,0,0,0,1536,3840,7936,0,0,0,98304,245760,507904,1048335,2096911,4194303,8388607]) (H0:=[(aQ,gw l3)]) (HH:=fun β=>[(aQ,gw (l3.set (aU (ai+n4)).toNat v5))]) 22 mixed J (by kernel_rfl) (by kernel_rfl) [⟨none,some 21,[13,19],fun _=>(aQ,gw l3),none,[]⟩,⟨some 21,none,[],fun _=>(aQ,gw (l3.set (aU (ai+n4)).toNat v5)),none,[]⟩] [] J (by kernel_rfl) J (.cons .p0 .nil) (fun _=>J)<|AT.am 13 J J<|AM.qv (ar J) J<|AM.qv (ar J) J<|AM.qv (ar J) J<|AM.qv (bh J J) J<|AM.qv (ar J) J<|AM.qv (ar J) J<|AM.qv (ar J) J<|AM.qv (bh J J) J<|AM.qv (ar J) J<|AM.qv (ar J) J<|AM.qv (ar J) J<|AM.qv (bh J J) J<|AM.qv (bc J J J e1) J<|AM.nil<|AT.rd (Rs:=[(aQ,gw l3)]) (fun _=>J) J (fun _=>J) (fun _=>J) (bK (g:=ab.av) J J (.inl .p0) J e1 J) J<|AT.am 5 J J<|AM.qv (ar J) J<|AM.qv (ar J) J<|AM.qv (ar J) J<|AM.qv (bh J J) J<|AM.qv (bc J J J e2) J<|AM.nil<|AT.rd (Rs:=[(aQ,gw l3)]) (fun _=>J) J (fun _=>J) (fun _=>J) (bK (g:=ab.av) J J (.inl .p0) J e2 J) J<|AT.am 1 J J<|AM.qv (bc J J J e3) J<|AM.nil<|AT.vF (Ti:=[(aQ,gw l3)]) (Pi:=[(aQ,gw (l3.set (aU (ai+n4)).toNat v5))]) (fun _=>J) (fun _=>J) (fun _=>J) J J ?_ ?_
   ·exact bA (g:=ab.av) (vb:=v5) J J J J e3 J .p0 J<|ah.nil ⟨_,J⟩
   refine AT.ra (fun _=>J) fun β=>ah.ghost<|aj.eqs (s:=0) (dt:=.sl 16 aQ 0 (l3.set (aU (ai+n4)).toNat v5).length) J (by simp)<|aj.here<|ah.ghost<|aj.eqs (s:=16) (dt:=.sl 16 aQ 0 (l3.set (aU (ai+n4)).toNat v5).length) J (by simp)<|aj.here<|ah.ghost<|aj.eqs (s:=20) (dt:=.sl 16 aQ 0 (l3.set (aU (ai+n4)).toNat v5).length) J (by simp)<|aj.here<|ah.ghost<|aj.eqs (s:=24) (dt:=.sl 16 aQ 0 (l3.set (aU (ai+n4)).toNat v5).length) J (by simp)<|aj.here<|ah.ghost<|aj.eqs (s:=30) (dt:=.sl 16 aQ 0 (l3.set (aU (ai+n4)).toNat v5).length) J (by simp)<|aj.here<|aG h fun v8 e4 h=>ah.qv (bc J J J e4) J<|bA (g:=ab.av) (vb:=v6) J J J J e4 J .p0 J<|ah.ghost<|aj.eqs (s:=0) (dt:=.sl 16 aQ 0 ((l3.set (aU (ai+n4)).toNat v5).set (aU (ao+n4)).toNat v6).length) J (by rw [List.length_set])<|aj.here<|ah.ghost<|aj.eqs (s:=16) (dt:=.sl 16 aQ 0 ((l3.set (aU (ai+n4)).toNat v5).set (aU (ao+n4)).toNat v6).length) J (by rw [List.length_set])<|aj.here<|ah.ghost<|aj.eqs (s:=20) (dt:=.sl 16 aQ 0 ((l3.set (aU (ai+n4)).toNat v5).set (aU (ao+n4)).toNat v6).length) J (by rw [List.length_set])<|aj.here<|ah.ghost<|aj.eqs (s:=24) (dt:=.sl 16 aQ 0 ((l3.set (aU (ai+n4)).toNat v5).set (aU (ao+n4)).toNat v6).length) J (by rw [List.length_set])<|aj.here<|ah.ghost<|aj.eqs (s:=30) (dt:=.sl 16 aQ 0 ((l3.set (aU (ai+n4)).toNat v5).set (aU (ao+n4)).toNat v6).length) J (by rw [List.length_set])<|aj.here<|rN<|aa.cr<|tR<|rM J J<|ah.qv (bh J J) J<|rA J J<|rN<|aa.stop<|?_
   cases h
   exact lK _ _ J<|aj.lq [0] J J J
  ·refine aa.exit J<|have h:=cy h fS;aa.nil<|?_
   cases h
   exact aj.here ⟨_,.nil,_,.cons .p0 .nil,⟨J,J⟩⟩
theorem oQ [GI:bz] {aQ:Bk} {ae:List ab} {ai:Int} {ao:Int} {bD:Int} {jL:ab→ab→Option Int} {fo:FuncId} [bf Tryz.prog fo] {gO:List AV} (nG:∀ {y0 y1:_} {u:Int},jL y0 y1=some u→Pu Tryz.prog fo (ab.av y0 :: ab.av y1 :: gO) (I u)) {r:(List ab)} (h:iB ae ai ao bD jL=some r):aH Tryz.prog 177 [.sl 16 aQ 0 ae.length,I ai,I ao,I bD,.func (.func fo) gO] [(aQ,gw ae)] (T0 ([(aQ,gw r)]) (.mA [])):=by
 unfold iB at h
 refine aH.fg ?_
 refine aH.bj Tryz.func177 J Tryz.ntmps177 Tryz.results177 J J ?_
 refine aE<|rM J J<|rM J J<|ah.qv (cE J J) J<|rA J J<|rN<|aE<|rM J J<|rM J J<|ah.qv (cE J J) J<|rA J J<|rN<|tS<|aa.block<|aa.eU (fun x:(List ab)×Int×Int=>ee ao jL x.1 x.2.1 x.2.2) (fun x aI=>aI=⟨58,[(0,.sl 16 aQ 0 x.1.length),(2,I ao),(4,.func (.func fo) gO),(10,I x.2.1),(11,I x.2.2)],[(aQ,gw x.1)]⟩) h ?_ ?_
 ·exact aj.lq [0] J J J
 ·intro x z1 aI J1 iQ h lK fS
  obtain ⟨l4,n5,n6⟩:=x
  obtain rfl:=iQ
  replace h:ee ao jL l4 n5 n6=some z1:=h
  unfold ee at h
  refine tS<|aE<|rM J J<|rM J J<|ah.qv (eT J J) J<|rN<|cD h J (fun h=>?_) (fun h=>?_)
  ·refine tK<|aa.block<|aE<|rM J J<|rM J J<|ah.qv (gx J J) J<|rN<|aa.cut (fun aI=>∃ (l7:List ab) (n8:Int) (n9:Int),ed l7 n8 n9=some z1∧aI=⟨58,[(0,.sl 16 aQ 0 l7.length),(2,I ao),(4,.func (.func fo) gO),(10,I n8),(11,I n9)],[(aQ,gw l7)]⟩) ?_ ?_
   ·refine cD h J (fun h=>?_) (fun h=>?_)
    ·exact aE<|rM J J<|rM J J<|rM J J<|ah.qv (cE J J) J<|rM J J<|rM J J<|rM J J<|aG h fun v10 e1 h=>aV J (fG nG (lu e1)) cR (.cons .p0 .nil) J J<|ah.ghost<|aj.eqs (s:=0) (dt:=.sl 16 aQ 0 v10.length) J (congrArg (AV.sl 16 aQ 0) (dP e1))<|aj.here<|ah.ghost<|aj.eqs (s:=24) (dt:=.sl 16 aQ 0 v10.length) J (congrArg (AV.sl 16 aQ 0) (dP e1))<|aj.here<|rN<|tR<|rM J J<|rM J J<|ah.qv (cE J J) J<|rA J J<|rN<|aa.stop<|aj.lq [0] ⟨v10,aU (n5 - n6),n6,h,J⟩ J J
    ·exact aE<|rM J J<|rM J J<|rM J J<|ah.qv (cE J J) J<|rM J J<|rM J J<|ah.qv (bh J J) J<|rM J J<|ah.qv (cE J J) J<|rM J J<|rM J J<|aG h fun v11 e2 h=>aV J (fG nG (lu e2)) cR (.cons .p0 .nil) J J<|ah.ghost<|aj.eqs (s:=0) (dt:=.sl 16 aQ 0 v11.length) J (congrArg (AV.sl 16 aQ 0) (dP e2))<|aj.here<|ah.ghost<|aj.eqs (s:=35) (dt:=.sl 16 aQ 0 v11.length) J (congrArg (AV.sl 16 aQ 0) (dP e2))<|aj.here<|rN<|tR<|rM J J<|rM J J<|ah.qv (cE J J) J<|rA J J<|rN<|aa.stop<|aj.lq [0] ⟨v11,n5,aU (n6 - n5),h,J⟩ J J
   ·rintro aI ⟨l7,n8,n9,h,rfl⟩
    unfold ed at h
    refine aa.cr<|aa.stop<|?_
    cases h
    exact lK _ _ J<|aj.lq [0] J J J
  ·refine aa.exit J<|have h:=cy h fS;?_
   unfold jM at h
   refine tR<|rM J J<|rM J J<|rM J J<|ah.qv (cE J J) J<|rM J J<|rM J J<|rM J J<|aG h fun v12 e3 h=>aV J (fG nG (lu e3)) cR (.cons .p0 .nil) J J<|ah.ghost<|aj.eqs (s:=0) (dt:=.sl 16 aQ 0 v12.length) J (congrArg (AV.sl 16 aQ 0) (dP e3))<|aj.here<|ah.ghost<|aj.eqs (s:=50) (dt:=.sl 16 aQ 0 v12.length) J (congrArg (AV.sl 16 aQ 0) (dP e3))<|aj.here<|rN<|aa.nil<|?_
   cases h
   exact aj.here ⟨_,.nil,_,.cons .p0 .nil,⟨J,J⟩⟩
theorem mQ [GI:bz] {aQ:Bk} {self:(List ab)→Int→Int→Int→(ab→ab→Option Int)→Option (List ab)} (I0:∀ {aQ:Bk} {ae:List ab} {ai:Int} {ao:Int} {bD:Int} {jL:ab→ab→Option Int} {fo:FuncId} [bf Tryz.prog fo] {gO:List AV} (nG:∀ {y0 y1:_} {u:Int},jL y0 y1=some u→Pu Tryz.prog fo (ab.av y0 :: ab.av y1 :: gO) (I u)) {r:(List ab)},self ae ai ao bD jL=some r→aH Tryz.prog 122 [.sl 16 aQ 0 ae.length,I ai,I ao,I bD,.func (.func fo) gO] [(aQ,gw ae)] (T0 ([(aQ,gw r)]) (.mA []))) {ae:List ab} {ai:Int} {ao:Int} {bD:Int} {jL:ab→ab→Option Int} {fo:FuncId} [bf Tryz.prog fo] {gO:List AV} (nG:∀ {y0 y1:_} {u:Int},jL y0 y1=some u→Pu Tryz.prog fo (ab.av y0 :: ab.av y1 :: gO) (I u)) {r:(List ab)} (h:fF self ae ai ao bD jL=some r):aH Tryz.prog 122 [.sl 16 aQ 0 ae.length,I ai,I ao,I bD,.func (.func fo) gO] [(aQ,gw ae)] (T0 ([(aQ,gw r)]) (.mA [])):=by
 unfold fF at h
 refine aH.fg ?_
 refine aH.bj Tryz.func122 J Tryz.ntmps122 Tryz.results122 J J ?_
 refine tS<|aE<|rM J J<|rM J J<|ah.qv (cE J J) J<|ah.qv (bH J J) J<|rN<|cD h J (fun h=>?_) (fun h=>?_)
 ·refine aE<|rM J J<|rA J J<|rN<|aE<|rM J J<|rA J J<|rN<|tS<|aa.block<|aa.eU (fun x:Int×Int=>dw ae ai jL x.1 x.2) (fun x aI=>aI=⟨220,[(0,.sl 16 aQ 0 ae.length),(1,I ai),(4,.func (.func fo) gO),(10,I x.1),(11,I x.2)],[(aQ,gw ae)]⟩) h ?_ ?_
  ·exact aj.lq [0] J J J
  ·intro x z1 aI J1 iQ h lK fS
   obtain ⟨n3,n4⟩:=x
   obtain rfl:=iQ
   replace h:dw ae ai jL n3 n4=some z1:=h
   unfold dw at h
   refine tS<|aE<|rM J J<|rM J J<|ah.qv (ca J J) J<|rN<|cD h J (fun h=>?_) (fun h=>?_)
   ·refine tK<|aa.block<|aE<|rM J J<|rM J J<|ah.qv (bh J J) J<|ah.qv (jh J) J<|ah.qv (CW J J (by decide)) J<|ah.qv (jh J) J<|rA J J<|rN<|tS<|aa.bM (id:=5) (A:=[0,0,0,6,14,0,0,96,224,511,1023]) 11 mixed J (by kernel_rfl) (by kernel_rfl)<|AM.qv (ar J) J<|AM.qv (ar J) J<|AM.qv (ar J) J<|aG h fun v5 e1 h=>AM.qv (bc J J J e1) J<|AM.qv (bK (g:=ab.av) J J (.inl .p0) J e1 J) J<|AM.qv (ar J) J<|AM.qv (ar J) J<|aG h fun v6 e2 h=>AM.qv (bc J J J e2) J<|AM.qv (bK (g:=ab.av) J J (.inl .p0) J e2 J) J<|aG h fun v7 e3 h=>AM.BW J J (nG e3) cR J<|AM.qv (ca J J) J<|AM.nil<|rN<|aa.cut (fun aI=>∃ (n8:Int) (n9:Int),du n8 n9=some z1∧aI=⟨220,[(0,.sl 16 aQ 0 ae.length),(1,I ai),(4,.func (.func fo) gO),(10,I n8),(11,I n9)],[(aQ,gw ae)]⟩) ?_ ?_
    ·refine cD h J (fun h=>?_) (fun h=>?_)
     ·exact tR<|rM J J<|ah.qv (bh J J) J<|rA J J<|rN<|aa.stop<|aj.lq [0] ⟨aU ((aU (eJ .u64 (IntKind.u64.wrap (aU (n3+n4))) (1:Int)))+(1:Int)),n4,h,J⟩ J J
     ·exact tR<|rM J J<|rA J J<|rN<|aa.stop<|aj.lq [0] ⟨n3,aU (eJ .u64 (IntKind.u64.wrap (aU (n3+n4))) (1:Int)),h,J⟩ J J
    ·rintro aI ⟨n8,n9,h,rfl⟩
     unfold du at h
     refine aa.cr<|aa.stop<|?_
     cases h
     exact lK _ _ J<|aj.lq [0] J J J
   ·refine aa.exit J<|have h:=cy h fS;tS<|aE<|rM J J<|rA J J<|rN<|aa.block<|aa.eU (fun x:(List ab)×Int=>dv n3 x.1 x.2) (fun x aI=>aI=⟨220,[(0,.sl 16 aQ 0 x.1.length),(10,I n3),(13,I x.2)],[(aQ,gw x.1)]⟩) h ?_ ?_
    ·exact aj.lq [0] J J J
    ·intro x z2 aI J2 iQ h NL Ht
     obtain ⟨tj,n13⟩:=x
     obtain rfl:=iQ
     replace h:dv n3 tj n13=some z2:=h
     unfold dv at h
     refine tS<|aE<|rM J J<|rM J J<|ah.qv (cE J J) J<|ah.qv (ca J J) J<|rN<|cD h J (fun h=>?_) (fun h=>?_)
     ·refine tK<|tS<|aa.block<|aG h fun sv e4 h=>aG h fun pH e5 h=>aG h fun qL e6 h=>aa.gg (id:=11) (A:=[0,0,0,0,8,0,0,64,224,480,0,0,3072,7168,16355,32739,65535,131071]) (H0:=[(aQ,gw tj)]) (HH:=fun β=>[(aQ,gw (tj.set n13.toNat sv))]) 16 mixed J (by kernel_rfl) (by kernel_rfl) [⟨none,some 15,[9,13],fun _=>(aQ,gw tj),none,[]⟩,⟨some 15,none,[],fun _=>(aQ,gw (tj.set n13.toNat sv)),none,[]⟩] [] J (by kernel_rfl) J (.cons .p0 .nil) (fun _=>J)<|AT.am 9 J J<|AM.qv (ar J) J<|AM.qv (ar J) J<|AM.qv (ar J) J<|AM.qv (ar J) J<|AM.qv (bh J J) J<|AM.qv (ar J) J<|AM.qv (ar J) J<|AM.qv (bh J J) J<|AM.qv (bc J J J e4) J<|AM.nil<|AT.rd (Rs:=[(aQ,gw tj)]) (fun _=>J) J (fun _=>J) (fun _=>J) (bK (g:=ab.av) J J (.inl .p0) J e4 J) J<|AT.am 3 J J<|AM.qv (ar J) J<|AM.qv (ar J) J<|AM.qv (bc J J J e5) J<|AM.nil<|AT.rd (Rs:=[(aQ,gw tj)]) (fun _=>J) J (fun _=>J) (fun _=>J) (bK (g:=ab.av) J J (.inl .p0) J e5 J) J<|AT.am 1 J J<|AM.qv (bc J J J e6) J<|AM.nil<|AT.vF (Ti:=[(aQ,gw tj)]) (Pi:=[(aQ,gw (tj.set n13.toNat sv))]) (fun _=>J) (fun _=>J) (fun _=>J) J J ?_ ?_
      ·exact bA (g:=ab.av) (vb:=sv) J J J J e6 J .p0 J<|ah.nil ⟨_,J⟩
      refine AT.ra (fun _=>J) fun β=>ah.ghost<|aj.eqs (s:=0) (dt:=.sl 16 aQ 0 (tj.set n13.toNat sv).length) J (by simp)<|aj.here<|ah.ghost<|aj.eqs (s:=61) (dt:=.sl 16 aQ 0 (tj.set n13.toNat sv).length) J (by simp)<|aj.here<|ah.ghost<|aj.eqs (s:=63) (dt:=.sl 16 aQ 0 (tj.set n13.toNat sv).length) J (by simp)<|aj.here<|ah.ghost<|aj.eqs (s:=66) (dt:=.sl 16 aQ 0 (tj.set n13.toNat sv).length) J (by simp)<|aj.here<|ah.ghost<|aj.eqs (s:=71) (dt:=.sl 16 aQ 0 (tj.set n13.toNat sv).length) J (by simp)<|aj.here<|aG h fun v17 e7 h=>ah.qv (bc J J J e7) J<|bA (g:=ab.av) (vb:=pH) J J J J e7 J .p0 J<|ah.ghost<|aj.eqs (s:=0) (dt:=.sl 16 aQ 0 ((tj.set n13.toNat sv).set (aU (n13+(1:Int))).toNat pH).length) J (by rw [List.length_set])<|aj.here<|ah.ghost<|aj.eqs (s:=61) (dt:=.sl 16 aQ 0 ((tj.set n13.toNat sv).set (aU (n13+(1:Int))).toNat pH).length) J (by rw [List.length_set])<|aj.here<|ah.ghost<|aj.eqs (s:=63) (dt:=.sl 16 aQ 0 ((tj.set n13.toNat sv).set (aU (n13+(1:Int))).toNat pH).length) J (by rw [List.length_set])<|aj.here<|ah.ghost<|aj.eqs (s:=66) (dt:=.sl 16 aQ 0 ((tj.set n13.toNat sv).set (aU (n13+(1:Int))).toNat pH).length) J (by rw [List.length_set])<|aj.here<|ah.ghost<|aj.eqs (s:=71) (dt:=.sl 16 aQ 0 ((tj.set n13.toNat sv).set (aU (n13+(1:Int))).toNat pH).length) J (by rw [List.length_set])<|aj.here<|rN<|aa.cr<|tR<|rM J J<|ah.qv (bh J J) J<|rA J J<|rN<|aa.stop<|?_
      cases h
      exact NL _ _ J<|aj.lq [0] J J J
     ·refine aa.exit J<|have h:=cy h Ht;aa.ret<|?_
      cases h
      exact aj.here ⟨_,.nil,_,.cons .p0 .nil,⟨J,J⟩⟩
 ·refine tK<|tS<|aE<|rM J J<|rM J J<|ah.qv (cE J J) J<|ah.qv (bH J J) J<|rN<|cD h J (fun h=>?_) (fun h=>?_)
  ·refine aE<|rM J J<|rA J J<|rN<|aE<|rM J J<|rA J J<|rN<|tS<|aa.block<|aa.eU (fun x:Int×Int=>dA ae ao jL x.1 x.2) (fun x aI=>aI=⟨220,[(0,.sl 16 aQ 0 ae.length),(2,I ao),(4,.func (.func fo) gO),(14,I x.1),(15,I x.2)],[(aQ,gw ae)]⟩) h ?_ ?_
   ·exact aj.lq [0] J J J
   ·intro x z3 aI J3 iQ h TQ TR
    obtain ⟨n20,n21⟩:=x
    obtain rfl:=iQ
    replace h:dA ae ao jL n20 n21=some z3:=h
    unfold dA at h
    refine tS<|aE<|rM J J<|rM J J<|ah.qv (ca J J) J<|rN<|cD h J (fun h=>?_) (fun h=>?_)
    ·refine tK<|aa.block<|aE<|rM J J<|rM J J<|ah.qv (bh J J) J<|ah.qv (jh J) J<|ah.qv (CW J J (by decide)) J<|ah.qv (jh J) J<|rA J J<|rN<|tS<|aa.bM (id:=17) (A:=[0,0,0,6,14,0,0,96,224,511,1023,2047]) 12 mixed J (by kernel_rfl) (by kernel_rfl)<|AM.qv (ar J) J<|AM.qv (ar J) J<|AM.qv (ar J) J<|aG h fun v22 e8 h=>AM.qv (bc J J J e8) J<|AM.qv (bK (g:=ab.av) J J (.inl .p0) J e8 J) J<|AM.qv (ar J) J<|AM.qv (ar J) J<|aG h fun v23 e9 h=>AM.qv (bc J J J e9) J<|AM.qv (bK (g:=ab.av) J J (.inl .p0) J e9 J) J<|aG h fun v24 Eg h=>AM.BW J J (nG Eg) cR J<|AM.qv (ca J J) J<|AM.qv (qh J) J<|AM.nil<|rN<|aa.cut (fun aI=>∃ (n25:Int) (n26:Int),dx n25 n26=some z3∧aI=⟨220,[(0,.sl 16 aQ 0 ae.length),(2,I ao),(4,.func (.func fo) gO),(14,I n25),(15,I n26)],[(aQ,gw ae)]⟩) ?_ ?_
     ·refine cD h J (fun h=>?_) (fun h=>?_)
      ·exact tR<|rM J J<|ah.qv (bh J J) J<|rA J J<|rN<|aa.stop<|aj.lq [0] ⟨aU ((aU (eJ .u64 (IntKind.u64.wrap (aU (n20+n21))) (1:Int)))+(1:Int)),n21,h,J⟩ J J
      ·exact tR<|rM J J<|rA J J<|rN<|aa.stop<|aj.lq [0] ⟨n20,aU (eJ .u64 (IntKind.u64.wrap (aU (n20+n21))) (1:Int)),h,J⟩ J J
     ·rintro aI ⟨n25,n26,h,rfl⟩
      unfold dx at h
      refine aa.cr<|aa.stop<|?_
      cases h
      exact TQ _ _ J<|aj.lq [0] J J J
    ·refine aa.exit J<|have h:=cy h TR;tS<|aE<|rM J J<|rA J J<|rN<|aa.block<|aa.eU (fun x:(List ab)×Int=>dz n20 x.1 x.2) (fun x aI=>aI=⟨220,[(0,.sl 16 aQ 0 x.1.length),(14,I n20),(17,I x.2)],[(aQ,gw x.1)]⟩) h ?_ ?_
     ·exact aj.lq [0] J J J
     ·intro x z4 aI J4 iQ h hJ4 hA4
      obtain ⟨oN,n30⟩:=x
      obtain rfl:=iQ
      replace h:dz n20 oN n30=some z4:=h
      unfold dz at h
      refine tS<|aE<|rM J J<|rM J J<|ah.qv (gx J J) J<|rN<|cD h J (fun h=>?_) (fun h=>?_)
      ·refine tK<|tS<|aa.block<|aG h fun v31 Hs h=>aG h fun v32 Be h=>aG h fun v33 JU h=>aa.gg (id:=23) (A:=[0,0,0,0,8,0,0,64,224,480,0,0,3072,7168,16355,32739,65535,131071]) (H0:=[(aQ,gw oN)]) (HH:=fun β=>[(aQ,gw (oN.set n30.toNat v31))]) 16 mixed J (by kernel_rfl) (by kernel_rfl) [⟨none,some 15,[9,13],fun _=>(aQ,gw oN),none,[]⟩,⟨some 15,none,[],fun _=>(aQ,gw (oN.set n30.toNat v31)),none,[]⟩] [] J (by kernel_rfl) J (.cons .p0 .nil) (fun _=>J)<|AT.am 9 J J<|AM.qv (ar J) J<|AM.qv (ar J) J<|AM.qv (ar J) J<|AM.qv (ar J) J<|AM.qv (cE J J) J<|AM.qv (ar J) J<|AM.qv (ar J) J<|AM.qv (cE J J) J<|AM.qv (bc J J J Hs) J<|AM.nil<|AT.rd (Rs:=[(aQ,gw oN)]) (fun _=>J) J (fun _=>J) (fun _=>J) (bK (g:=ab.av) J J (.inl .p0) J Hs J) J<|AT.am 3 J J<|AM.qv (ar J) J<|AM.qv (ar J) J<|AM.qv (bc J J J Be) J<|AM.nil<|AT.rd (Rs:=[(aQ,gw oN)]) (fun _=>J) J (fun _=>J) (fun _=>J) (bK (g:=ab.av) J J (.inl .p0) J Be J) J<|AT.am 1 J J<|AM.qv (bc J J J JU) J<|AM.nil<|AT.vF (Ti:=[(aQ,gw oN)]) (Pi:=[(aQ,gw (oN.set n30.toNat v31))]) (fun _=>J) (fun _=>J) (fun _=>J) J J ?_ ?_
       ·exact bA (g:=ab.av) (vb:=v31) J J J J JU J .p0 J<|ah.nil ⟨_,J⟩
       refine AT.ra (fun _=>J) fun β=>ah.ghost<|aj.eqs (s:=0) (dt:=.sl 16 aQ 0 (oN.set n30.toNat v31).length) J (by simp)<|aj.here<|ah.ghost<|aj.eqs (s:=113) (dt:=.sl 16 aQ 0 (oN.set n30.toNat v31).length) J (by simp)<|aj.here<|ah.ghost<|aj.eqs (s:=115) (dt:=.sl 16 aQ 0 (oN.set n30.toNat v31).length) J (by simp)<|aj.here<|ah.ghost<|aj.eqs (s:=118) (dt:=.sl 16 aQ 0 (oN.set n30.toNat v31).length) J (by simp)<|aj.here<|ah.ghost<|aj.eqs (s:=123) (dt:=.sl 16 aQ 0 (oN.set n30.toNat v31).length) J (by simp)<|aj.here<|aG h fun v34 IY h=>ah.qv (bc J J J IY) J<|bA (g:=ab.av) (vb:=v32) J J J J IY J .p0 J<|ah.ghost<|aj.eqs (s:=0) (dt:=.sl 16 aQ 0 ((oN.set n30.toNat v31).set (aU (n30 - (1:Int))).toNat v32).length) J (by rw [List.length_set])<|aj.here<|ah.ghost<|aj.eqs (s:=113) (dt:=.sl 16 aQ 0 ((oN.set n30.toNat v31).set (aU (n30 - (1:Int))).toNat v32).length) J (by rw [List.length_set])<|aj.here<|ah.ghost<|aj.eqs (s:=115) (dt:=.sl 16 aQ 0 ((oN.set n30.toNat v31).set (aU (n30 - (1:Int))).toNat v32).length) J (by rw [List.length_set])<|aj.here<|ah.ghost<|aj.eqs (s:=118) (dt:=.sl 16 aQ 0 ((oN.set n30.toNat v31).set (aU (n30 - (1:Int))).toNat v32).length) J (by rw [List.length_set])<|aj.here<|ah.ghost<|aj.eqs (s:=123) (dt:=.sl 16 aQ 0 ((oN.set n30.toNat v31).set (aU (n30 - (1:Int))).toNat v32).length) J (by rw [List.length_set])<|aj.here<|rN<|aa.cr<|tR<|rM J J<|ah.qv (cE J J) J<|rA J J<|rN<|aa.stop<|?_
       cases h
       exact hJ4 _ _ J<|aj.lq [0] J J J
      ·refine aa.exit J<|have h:=cy h hA4;aa.ret<|?_
       cases h
       exact aj.here ⟨_,.nil,_,.cons .p0 .nil,⟨J,J⟩⟩
  ·refine tK<|aE<|rM J J<|rM J J<|ah.qv (bh J J) J<|ah.qv (jh J) J<|ah.qv (CW J J (by decide)) J<|ah.qv (jh J) J<|rA J J<|rN<|aE<|rM J J<|rM J J<|ah.qv (bh J J) J<|rA J J<|rN<|aE<|rA J J<|rA J J<|rN<|tS<|aE<|rM J J<|rM J J<|ah.qv (gx J J) J<|rN<|aa.cut (fun aI=>∃ (n35:Int) (n36:Int),dF self ae ai ao bD jL n35 n36=some r∧aI=⟨220,[(0,.sl 16 aQ 0 ae.length),(1,I ai),(2,I ao),(3,I bD),(4,.func (.func fo) gO),(18,I (aU (eJ .u64 (IntKind.u64.wrap (aU (ai+bD))) (1:Int)))),(19,I (aU ((aU (eJ .u64 (IntKind.u64.wrap (aU (ai+bD))) (1:Int)))+ao))),(20,I n35),(21,I n36)],[(aQ,gw ae)]⟩) ?_ ?_
   ·refine cD h J (fun h=>?_) (fun h=>?_)
    ·exact aE<|rM J J<|rM J J<|ah.qv (cE J J) J<|rA J J<|rN<|tR<|rM J J<|rA J J<|rN<|aa.stop<|aj.lq [0] ⟨aU ((aU ((aU (eJ .u64 (IntKind.u64.wrap (aU (ai+bD))) (1:Int)))+ao)) - bD),aU (eJ .u64 (IntKind.u64.wrap (aU (ai+bD))) (1:Int)),h,J⟩ J J
    ·exact aE<|rM J J<|rA J J<|rN<|tR<|rM J J<|rA J J<|rN<|aa.stop<|aj.lq [0] ⟨ai,ao,h,J⟩ J J
   ·rintro aI ⟨n35,n36,h,rfl⟩
    unfold dF at h
    refine aE<|rM J J<|ah.qv (cE J J) J<|rA J J<|rN<|tS<|aa.block<|aa.eU (fun x:Int×Int=>dE self ae ai ao bD jL x.1 x.2) (fun x aI=>aI=⟨220,[(0,.sl 16 aQ 0 ae.length),(1,I ai),(2,I ao),(3,I bD),(4,.func (.func fo) gO),(18,I (aU (eJ .u64 (IntKind.u64.wrap (aU (ai+bD))) (1:Int)))),(19,I (aU ((aU (eJ .u64 (IntKind.u64.wrap (aU (ai+bD))) (1:Int)))+ao))),(20,I x.1),(21,I x.2),(22,I (aU ((aU ((aU (eJ .u64 (IntKind.u64.wrap (aU (ai+bD))) (1:Int)))+ao)) - (1:Int))))],[(aQ,gw ae)]⟩) h ?_ ?_
    ·exact aj.lq [0] J J J
    ·intro x z5 aI J5 iQ h hJ5 hA5
     obtain ⟨n39,n40⟩:=x
     obtain rfl:=iQ
     replace h:dE self ae ai ao bD jL n39 n40=some z5:=h
     unfold dE at h
     refine tS<|aE<|rM J J<|rM J J<|ah.qv (ca J J) J<|rN<|cD h J (fun h=>?_) (fun h=>?_)
     ·refine tK<|aa.block<|aE<|rM J J<|rM J J<|ah.qv (bh J J) J<|ah.qv (jh J) J<|ah.qv (CW J J (by decide)) J<|ah.qv (jh J) J<|rA J J<|rN<|tS<|aa.bM (id:=35) (A:=[0,0,0,0,12,30,62,0,0,384,896,2047,4095,8191]) 14 mixed J (by kernel_rfl) (by kernel_rfl)<|AM.qv (ar J) J<|AM.qv (ar J) J<|AM.qv (ar J) J<|AM.qv (ar J) J<|AM.qv (cE J J) J<|aG h fun v41 IZ h=>AM.qv (bc J J J IZ) J<|AM.qv (bK (g:=ab.av) J J (.inl .p0) J IZ J) J<|AM.qv (ar J) J<|AM.qv (ar J) J<|aG h fun Ak JV h=>AM.qv (bc J J J JV) J<|AM.qv (bK (g:=ab.av) J J (.inl .p0) J JV J) J<|aG h fun XD Qx h=>AM.BW J J (nG Qx) cR J<|AM.qv (ca J J) J<|AM.qv (qh J) J<|AM.nil<|rN<|aa.cut (fun aI=>∃ (n44:Int) (n45:Int),dB n44 n45=some z5∧aI=⟨220,[(0,.sl 16 aQ 0 ae.length),(1,I ai),(2,I ao),(3,I bD),(4,.func (.func fo) gO),(18,I (aU (eJ .u64 (IntKind.u64.wrap (aU (ai+bD))) (1:Int)))),(19,I (aU ((aU (eJ .u64 (IntKind.u64.wrap (aU (ai+bD))) (1:Int)))+ao))),(20,I n44),(21,I n45),(22,I (aU ((aU ((aU (eJ .u64 (IntKind.u64.wrap (aU (ai+bD))) (1:Int)))+ao)) - (1:Int))))],[(aQ,gw ae)]⟩) ?_ ?_
      ·refine cD h J (fun h=>?_) (fun h=>?_)
       ·exact tR<|rM J J<|ah.qv (bh J J) J<|rA J J<|rN<|aa.stop<|aj.lq [0] ⟨aU ((aU (eJ .u64 (IntKind.u64.wrap (aU (n39+n40))) (1:Int)))+(1:Int)),n40,h,J⟩ J J
       ·exact tR<|rM J J<|rA J J<|rN<|aa.stop<|aj.lq [0] ⟨n39,aU (eJ .u64 (IntKind.u64.wrap (aU (n39+n40))) (1:Int)),h,J⟩ J J
      ·rintro aI ⟨n44,n45,h,rfl⟩
       unfold dB at h
       refine aa.cr<|aa.stop<|?_
       cases h
       exact hJ5 _ _ J<|aj.lq [0] J J J
     ·refine aa.exit J<|have h:=cy h hA5;aE<|rM J J<|rM J J<|ah.qv (cE J J) J<|rA J J<|rN<|tS<|tS<|aa.cut (fun aI=>∃ (Qk:Bool),fE self ae ai ao bD jL n39 Qk=some r∧aI=⟨220,[(0,.sl 16 aQ 0 ae.length),(1,I ai),(2,I ao),(3,I bD),(4,.func (.func fo) gO),(18,I (aU (eJ .u64 (IntKind.u64.wrap (aU (ai+bD))) (1:Int)))),(20,I n39),(24,I (aU ((aU ((aU (eJ .u64 (IntKind.u64.wrap (aU (ai+bD))) (1:Int)))+ao)) - n39))),(185,.bool Qk)],[(aQ,gw ae)]⟩) ?_ ?_
      ·refine tR<|rM J J<|rM J J<|ah.qv (ca J J) J<|rM J J<|ah.cJ J J J (fun hc=>?_) (fun hc=>?_)
       ·rw [qY hc] at h
        exact rM J J<|rY J J J<|rM J J<|rY J J J<|ah.qv (ca J J) J<|rT J J J<|rN<|aa.stop<|aj.lq [0] ⟨decide (ao < (aU ((aU ((aU (eJ .u64 (IntKind.u64.wrap (aU (ai+bD))) (1:Int)))+ao)) - n39))),h,J⟩ J J
       ·rw [qZ hc] at h
        exact rG J J J J<|rG J J J J<|rE J J J<|rN<|aa.stop<|aj.lq [0] ⟨false,h,J⟩ J J
      ·rintro aI ⟨Qk,h,rfl⟩
       unfold fE at h
       refine aa.cut (fun aI=>∃ (wE:List ab),dD self ai ao bD jL n39 wE=some r∧aI=⟨220,[(0,.sl 16 aQ 0 wE.length),(1,I ai),(3,I bD),(4,.func (.func fo) gO),(18,I (aU (eJ .u64 (IntKind.u64.wrap (aU (ai+bD))) (1:Int)))),(20,I n39),(24,I (aU ((aU ((aU (eJ .u64 (IntKind.u64.wrap (aU (ai+bD))) (1:Int)))+ao)) - n39)))],[(aQ,gw wE)]⟩) ?_ ?_
       ·refine cB h J (fun h=>?_) (fun h=>?_)
        ·exact tR<|rM J J<|rM J J<|rM J J<|rM J J<|rM J J<|aG h fun Ql Lk h=>aV J (oQ nG (lu Lk)) cR (.cons .p0 .nil) J J<|ah.ghost<|aj.eqs (s:=0) (dt:=.sl 16 aQ 0 Ql.length) J (congrArg (AV.sl 16 aQ 0) (dP Lk))<|aj.here<|ah.ghost<|aj.eqs (s:=186) (dt:=.sl 16 aQ 0 Ql.length) J (congrArg (AV.sl 16 aQ 0) (dP Lk))<|aj.here<|rN<|aa.stop<|aj.lq [0] ⟨Ql,h,J⟩ J J
        ·exact tK<|aa.stop<|aj.lq [0] ⟨ae,h,J⟩ J J
       ·rintro aI ⟨wE,h,rfl⟩
        unfold dD at h
        refine tS<|tS<|aa.cut (fun aI=>∃ (c49:Bool),fD self ai ao bD jL n39 wE c49=some r∧aI=⟨220,[(0,.sl 16 aQ 0 wE.length),(1,I ai),(3,I bD),(4,.func (.func fo) gO),(18,I (aU (eJ .u64 (IntKind.u64.wrap (aU (ai+bD))) (1:Int)))),(20,I n39),(24,I (aU ((aU ((aU (eJ .u64 (IntKind.u64.wrap (aU (ai+bD))) (1:Int)))+ao)) - n39))),(199,.bool c49)],[(aQ,gw wE)]⟩) ?_ ?_
        ·refine tR<|rM J J<|rM J J<|ah.qv (ca J J) J<|rM J J<|ah.cJ J J J (fun hc=>?_) (fun hc=>?_)
         ·rw [qY hc] at h
          exact rM J J<|rY J J J<|rM J J<|rY J J J<|ah.qv (ca J J) J<|rT J J J<|rN<|aa.stop<|aj.lq [0] ⟨decide (n39 < (aU (eJ .u64 (IntKind.u64.wrap (aU (ai+bD))) (1:Int)))),h,J⟩ J J
         ·rw [qZ hc] at h
          exact rG J J J J<|rG J J J J<|rE J J J<|rN<|aa.stop<|aj.lq [0] ⟨false,h,J⟩ J J
        ·rintro aI ⟨c49,h,rfl⟩
         unfold fD at h
         refine aa.cut (fun aI=>∃ (zV:List ab),dC self ai ao bD jL n39 zV=some r∧aI=⟨220,[(0,.sl 16 aQ 0 zV.length),(3,I bD),(4,.func (.func fo) gO),(18,I (aU (eJ .u64 (IntKind.u64.wrap (aU (ai+bD))) (1:Int)))),(24,I (aU ((aU ((aU (eJ .u64 (IntKind.u64.wrap (aU (ai+bD))) (1:Int)))+ao)) - n39)))],[(aQ,gw zV)]⟩) ?_ ?_
         ·refine cB h J (fun h=>?_) (fun h=>?_)
          ·exact tR<|rM J J<|rM J J<|rM J J<|rM J J<|rM J J<|aG h fun v51 NJ h=>aV J (I0 nG (lu NJ)) cR (.cons .p0 .nil) J J<|ah.ghost<|aj.eqs (s:=0) (dt:=.sl 16 aQ 0 v51.length) J (congrArg (AV.sl 16 aQ 0) (dP NJ))<|aj.here<|ah.ghost<|aj.eqs (s:=200) (dt:=.sl 16 aQ 0 v51.length) J (congrArg (AV.sl 16 aQ 0) (dP NJ))<|aj.here<|rN<|aa.stop<|aj.lq [0] ⟨v51,h,J⟩ J J
          ·exact tK<|aa.stop<|aj.lq [0] ⟨wE,h,J⟩ J J
         ·rintro aI ⟨zV,h,rfl⟩
          unfold dC at h
          refine tS<|aa.cut (fun aI=>∃ (Qj:Bool),fC self ai ao bD jL n39 zV Qj=some r∧aI=⟨220,[(0,.sl 16 aQ 0 zV.length),(3,I bD),(4,.func (.func fo) gO),(18,I (aU (eJ .u64 (IntKind.u64.wrap (aU (ai+bD))) (1:Int)))),(24,I (aU ((aU ((aU (eJ .u64 (IntKind.u64.wrap (aU (ai+bD))) (1:Int)))+ao)) - n39))),(213,.bool Qj)],[(aQ,gw zV)]⟩) ?_ ?_
          ·refine tR<|rM J J<|rM J J<|ah.qv (ca J J) J<|rM J J<|ah.cJ J J J (fun hc=>?_) (fun hc=>?_)
           ·rw [qY hc] at h
            exact rM J J<|rY J J J<|rM J J<|rY J J J<|ah.qv (ca J J) J<|rT J J J<|rN<|aa.stop<|aj.lq [0] ⟨decide ((aU ((aU ((aU (eJ .u64 (IntKind.u64.wrap (aU (ai+bD))) (1:Int)))+ao)) - n39)) < bD),h,J⟩ J J
           ·rw [qZ hc] at h
            exact rG J J J J<|rG J J J J<|rE J J J<|rN<|aa.stop<|aj.lq [0] ⟨false,h,J⟩ J J
          ·rintro aI ⟨Qj,h,rfl⟩
           unfold fC at h
           refine aa.cut (fun aI=>∃ (Qi:List ab),dq Qi=some r∧aI=⟨220,[],[(aQ,gw Qi)]⟩) ?_ ?_
           ·refine cB h J (fun h=>?_) (fun h=>?_)
            ·exact tR<|rM J J<|rM J J<|rM J J<|rM J J<|rM J J<|aG h fun v54 NK h=>aV J (I0 nG (lu NK)) cR (.cons .p0 .nil) J J<|ah.ghost<|aj.eqs (s:=0) (dt:=.sl 16 aQ 0 v54.length) J (congrArg (AV.sl 16 aQ 0) (dP NK))<|aj.here<|ah.ghost<|aj.eqs (s:=214) (dt:=.sl 16 aQ 0 v54.length) J (congrArg (AV.sl 16 aQ 0) (dP NK))<|aj.here<|rN<|aa.stop<|aj.lq [0] ⟨v54,h,J⟩ J J
            ·exact tK<|aa.stop<|aj.lq [0] ⟨zV,h,J⟩ J J
           ·rintro aI ⟨Qi,h,rfl⟩
            unfold dq at h
            refine aa.nil<|?_
            cases h
            exact aj.here ⟨_,.nil,_,.cons .p0 .nil,⟨J,J⟩⟩
theorem nh [GI:bz]:∀ (k:Nat) {aQ:Bk} {ae:List ab} {ai:Int} {ao:Int} {bD:Int} {jL:ab→ab→Option Int} {fo:FuncId} [bf Tryz.prog fo] {gO:List AV} (nG:∀ {y0 y1:_} {u:Int},jL y0 y1=some u→Pu Tryz.prog fo (ab.av y0 :: ab.av y1 :: gO) (I u)) {r:(List ab)},fJ k ae ai ao bD jL=some r→aH Tryz.prog 122 [.sl 16 aQ 0 ae.length,I ai,I ao,I bD,.func (.func fo) gO] [(aQ,gw ae)] (T0 ([(aQ,gw r)]) (.mA [])):=by
 intro k
 induction k with
 | zero=>intro aQ ae ai ao bD jL fo _ gO nG r h;cases h
 | succ k ih=>intro aQ ae ai ao bD jL fo _ gO nG r h;exact mQ ih nG h
theorem jI [GI:bz] {aQ:Bk} {ae:List ab} {ai:Int} {ao:Int} {bD:Int} {jL:ab→ab→Option Int} {fo:FuncId} [bf Tryz.prog fo] {gO:List AV} (nG:∀ {y0 y1:_} {u:Int},jL y0 y1=some u→Pu Tryz.prog fo (ab.av y0 :: ab.av y1 :: gO) (I u)) {r:(List ab)} (h:gp ae ai ao bD jL=some r):aH Tryz.prog 122 [.sl 16 aQ 0 ae.length,I ai,I ao,I bD,.func (.func fo) gO] [(aQ,gw ae)] (T0 ([(aQ,gw r)]) (.mA [])):=nh depth nG h
theorem oR [GI:bz] {aQ:Bk} {ae:List ab} {ai:Int} {qE:ab→ab→Option Int} {rB:FuncId} [bf Tryz.prog rB] {tA:List AV} (zk:∀ {y0 y1:_} {u:Int},qE y0 y1=some u→Pu Tryz.prog rB (ab.av y0 :: ab.av y1 :: tA) (I u)) {r:(List ab)} (h:dK ae ai qE=some r):aH Tryz.prog 73 [.sl 16 aQ 0 ae.length,I ai,.func (.func rB) tA] [(aQ,gw ae)] (T0 ([(aQ,gw r)]) (.mA [])):=by
 unfold dK at h
 refine aH.fg ?_
 refine aH.bj Tryz.func73 J Tryz.ntmps73 Tryz.results73 J J ?_
 refine aE<|rA J J<|rN<|aE<|rM J J<|rA J J<|rA J J<|rN<|tS<|aa.block<|aa.eU (fun x:(List ab)×Int×Int=>bQ ai qE x.1 x.2.1 x.2.2) (fun x aI=>aI=⟨63,[(0,.sl 16 aQ 0 x.1.length),(1,I ai),(2,.func (.func rB) tA),(6,I (20:Int)),(7,I x.2.1),(8,I x.2.2)],[(aQ,gw x.1)]⟩) h ?_ ?_
 ·exact aj.lq [0] J J J
 ·intro x z1 aI J1 iQ h lK fS
  obtain ⟨l4,n5,n6⟩:=x
  obtain rfl:=iQ
  replace h:bQ ai qE l4 n5 n6=some z1:=h
  unfold bQ at h
  refine tS<|aE<|rM J J<|rM J J<|ah.qv (uE J J) J<|rN<|cD h J (fun h=>?_) (fun h=>?_)
  ·refine tK<|aa.block<|aE<|rM J J<|rM J J<|rM J J<|rM J J<|aG h fun v7 e1 h=>aV J (ie zk (lu e1)) cR (.cons .p0 .nil) J J<|ah.ghost<|aj.eqs (s:=0) (dt:=.sl 16 aQ 0 v7.length) J (congrArg (AV.sl 16 aQ 0) (dP e1))<|aj.here<|ah.ghost<|aj.eqs (s:=14) (dt:=.sl 16 aQ 0 v7.length) J (congrArg (AV.sl 16 aQ 0) (dP e1))<|aj.here<|rN<|aE<|rM J J<|rA J J<|rN<|tR<|rM J J<|rM J J<|ah.qv (bh J J) J<|rA J J<|rN<|aa.cr<|aa.stop<|?_
   cases h
   exact lK _ _ J<|aj.lq [0] J J J
  ·refine aa.exit J<|have h:=cy h fS;?_
   unfold ej at h
   refine aE<|rM J J<|rM J J<|rM J J<|rM J J<|aG h fun v8 e2 h=>aV J (ie zk (lu e2)) cR (.cons .p0 .nil) J J<|ah.ghost<|aj.eqs (s:=0) (dt:=.sl 16 aQ 0 v8.length) J (congrArg (AV.sl 16 aQ 0) (dP e2))<|aj.here<|ah.ghost<|aj.eqs (s:=23) (dt:=.sl 16 aQ 0 v8.length) J (congrArg (AV.sl 16 aQ 0) (dP e2))<|aj.here<|rN<|aa.block<|aa.eU (fun x:(List ab)×Int=>ch ai qE x.1 x.2) (fun x aI=>aI=⟨63,[(0,.sl 16 aQ 0 x.1.length),(1,I ai),(2,.func (.func rB) tA),(6,I x.2)],[(aQ,gw x.1)]⟩) h ?_ ?_
   ·exact aj.lq [0] J J J
   ·intro x z2 aI J2 iQ h NL Ht
    obtain ⟨sF,n12⟩:=x
    obtain rfl:=iQ
    replace h:ch ai qE sF n12=some z2:=h
    unfold ch at h
    refine tS<|aE<|rM J J<|rM J J<|ah.qv (ca J J) J<|rN<|cD h J (fun h=>?_) (fun h=>?_)
    ·refine tK<|aa.block<|aE<|rM J J<|ah.qv (wG J J) J<|rA J J<|rA J J<|rN<|tS<|aa.block<|aa.eU (fun x:(List ab)×Int×Int=>ei ai qE n12 x.1 x.2.1 x.2.2) (fun x aI=>aI=⟨63,[(0,.sl 16 aQ 0 x.1.length),(1,I ai),(2,.func (.func rB) tA),(6,I n12),(7,I x.2.1),(8,I x.2.2)],[(aQ,gw x.1)]⟩) h ?_ ?_
     ·exact aj.lq [0] J J J
     ·intro x z3 aI J3 iQ h TQ TR
      obtain ⟨Bb,n17,n18⟩:=x
      obtain rfl:=iQ
      replace h:ei ai qE n12 Bb n17 n18=some z3:=h
      unfold ei at h
      refine tS<|aE<|rM J J<|rM J J<|ah.qv (uE J J) J<|rN<|cD h J (fun h=>?_) (fun h=>?_)
      ·refine tK<|aa.block<|aE<|rM J J<|rM J J<|rM J J<|rM J J<|ah.qv (bh J J) J<|rM J J<|rM J J<|aG h fun JR e3 h=>aV J (jI zk (lu e3)) cR (.cons .p0 .nil) J J<|ah.ghost<|aj.eqs (s:=0) (dt:=.sl 16 aQ 0 JR.length) J (congrArg (AV.sl 16 aQ 0) (dP e3))<|aj.here<|ah.ghost<|aj.eqs (s:=36) (dt:=.sl 16 aQ 0 JR.length) J (congrArg (AV.sl 16 aQ 0) (dP e3))<|aj.here<|rN<|aE<|rM J J<|rA J J<|rN<|tR<|rM J J<|rM J J<|ah.qv (wG J J) J<|ah.qv (bh J J) J<|rA J J<|rN<|aa.cr<|aa.stop<|?_
       cases h
       exact TQ _ _ J<|aj.lq [0] J J J
      ·refine aa.exit J<|have h:=cy h TR;?_
       unfold jN at h
       refine tS<|aE<|rM J J<|rM J J<|ah.qv (bh J J) J<|rA J J<|rN<|aE<|rM J J<|rM J J<|ah.qv (ca J J) J<|rN<|aa.cut (fun aI=>∃ (B7:List ab),eh n12 B7=some z2∧aI=⟨63,[(0,.sl 16 aQ 0 B7.length),(1,I ai),(2,.func (.func rB) tA),(6,I n12)],[(aQ,gw B7)]⟩) ?_ ?_
       ·refine cD h J (fun h=>?_) (fun h=>?_)
        ·exact tR<|rM J J<|rM J J<|rM J J<|rM J J<|rM J J<|aG h fun v21 e4 h=>aV J (jI zk (lu e4)) cR (.cons .p0 .nil) J J<|ah.ghost<|aj.eqs (s:=0) (dt:=.sl 16 aQ 0 v21.length) J (congrArg (AV.sl 16 aQ 0) (dP e4))<|aj.here<|ah.ghost<|aj.eqs (s:=55) (dt:=.sl 16 aQ 0 v21.length) J (congrArg (AV.sl 16 aQ 0) (dP e4))<|aj.here<|rN<|aa.stop<|aj.lq [0] ⟨v21,h,J⟩ J J
        ·exact tK<|aa.stop<|aj.lq [0] ⟨Bb,h,J⟩ J J
       ·rintro aI ⟨B7,h,rfl⟩
        unfold eh at h
        refine tR<|rM J J<|ah.qv (wG J J) J<|rA J J<|rN<|aa.cr<|aa.stop<|?_
        cases h
        exact NL _ _ J<|aj.lq [0] J J J
    ·refine aa.exit J<|have h:=cy h Ht;aa.nil<|?_
     cases h
     exact aj.here ⟨_,.nil,_,.cons .p0 .nil,⟨J,J⟩⟩
theorem mh [GI:bz] {aQ:Bk} {ae:List ab} {iF:ab→ab→Option Int} {dZ:FuncId} [bf Tryz.prog dZ] {fZ:List AV} (mK:∀ {y0 y1:_} {u:Int},iF y0 y1=some u→Pu Tryz.prog dZ (ab.av y0 :: ab.av y1 :: fZ) (I u)) {r:(List ab)} (h:ck ae iF=some r):aH Tryz.prog 39 [.sl 16 aQ 0 ae.length,.func (.func dZ) fZ] [(aQ,gw ae)] (T0 ([(aQ,gw r)]) (.mA [])):=by
 unfold ck at h
 refine aH.fg ?_
 refine aH.bj Tryz.func39 J Tryz.ntmps39 Tryz.results39 J J ?_
 refine tR<|rM J J<|rM J J<|ah.qv (eA J) J<|rM J J<|aG h fun v1 e1 h=>aV J (oR mK (lu e1)) cR (.cons .p0 .nil) J J<|ah.ghost<|aj.eqs (s:=0) (dt:=.sl 16 aQ 0 v1.length) J (congrArg (AV.sl 16 aQ 0) (dP e1))<|aj.here<|ah.ghost<|aj.eqs (s:=4) (dt:=.sl 16 aQ 0 v1.length) J (congrArg (AV.sl 16 aQ 0) (dP e1))<|aj.here<|ah.ghost<|aj.eqs (s:=5) (dt:=.sl 16 aQ 0 v1.length) J (congrArg (AV.sl 16 aQ 0) (dP e1))<|aj.here<|rN<|aa.nil<|?_
 cases h
 exact aj.here ⟨_,.nil,_,.cons .p0 .nil,⟨J,J⟩⟩
theorem x6 [GI:bz] {aQ:Bk} {ae:an} {ai:Int} {r:(List ab)×an} (h:lZ ae ai=some r):aH Tryz.prog 6 [.ptr aQ 0,I ai] [(aQ,.cells [ic ae.L,I ae.at_])] (T1 (fun oP=>[(aQ,.cells [ic r.2.L,I r.2.at_]),(oP,gw r.1)]) (fun oP=>.sl 16 oP 0 r.1.length)):=by
 unfold lZ at h
 refine aH.fg ?_
 refine aH.bj Tryz.func6 J Tryz.ntmps6 Tryz.results6 J J ?_
 refine aE<|rA J J<|rN<|aE<|rA J J<|rN<|aE<|kE J fun b1=>rA J J<|rN<|aE<|rM J J<|aG h fun v2 e1 h=>aV J (fc e1) cR (.cons .p1 .nil) J J<|rA J J<|rA J J<|rN<|tS<|aE<|rM J J<|rM J J<|rN<|aa.block<|aa.eU (fun x:(List Int)×Int×(List ab)×(List (ax×Int))×Int×Int×Int=>jw ai x.1 x.2.1 x.2.2.1 x.2.2.2.1 x.2.2.2.2.1 x.2.2.2.2.2.1 x.2.2.2.2.2.2) (fun x aI=>∃ (pY:Bk),aI=⟨111,[(0,.ptr aQ 0),(5,.sl 16 pY 0 x.2.2.1.length),(6,.cd b1),(7,I x.2.2.2.2.1),(8,I x.2.2.2.2.2.1),(14,I ai),(15,I x.2.2.2.2.2.2)],[(aQ,.cells [ic x.1,I x.2.1]),(pY,gw x.2.2.1),(b1,Mq x.2.2.2.1)]⟩) h ?_ ?_
 ·exact aj.arr (s:=5) 16 J fun Mr=>aj.lq [1,0,0] ⟨Mr,J⟩ J J
 ·intro x z1 aI J1 iQ h lK fS
  obtain ⟨sF,n12,vW,zY,n16,n17,n18⟩:=x
  obtain ⟨pY,rfl⟩:=iQ
  replace h:jw ai sF n12 vW zY n16 n17 n18=some z1:=h
  unfold jw at h
  refine aE<|ah.qv (ca J J) J<|rN<|tS<|cD h J (fun h=>?_) (fun h=>?_)
  ·refine tK<|tS<|aa.block<|aE<|rM J J<|rM J J<|aG h fun v20 e2 h=>aV J (pS e2) cR (.cons .p0 .nil) J J<|gd J J J J fun TT=>aC J J J J .p0 J J<|rN<|aE<|rM J J<|aT (xs:=([([104,97]:ax),([104,97]:ax),([104,98]:ax)]).map AV.str) J J J J J J<|aG h fun v22 e3 h=>aV J (bJ e3) cR (.cons .p1 .nil) J J<|rF J J J<|aC J J J J .p1 J J<|rN<|aE<|rM J J<|rF J J J<|rL J J .p1 J J<|aG h fun v23 e4 h=>ah.qv (pB (gk:=AV.str) (gv:=I) (M:=zY) (key:=v22.1) (Z:=(0:Int)) J J .p3 J J J e4 J) J<|ah.qv (bh J J) J<|fA (gk:=AV.str) (gv:=I) (M:=zY) (key:=v22.1) (v:=aU (v23+(1:Int))) J J J J .p3<|rN<|aE<|rM J J<|rF J J J<|rL J J .p1 J J<|aG h fun v24 e5 h=>ah.qv (pB (gk:=AV.str) (gv:=I) (M:=(gm zY v22.1 (aU (v23+(1:Int))))) (key:=v22.1) (Z:=(0:Int)) J J .p3 J J J e5 J) J<|rF J J J<|aC J J J J .p1 J J<|rN<|aE<|rM J J<|rM J J<|aT (xs:=([(0:Int),(1:Int),(1:Int),(2:Int)]).map I) J J J J J J<|aG h fun v25 e6 h=>aV J (dO e6) cR (.cons .p0 .nil) J J<|ah.qv (bh J J) J<|rA J J<|rN<|aE<|rM J J<|rF J J J<|rL J J .p1 J J<|ah.qv (Np J J J) J<|rA J J<|rN<|aE<|rM J J<|rF J J J<|aC J J J J .p1 J J<|rN<|aE<|rM J J<|ah.qv (aS J J .p1 J) J<|aT (xs:=([(⟨v22.1,v24,max (max (aU (n16+v25.1)) v24) (1:Int),v20.1.At,v20.1.Kind,v20.1.Device,v20.1.Model,v20.1.aK,v20.1.az,v20.1.Key,v20.1.Name,v20.1.Value,v20.1.aW,v20.1.ak⟩:ab)]).map ab.av) J J J J J J<|aG h fun yn e7 h=>iz (g:=ab.av) J J J J J J J J (.list _) e7 (fun _=>.p2) J fun RF=>rA J J<|rN<|tR<|rM J J<|rM J J<|aT (xs:=([(0:Int),(1:Int),(5:Int),(20:Int)]).map I) J J J J J J<|aG h fun v28 e8 h=>aV J (dO e8) cR (.cons .p0 .nil) J J<|ah.qv (bh J J) J<|rA J J<|rN<|aa.cr<|tR<|ah.qv (bh J J) J<|rM J J<|rN<|aa.stop<|?_
   cases h
   exact lK _ _ J<|aj.lq [0,1,1] ⟨RF,J⟩ J J
  ·refine aa.exit J<|have h:=cy h fS;?_
   unfold ly at h
   refine aE<|rM J J<|aG h fun nu e9 h=>aV J (mh (fun e=>tz e) (lu e9)) cR (.cons .p1 .nil) J J<|ah.ghost<|aj.eqs (s:=5) (dt:=.sl 16 pY 0 nu.length) J (congrArg (AV.sl 16 pY 0) (dP e9))<|aj.here<|ah.ghost<|aj.eqs (s:=55) (dt:=.sl 16 pY 0 nu.length) J (congrArg (AV.sl 16 pY 0) (dP e9))<|aj.here<|rN<|tS<|tS<|aa.cut (fun aI=>∃ (JS:List Int) (n31:Int) (Qm:Bool),iq nu JS n31 Qm=some r∧aI=⟨111,[(0,.ptr aQ 0),(5,.sl 16 pY 0 nu.length),(63,.bool Qm)],[(aQ,.cells [ic JS,I n31]),(pY,gw nu)]⟩) ?_ ?_
   ·refine tR<|rM J J<|ah.qv (eA J) J<|ah.qv (gx J J) J<|rM J J<|gT h J J J (fun h=>?_) (fun h=>?_)
    ·exact rM J J<|rY J J J<|aG h fun v33 Eg h=>aV J (mg Eg) cR (.cons .p1 .nil) J J<|rT J J J<|rN<|aa.stop<|aj.lq [0,0] ⟨v33.2.L,v33.2.at_,v33.1,h,J⟩ J J
    ·exact rG J J J J<|rE J J J<|rN<|aa.stop<|aj.lq [1,0] ⟨sF,n12,false,h,J⟩ J J
   ·rintro aI ⟨JS,n31,Qm,h,rfl⟩
    unfold iq at h
    refine aa.cut (fun aI=>∃ (Dy:List Int) (n35:Int) (ER:List ab),jv Dy n35 ER=some r∧aI=⟨111,[(5,.sl 16 pY 0 ER.length)],[(aQ,.cells [ic Dy,I n35]),(pY,gw ER)]⟩) ?_ ?_
    ·refine cB h J (fun h=>?_) (fun h=>?_)
     ·refine aE<|rM J J<|rM J J<|rM J J<|ah.qv (eA J) J<|aG h fun v37 Hs h=>aV J (fc Hs) cR (.cons .p0 .nil) J J<|aG h fun aD Be h=>ah.qv (bc J J J Be) J<|rA J J<|rN<|aG h fun v39 JU h=>aG h fun v40 IY h=>aG h fun v41 IZ h=>aG h fun Ak JV h=>aa.gg (id:=19) (A:=[0,0,0,0,0,0,32,96,224,480,1008,0,0,4096,12288,28672,61440,131056,0,0,524288,1572864,3670016,7864320,16777200,0,0,67108864,201326592,469762048,1006632960,2147483632,4294967281,8589934577,17179869169,34359738355,68719476723,137438953459,274877906935,549755813879,1099511627767,2199023255551,4398046511103,8796093022207]) (H0:=[(aQ,.cells [ic v37.2.L,I v37.2.at_]),(pY,gw nu)]) (HH:=fun β=>[(aQ,.cells [ic Ak.2.L,I Ak.2.at_]),(pY,gw (((nu.set v37.1.toNat (⟨v39.1,aD.No,aD.aO,aD.At,aD.Kind,aD.Device,aD.Model,aD.aK,aD.az,aD.Key,aD.Name,aD.Value,aD.aW,aD.ak⟩:ab)).set v37.1.toNat (⟨v39.1,v40.1,aD.aO,aD.At,aD.Kind,aD.Device,aD.Model,aD.aK,aD.az,aD.Key,aD.Name,aD.Value,aD.aW,aD.ak⟩:ab)).set v37.1.toNat (⟨v39.1,v40.1,v41.1,aD.At,aD.Kind,aD.Device,aD.Model,aD.aK,aD.az,aD.Key,aD.Name,aD.Value,aD.aW,aD.ak⟩:ab)))]) 41 mixed J (by kernel_rfl) (by kernel_rfl) [⟨none,some 10,[],fun _=>(aQ,.cells [ic v37.2.L,I v37.2.at_]),none,[]⟩,⟨none,some 34,[8,15,22,29],fun _=>(pY,gw nu),none,[]⟩,⟨some 10,some 17,[],fun _=>(aQ,.cells [ic v39.2.L,I v39.2.at_]),none,[]⟩,⟨some 17,some 24,[],fun _=>(aQ,.cells [ic v40.2.L,I v40.2.at_]),none,[]⟩,⟨some 24,some 31,[],fun _=>(aQ,.cells [ic v41.2.L,I v41.2.at_]),none,[]⟩,⟨some 31,none,[],fun _=>(aQ,.cells [ic Ak.2.L,I Ak.2.at_]),none,[]⟩,⟨some 34,some 37,[],fun _=>(pY,gw (nu.set v37.1.toNat (⟨v39.1,aD.No,aD.aO,aD.At,aD.Kind,aD.Device,aD.Model,aD.aK,aD.az,aD.Key,aD.Name,aD.Value,aD.aW,aD.ak⟩:ab))),none,[]⟩,⟨some 37,some 40,[],fun _=>(pY,gw ((nu.set v37.1.toNat (⟨v39.1,aD.No,aD.aO,aD.At,aD.Kind,aD.Device,aD.Model,aD.aK,aD.az,aD.Key,aD.Name,aD.Value,aD.aW,aD.ak⟩:ab)).set v37.1.toNat (⟨v39.1,v40.1,aD.aO,aD.At,aD.Kind,aD.Device,aD.Model,aD.aK,aD.az,aD.Key,aD.Name,aD.Value,aD.aW,aD.ak⟩:ab))),none,[]⟩,⟨some 40,none,[],fun _=>(pY,gw (((nu.set v37.1.toNat (⟨v39.1,aD.No,aD.aO,aD.At,aD.Kind,aD.Device,aD.Model,aD.aK,aD.az,aD.Key,aD.Name,aD.Value,aD.aW,aD.ak⟩:ab)).set v37.1.toNat (⟨v39.1,v40.1,aD.aO,aD.At,aD.Kind,aD.Device,aD.Model,aD.aK,aD.az,aD.Key,aD.Name,aD.Value,aD.aW,aD.ak⟩:ab)).set v37.1.toNat (⟨v39.1,v40.1,v41.1,aD.At,aD.Kind,aD.Device,aD.Model,aD.aK,aD.az,aD.Key,aD.Name,aD.Value,aD.aW,aD.ak⟩:ab))),none,[]⟩] [] J (by kernel_rfl) J (.cons .p0 (.cons .p0 .nil)) (fun _=>J)<|AT.am 8 J J<|AM.qv (ar J) J<|AM.qv (ar J) J<|AM.qv (ar J) J<|AM.qv (ar J) J<|AM.qv (ar J) J<|AM.qv (ar J) J<|AM.qv (br J) J<|AM.qv (bg J J) J<|AM.nil<|AT.rd (Rs:=[(pY,gw nu)]) (fun _=>J) J (fun _=>J) (fun _=>J) (cw (g:=ab.av) J J (.inl .p0) Be J) J<|AT.am 1 J J<|AM.ec (xs:=([aD.cj,([]:ax),([104,122]:ax)]).map AV.str) J J J J J J<|AM.nil<|AT.xV (av:=.str v39.1) (Ti:=[(aQ,.cells [ic v37.2.L,I v37.2.at_])]) (Pi:=[(aQ,.cells [ic v39.2.L,I v39.2.at_])]) (fun _=>J) (fun _=>J) (fun _=>J) J J J ?_ ?_
      ·exact aV J (bJ JU) cR (.cons .p0 .nil) J J<|ah.nil ⟨_,J,J⟩
      refine AT.am 4 J J<|AM.qv (ar J) J<|AM.qv (ar J) J<|AM.qv (br J) J<|AM.qv (bg J J) J<|AM.nil<|AT.rd (Rs:=[(pY,gw nu)]) (fun _=>J) J (fun _=>J) (fun _=>J) (cw (g:=ab.av) J J (.inl .p0) Be J) J<|AT.am 1 J J<|AM.ec (xs:=([aD.No,(0:Int),(9:Int)]).map I) J J J J J J<|AM.nil<|AT.xV (av:=I v40.1) (Ti:=[(aQ,.cells [ic v39.2.L,I v39.2.at_])]) (Pi:=[(aQ,.cells [ic v40.2.L,I v40.2.at_])]) (fun _=>J) (fun _=>J) (fun _=>J) J J J ?_ ?_
      ·exact aV J (dO IY) cR (.cons .p0 .nil) J J<|ah.nil ⟨_,J,J⟩
      refine AT.am 4 J J<|AM.qv (ar J) J<|AM.qv (ar J) J<|AM.qv (br J) J<|AM.qv (bg J J) J<|AM.nil<|AT.rd (Rs:=[(pY,gw nu)]) (fun _=>J) J (fun _=>J) (fun _=>J) (cw (g:=ab.av) J J (.inl .p0) Be J) J<|AT.am 1 J J<|AM.ec (xs:=([aD.aO,(0:Int),(1:Int)]).map I) J J J J J J<|AM.nil<|AT.xV (av:=I v41.1) (Ti:=[(aQ,.cells [ic v40.2.L,I v40.2.at_])]) (Pi:=[(aQ,.cells [ic v41.2.L,I v41.2.at_])]) (fun _=>J) (fun _=>J) (fun _=>J) J J J ?_ ?_
      ·exact aV J (dO IZ) cR (.cons .p0 .nil) J J<|ah.nil ⟨_,J,J⟩
      refine AT.am 4 J J<|AM.qv (ar J) J<|AM.qv (ar J) J<|AM.qv (br J) J<|AM.qv (bg J J) J<|AM.nil<|AT.rd (Rs:=[(pY,gw nu)]) (fun _=>J) J (fun _=>J) (fun _=>J) (cw (g:=ab.av) J J (.inl .p0) Be J) J<|AT.am 1 J J<|AM.ec (xs:=([aD.At,(-1:Int),(345686400000:Int)]).map I) J J J J J J<|AM.nil<|AT.xV (av:=I Ak.1) (Ti:=[(aQ,.cells [ic v41.2.L,I v41.2.at_])]) (Pi:=[(aQ,.cells [ic Ak.2.L,I Ak.2.at_])]) (fun _=>J) (fun _=>J) (fun _=>J) J J J ?_ ?_
      ·exact aV J (dO JV) cR (.cons .p0 .nil) J J<|ah.nil ⟨_,J,J⟩
      refine AT.am 2 J J<|AM.qv (br J) J<|AM.qv (bg J J) J<|AM.nil<|AT.vF (Ti:=[(pY,gw nu)]) (Pi:=[(pY,gw (nu.set v37.1.toNat (⟨v39.1,aD.No,aD.aO,aD.At,aD.Kind,aD.Device,aD.Model,aD.aK,aD.az,aD.Key,aD.Name,aD.Value,aD.aW,aD.ak⟩:ab)))]) (fun _=>J) (fun _=>J) (fun _=>J) J J ?_ ?_
      ·exact bA (g:=ab.av) (vb:=(⟨v39.1,aD.No,aD.aO,aD.At,aD.Kind,aD.Device,aD.Model,aD.aK,aD.az,aD.Key,aD.Name,aD.Value,aD.aW,aD.ak⟩:ab)) J J J J Be J .p0 J<|ah.nil ⟨_,J⟩
      refine AT.am 2 J J<|AM.qv (br J) J<|AM.qv (bg J J) J<|AM.nil<|AT.vF (Ti:=[(pY,gw (nu.set v37.1.toNat (⟨v39.1,aD.No,aD.aO,aD.At,aD.Kind,aD.Device,aD.Model,aD.aK,aD.az,aD.Key,aD.Name,aD.Value,aD.aW,aD.ak⟩:ab)))]) (Pi:=[(pY,gw ((nu.set v37.1.toNat (⟨v39.1,aD.No,aD.aO,aD.At,aD.Kind,aD.Device,aD.Model,aD.aK,aD.az,aD.Key,aD.Name,aD.Value,aD.aW,aD.ak⟩:ab)).set v37.1.toNat (⟨v39.1,v40.1,aD.aO,aD.At,aD.Kind,aD.Device,aD.Model,aD.aK,aD.az,aD.Key,aD.Name,aD.Value,aD.aW,aD.ak⟩:ab)))]) (fun _=>J) (fun _=>J) (fun _=>J) J J ?_ ?_
      ·exact bA (g:=ab.av) (vb:=(⟨v39.1,v40.1,aD.aO,aD.At,aD.Kind,aD.Device,aD.Model,aD.aK,aD.az,aD.Key,aD.Name,aD.Value,aD.aW,aD.ak⟩:ab)) J J J J (fR (v:=(⟨v39.1,aD.No,aD.aO,aD.At,aD.Kind,aD.Device,aD.Model,aD.aK,aD.az,aD.Key,aD.Name,aD.Value,aD.aW,aD.ak⟩:ab)) Be) J .p0 J<|ah.nil ⟨_,J⟩
      refine AT.am 2 J J<|AM.qv (br J) J<|AM.qv (bg J J) J<|AM.nil<|AT.vF (Ti:=[(pY,gw ((nu.set v37.1.toNat (⟨v39.1,aD.No,aD.aO,aD.At,aD.Kind,aD.Device,aD.Model,aD.aK,aD.az,aD.Key,aD.Name,aD.Value,aD.aW,aD.ak⟩:ab)).set v37.1.toNat (⟨v39.1,v40.1,aD.aO,aD.At,aD.Kind,aD.Device,aD.Model,aD.aK,aD.az,aD.Key,aD.Name,aD.Value,aD.aW,aD.ak⟩:ab)))]) (Pi:=[(pY,gw (((nu.set v37.1.toNat (⟨v39.1,aD.No,aD.aO,aD.At,aD.Kind,aD.Device,aD.Model,aD.aK,aD.az,aD.Key,aD.Name,aD.Value,aD.aW,aD.ak⟩:ab)).set v37.1.toNat (⟨v39.1,v40.1,aD.aO,aD.At,aD.Kind,aD.Device,aD.Model,aD.aK,aD.az,aD.Key,aD.Name,aD.Value,aD.aW,aD.ak⟩:ab)).set v37.1.toNat (⟨v39.1,v40.1,v41.1,aD.At,aD.Kind,aD.Device,aD.Model,aD.aK,aD.az,aD.Key,aD.Name,aD.Value,aD.aW,aD.ak⟩:ab)))]) (fun _=>J) (fun _=>J) (fun _=>J) J J ?_ ?_
      ·exact bA (g:=ab.av) (vb:=(⟨v39.1,v40.1,v41.1,aD.At,aD.Kind,aD.Device,aD.Model,aD.aK,aD.az,aD.Key,aD.Name,aD.Value,aD.aW,aD.ak⟩:ab)) J J J J (fR (v:=(⟨v39.1,v40.1,aD.aO,aD.At,aD.Kind,aD.Device,aD.Model,aD.aK,aD.az,aD.Key,aD.Name,aD.Value,aD.aW,aD.ak⟩:ab)) (fR (v:=(⟨v39.1,aD.No,aD.aO,aD.At,aD.Kind,aD.Device,aD.Model,aD.aK,aD.az,aD.Key,aD.Name,aD.Value,aD.aW,aD.ak⟩:ab)) Be)) J .p0 J<|ah.nil ⟨_,J⟩
      exact AT.ra (fun _=>J) fun β=>ah.ghost<|aj.eqs (s:=5) (dt:=.sl 16 pY 0 (((nu.set v37.1.toNat (⟨v39.1,aD.No,aD.aO,aD.At,aD.Kind,aD.Device,aD.Model,aD.aK,aD.az,aD.Key,aD.Name,aD.Value,aD.aW,aD.ak⟩:ab)).set v37.1.toNat (⟨v39.1,v40.1,aD.aO,aD.At,aD.Kind,aD.Device,aD.Model,aD.aK,aD.az,aD.Key,aD.Name,aD.Value,aD.aW,aD.ak⟩:ab)).set v37.1.toNat (⟨v39.1,v40.1,v41.1,aD.At,aD.Kind,aD.Device,aD.Model,aD.aK,aD.az,aD.Key,aD.Name,aD.Value,aD.aW,aD.ak⟩:ab)).length) J (by simp)<|aj.here<|ah.ghost<|aj.eqs (s:=64) (dt:=.sl 16 pY 0 (((nu.set v37.1.toNat (⟨v39.1,aD.No,aD.aO,aD.At,aD.Kind,aD.Device,aD.Model,aD.aK,aD.az,aD.Key,aD.Name,aD.Value,aD.aW,aD.ak⟩:ab)).set v37.1.toNat (⟨v39.1,v40.1,aD.aO,aD.At,aD.Kind,aD.Device,aD.Model,aD.aK,aD.az,aD.Key,aD.Name,aD.Value,aD.aW,aD.ak⟩:ab)).set v37.1.toNat (⟨v39.1,v40.1,v41.1,aD.At,aD.Kind,aD.Device,aD.Model,aD.aK,aD.az,aD.Key,aD.Name,aD.Value,aD.aW,aD.ak⟩:ab)).length) J (by simp)<|aj.here<|ah.ghost<|aj.eqs (s:=66) (dt:=.sl 16 pY 0 (((nu.set v37.1.toNat (⟨v39.1,aD.No,aD.aO,aD.At,aD.Kind,aD.Device,aD.Model,aD.aK,aD.az,aD.Key,aD.Name,aD.Value,aD.aW,aD.ak⟩:ab)).set v37.1.toNat (⟨v39.1,v40.1,aD.aO,aD.At,aD.Kind,aD.Device,aD.Model,aD.aK,aD.az,aD.Key,aD.Name,aD.Value,aD.aW,aD.ak⟩:ab)).set v37.1.toNat (⟨v39.1,v40.1,v41.1,aD.At,aD.Kind,aD.Device,aD.Model,aD.aK,aD.az,aD.Key,aD.Name,aD.Value,aD.aW,aD.ak⟩:ab)).length) J (by simp)<|aj.here<|ah.qv (br J) J<|ah.qv (bg J J) J<|bA (g:=ab.av) (vb:=(⟨v39.1,v40.1,v41.1,Ak.1,aD.Kind,aD.Device,aD.Model,aD.aK,aD.az,aD.Key,aD.Name,aD.Value,aD.aW,aD.ak⟩:ab)) J J J J (fR (v:=(⟨v39.1,v40.1,v41.1,aD.At,aD.Kind,aD.Device,aD.Model,aD.aK,aD.az,aD.Key,aD.Name,aD.Value,aD.aW,aD.ak⟩:ab)) (fR (v:=(⟨v39.1,v40.1,aD.aO,aD.At,aD.Kind,aD.Device,aD.Model,aD.aK,aD.az,aD.Key,aD.Name,aD.Value,aD.aW,aD.ak⟩:ab)) (fR (v:=(⟨v39.1,aD.No,aD.aO,aD.At,aD.Kind,aD.Device,aD.Model,aD.aK,aD.az,aD.Key,aD.Name,aD.Value,aD.aW,aD.ak⟩:ab)) Be))) J .p1 J<|ah.ghost<|aj.eqs (s:=5) (dt:=.sl 16 pY 0 ((((nu.set v37.1.toNat (⟨v39.1,aD.No,aD.aO,aD.At,aD.Kind,aD.Device,aD.Model,aD.aK,aD.az,aD.Key,aD.Name,aD.Value,aD.aW,aD.ak⟩:ab)).set v37.1.toNat (⟨v39.1,v40.1,aD.aO,aD.At,aD.Kind,aD.Device,aD.Model,aD.aK,aD.az,aD.Key,aD.Name,aD.Value,aD.aW,aD.ak⟩:ab)).set v37.1.toNat (⟨v39.1,v40.1,v41.1,aD.At,aD.Kind,aD.Device,aD.Model,aD.aK,aD.az,aD.Key,aD.Name,aD.Value,aD.aW,aD.ak⟩:ab)).set v37.1.toNat (⟨v39.1,v40.1,v41.1,Ak.1,aD.Kind,aD.Device,aD.Model,aD.aK,aD.az,aD.Key,aD.Name,aD.Value,aD.aW,aD.ak⟩:ab)).length) J (by rw [List.length_set])<|aj.here<|ah.ghost<|aj.eqs (s:=64) (dt:=.sl 16 pY 0 ((((nu.set v37.1.toNat (⟨v39.1,aD.No,aD.aO,aD.At,aD.Kind,aD.Device,aD.Model,aD.aK,aD.az,aD.Key,aD.Name,aD.Value,aD.aW,aD.ak⟩:ab)).set v37.1.toNat (⟨v39.1,v40.1,aD.aO,aD.At,aD.Kind,aD.Device,aD.Model,aD.aK,aD.az,aD.Key,aD.Name,aD.Value,aD.aW,aD.ak⟩:ab)).set v37.1.toNat (⟨v39.1,v40.1,v41.1,aD.At,aD.Kind,aD.Device,aD.Model,aD.aK,aD.az,aD.Key,aD.Name,aD.Value,aD.aW,aD.ak⟩:ab)).set v37.1.toNat (⟨v39.1,v40.1,v41.1,Ak.1,aD.Kind,aD.Device,aD.Model,aD.aK,aD.az,aD.Key,aD.Name,aD.Value,aD.aW,aD.ak⟩:ab)).length) J (by rw [List.length_set])<|aj.here<|ah.ghost<|aj.eqs (s:=66) (dt:=.sl 16 pY 0 ((((nu.set v37.1.toNat (⟨v39.1,aD.No,aD.aO,aD.At,aD.Kind,aD.Device,aD.Model,aD.aK,aD.az,aD.Key,aD.Name,aD.Value,aD.aW,aD.ak⟩:ab)).set v37.1.toNat (⟨v39.1,v40.1,aD.aO,aD.At,aD.Kind,aD.Device,aD.Model,aD.aK,aD.az,aD.Key,aD.Name,aD.Value,aD.aW,aD.ak⟩:ab)).set v37.1.toNat (⟨v39.1,v40.1,v41.1,aD.At,aD.Kind,aD.Device,aD.Model,aD.aK,aD.az,aD.Key,aD.Name,aD.Value,aD.aW,aD.ak⟩:ab)).set v37.1.toNat (⟨v39.1,v40.1,v41.1,Ak.1,aD.Kind,aD.Device,aD.Model,aD.aK,aD.az,aD.Key,aD.Name,aD.Value,aD.aW,aD.ak⟩:ab)).length) J (by rw [List.length_set])<|aj.here<|rN<|aa.stop<|aj.lq [0,0] ⟨Ak.2.L,Ak.2.at_,(((nu.set v37.1.toNat (⟨v39.1,aD.No,aD.aO,aD.At,aD.Kind,aD.Device,aD.Model,aD.aK,aD.az,aD.Key,aD.Name,aD.Value,aD.aW,aD.ak⟩:ab)).set v37.1.toNat (⟨v39.1,v40.1,aD.aO,aD.At,aD.Kind,aD.Device,aD.Model,aD.aK,aD.az,aD.Key,aD.Name,aD.Value,aD.aW,aD.ak⟩:ab)).set v37.1.toNat (⟨v39.1,v40.1,v41.1,aD.At,aD.Kind,aD.Device,aD.Model,aD.aK,aD.az,aD.Key,aD.Name,aD.Value,aD.aW,aD.ak⟩:ab)).set v37.1.toNat (⟨v39.1,v40.1,v41.1,Ak.1,aD.Kind,aD.Device,aD.Model,aD.aK,aD.az,aD.Key,aD.Name,aD.Value,aD.aW,aD.ak⟩:ab),h,J⟩ J J
     ·exact tK<|aa.stop<|aj.lq [0,0] ⟨JS,n31,nu,h,J⟩ J J
    ·rintro aI ⟨Dy,n35,ER,h,rfl⟩
     unfold jv at h
     refine aE<|rM J J<|rA J J<|rN<|aa.ret<|?_
     cases h
     exact hH J [0,0] J ⟨pY,J,J⟩
theorem nV [GI:bz] {ae:ax} {r:Bool} (h:l0 ae=some r):Pu Tryz.prog 58 [.str ae] (.bool r):=by
 unfold l0 at h
 refine aH.bj Tryz.func58 J Tryz.ntmps58 Tryz.results58 J J ?_
 refine aE<|rA J J<|rN<|tS<|tS<|aa.cut (fun aI=>∃ (c1:Bool),kV ae c1=some r∧aI=⟨54,[(0,.str ae),(21,.bool c1)],[]⟩) ?_ ?_
 ·refine tR<|rM J J<|ah.qv (iI J J) J<|rM J J<|gF h J J J (fun h=>?_) (fun h=>?_)
  ·refine rM J J<|rY J J J<|ah.qv (dc J) J<|rY J J J<|ah.qv (gx J J) J<|rE J J J<|rM J J<|gF h J J J (fun h=>?_) (fun h=>?_)
   ·refine rM J J<|rY J J J<|aG h fun c2 e1 h=>ah.qv (jK J J e1) J<|rY J J J<|ah.qv (ca J J) J<|rE J J J<|rM J J<|gF h J J J (fun h=>?_) (fun h=>?_)
    ·exact rM J J<|rY J J J<|aG h fun c3 e2 h=>ah.qv (jK J J e2) J<|rY J J J<|ah.qv (gx J J) J<|rE J J J<|rN<|aa.stop<|aj.lq [] ⟨decide ((122:Int) < (c3.toNat:Int)),h,J⟩ J J
    ·exact rG J J J J<|rG J J J J<|rT J J J<|rN<|aa.stop<|aj.lq [] ⟨true,h,J⟩ J J
   ·exact rG J J J J<|rG J J J J<|rT J J J<|rM J J<|rG J J J J<|rG J J J J<|rG J J J J<|rT J J J<|rN<|aa.stop<|aj.lq [] ⟨true,h,J⟩ J J
  ·exact rG J J J J<|rG J J J J<|rT J J J<|rM J J<|rG J J J J<|rG J J J J<|rG J J J J<|rT J J J<|rM J J<|rG J J J J<|rG J J J J<|rG J J J J<|rT J J J<|rN<|aa.stop<|aj.lq [] ⟨true,h,J⟩ J J
 ·rintro aI ⟨c1,h,rfl⟩
  unfold kV at h
  refine cB h J (fun h=>?_) (fun h=>?_)
  ·refine aE<|rA J J<|rN<|aa.ret<|?_
   cases h
   exact hP J J
  ·refine tK<|tS<|aE<|rM J J<|ah.qv (dc J) J<|rM J J<|rN<|aa.block<|aa.eU (fun x:Int=>kU ae x) (fun x aI=>aI=⟨54,[(0,.str ae),(23,I (ae.length:Int)),(24,I x)],[]⟩) h ?_ ?_
   ·exact aj.lq [] J J J
   ·intro n5 z1 aI J1 iQ h lK fS
    obtain rfl:=iQ
    replace h:kU ae n5=some z1:=h
    unfold kU at h
    refine aE<|ah.qv (ca J J) J<|rN<|tS<|cD h J (fun h=>?_) (fun h=>?_)
    ·refine tK<|tS<|aa.block<|aE<|rM J J<|rA J J<|rN<|aE<|rM J J<|rM J J<|aG h fun c6 e3 h=>ah.qv (jK J J e3) J<|rA J J<|rN<|tS<|aa.cut (fun aI=>∃ (c7:Bool),qo n5 c7=some z1∧aI=⟨54,[(0,.str ae),(23,I (ae.length:Int)),(24,I n5),(52,.bool c7)],[]⟩) ?_ ?_
     ·refine tR<|rM J J<|ah.qv (oU J J) J<|rM J J<|ah.cJ J J J (fun hc=>?_) (fun hc=>?_)
      ·rw [if_pos hc] at h
       refine rM J J<|rY J J J<|ah.qv (uE J J) J<|rT J J J<|rM J J<|ah.fH J J J (fun hc=>?_) (fun hc=>?_)
       ·rw [if_neg hc] at h
        refine rM J J<|rY J J J<|ah.qv (oU J J) J<|rY J J J<|rM J J<|ah.cJ J J J (fun hc=>?_) (fun hc=>?_)
        ·rw [if_pos hc] at h
         refine rM J J<|rY J J J<|ah.qv (uE J J) J<|rY J J J<|rT J J J<|rE J J J<|rM J J<|ah.fH J J J (fun hc=>?_) (fun hc=>?_)
         ·rw [if_neg hc] at h
          refine rM J J<|rY J J J<|ah.qv (bH J J) J<|rE J J J<|rM J J<|ah.fH J J J (fun hc=>?_) (fun hc=>?_)
          ·rw [if_neg hc] at h
           exact rM J J<|rY J J J<|ah.qv (bH J J) J<|rE J J J<|ah.qv (qh J) J<|rN<|aa.stop<|aj.lq [] ⟨decide (¬ ((c6.toNat:Int)=(95:Int))),h,J⟩ J J
          ·rw [if_pos hc] at h
           exact rG J J J J<|rT J J J<|ah.qv (cz J) J<|rN<|aa.stop<|aj.lq [] ⟨!true,h,J⟩ J J
         ·rw [if_pos hc] at h
          exact rG J J J J<|rT J J J<|rM J J<|rG J J J J<|rG J J J J<|rT J J J<|ah.qv (cz J) J<|rN<|aa.stop<|aj.lq [] ⟨!true,h,J⟩ J J
        ·rw [if_neg hc] at h
         refine rG J J J J<|rY J J J<|rE J J J<|rE J J J<|rM J J<|rY J J J<|rM J J<|rY J J J<|ah.qv (bH J J) J<|rE J J J<|rM J J<|ah.fH J J J (fun hc=>?_) (fun hc=>?_)
         ·rw [if_neg hc] at h
          exact rM J J<|rY J J J<|ah.qv (bH J J) J<|rE J J J<|ah.qv (qh J) J<|rN<|aa.stop<|aj.lq [] ⟨decide (¬ ((c6.toNat:Int)=(95:Int))),h,J⟩ J J
         ·rw [if_pos hc] at h
          exact rG J J J J<|rT J J J<|ah.qv (cz J) J<|rN<|aa.stop<|aj.lq [] ⟨!true,h,J⟩ J J
       ·rw [if_pos hc] at h
        exact rG J J J J<|rG J J J J<|ah.ep J J J<|ah.ep J J J<|rG J J J J<|rT J J J<|rM J J<|rG J J J J<|rG J J J J<|rT J J J<|rM J J<|rG J J J J<|rG J J J J<|rT J J J<|ah.qv (cz J) J<|rN<|aa.stop<|aj.lq [] ⟨!true,h,J⟩ J J
      ·rw [if_neg hc] at h
       refine rG J J J J<|rE J J J<|rM J J<|rY J J J<|rM J J<|rY J J J<|ah.qv (oU J J) J<|rY J J J<|rM J J<|ah.cJ J J J (fun hc=>?_) (fun hc=>?_)
       ·rw [if_pos hc] at h
        refine rM J J<|rY J J J<|ah.qv (uE J J) J<|rY J J J<|rT J J J<|rE J J J<|rM J J<|ah.fH J J J (fun hc=>?_) (fun hc=>?_)
        ·rw [if_neg hc] at h
         refine rM J J<|rY J J J<|ah.qv (bH J J) J<|rE J J J<|rM J J<|ah.fH J J J (fun hc=>?_) (fun hc=>?_)
         ·rw [if_neg hc] at h
          exact rM J J<|rY J J J<|ah.qv (bH J J) J<|rE J J J<|ah.qv (qh J) J<|rN<|aa.stop<|aj.lq [] ⟨decide (¬ ((c6.toNat:Int)=(95:Int))),h,J⟩ J J
         ·rw [if_pos hc] at h
          exact rG J J J J<|rT J J J<|ah.qv (cz J) J<|rN<|aa.stop<|aj.lq [] ⟨!true,h,J⟩ J J
        ·rw [if_pos hc] at h
         exact rG J J J J<|rT J J J<|rM J J<|rG J J J J<|rG J J J J<|rT J J J<|ah.qv (cz J) J<|rN<|aa.stop<|aj.lq [] ⟨!true,h,J⟩ J J
       ·rw [if_neg hc] at h
        refine rG J J J J<|rY J J J<|rE J J J<|rE J J J<|rM J J<|rY J J J<|rM J J<|rY J J J<|ah.qv (bH J J) J<|rE J J J<|rM J J<|ah.fH J J J (fun hc=>?_) (fun hc=>?_)
        ·rw [if_neg hc] at h
         exact rM J J<|rY J J J<|ah.qv (bH J J) J<|rE J J J<|ah.qv (qh J) J<|rN<|aa.stop<|aj.lq [] ⟨decide (¬ ((c6.toNat:Int)=(95:Int))),h,J⟩ J J
        ·rw [if_pos hc] at h
         exact rG J J J J<|rT J J J<|ah.qv (cz J) J<|rN<|aa.stop<|aj.lq [] ⟨!true,h,J⟩ J J
     ·rintro aI ⟨c7,h,rfl⟩
      unfold qo at h
      refine cB h J (fun h=>?_) (fun h=>?_)
      ·refine aE<|rA J J<|rN<|aa.ret<|have h:=cy h fS;?_
       cases h
       exact hP J J
      ·refine tK<|aa.cr<|tR<|ah.qv (bh J J) J<|rM J J<|rN<|aa.stop<|?_
       cases h
       exact lK _ _ J<|aj.lq [] J J J
    ·refine aa.exit J<|have h:=cy h fS;aE<|rA J J<|rN<|aa.ret<|?_
     cases h
     exact hP J J
theorem fp [GI:bz] {ae:Int} {ai:Int} {ao:Int} {r:Bool} (h:eC ae ai ao=r):Pu Tryz.prog 78 [I ae,I ai,I ao] (.bool r):=by
 unfold eC at h
 refine aH.bj Tryz.func78 J Tryz.ntmps78 Tryz.results78 J J ?_
 refine aE<|rA J J<|rN<|tS<|aa.cut (fun aI=>∃ (c1:Bool),tq c1=r∧aI=⟨15,[(6,.bool c1)],[]⟩) ?_ ?_
 ·refine tR<|rM J J<|rM J J<|ah.qv (ca J J) J<|rM J J<|ah.fH J J J (fun hc=>?_) (fun hc=>?_)
  ·rw [BK hc] at h
   exact rM J J<|rY J J J<|rM J J<|rY J J J<|ah.qv (gx J J) J<|rE J J J<|rA J J<|rN<|aa.stop<|aj.lq [] ⟨decide (ao < ae),h,J⟩ J J
  ·rw [BJ hc] at h
   exact rG J J J J<|rG J J J J<|rT J J J<|rA J J<|rN<|aa.stop<|aj.lq [] ⟨true,h,J⟩ J J
 ·rintro aI ⟨c1,h,rfl⟩
  unfold tq at h
  refine aa.ret<|?_
  obtain rfl:=h
  exact hP J J
theorem vZ {ae:ax} {r:Bool} (h:ko ae=some r):Pu Tryz.prog 124 [.str ae] (.bool r):=by
 unfold ko at h
 refine aH.bj Tryz.func124 J Tryz.ntmps124 Tryz.results124 J J ?_
 refine aE<|rA J J<|rN<|tS<|aa.cut (fun aI=>∃ (c1:Bool),iC c1=some r∧aI=⟨12,[(2,.bool c1)],[]⟩) ?_ ?_
 ·refine tR<|rM J J<|ah.qv (dc J) J<|aM J (fp J) cR J<|ah.qv (cz J) J<|rM J J<|ah.guard J J J (fun hc=>?_) (fun hc=>?_)
  ·exact have h:=nv hc h;rM J J<|rY J J J<|aG h fun v2 e1 h=>aM J (ju e1) cR J<|rY J J J<|ah.qv (iI J J) J<|rT J J J<|rA J J<|rN<|aa.stop<|aj.lq [] ⟨decide (v2=([]:ax)),h,J⟩ J J
  ·exact have h:=ql hc h;rG J J J J<|rG J J J J<|rE J J J<|rA J J<|rN<|aa.stop<|aj.lq [] ⟨false,h,J⟩ J J
 ·rintro aI ⟨c1,h,rfl⟩
  unfold iC at h
  refine aa.ret<|?_
  cases h
  exact hP J J
theorem rC [GI:bz] {ae:Model} {ai:Model} {r:Bool} (h:iG ae ai=r):Pu Tryz.prog 125 [Model.av ae,.mO [.str ai.Key,.str ai.Prefix,zZ ai.ba]] (.bool r):=by
 unfold iG at h
 refine aH.bj Tryz.func125 J Tryz.ntmps125 Tryz.results125 J J ?_
 refine aE<|fe J J J J fun b1=>rA J J<|rN<|aE<|rF J J J<|rL J J .p0 J J<|ah.qv (eE J J) J<|ah.qv (bV J J J) J<|ah.qv (iI J J) J<|rA J J<|rN<|aa.ret<|?_
 obtain rfl:=h
 exact hP J J
theorem fP [GI:bz] {ae:List Model} {iF:Model→Option Bool} {dZ:FuncId} [bf Tryz.prog dZ] {fZ:List AV} (mK:∀ {y0:_} {u:Bool},iF y0=some u→Pu Tryz.prog dZ (Model.av y0 :: fZ) (.bool u)) {r:Int} (h:bL ae iF=some r):Pu Tryz.prog 99 [pa ae,.func (.func dZ) fZ] (I r):=by
 unfold bL at h
 refine aH.bj Tryz.func99 J Tryz.ntmps99 Tryz.results99 J J ?_
 refine aE<|rA J J<|rN<|tS<|aE<|rM J J<|ah.qv (ff J) J<|rM J J<|rN<|aa.block<|aa.eU (fun x:Int=>dG ae iF x) (fun x aI=>aI=⟨19,[(0,pa ae),(1,.func (.func dZ) fZ),(7,I (ae.length:Int)),(8,I x)],[]⟩) h ?_ ?_
 ·exact aj.lq [] J J J
 ·intro n2 z1 aI J1 iQ h lK fS
  obtain rfl:=iQ
  replace h:dG ae iF n2=some z1:=h
  unfold dG at h
  refine aE<|ah.qv (ca J J) J<|rN<|tS<|cD h J (fun h=>?_) (fun h=>?_)
  ·refine tK<|tS<|aa.block<|aE<|rM J J<|rA J J<|rN<|aE<|rM J J<|rM J J<|rM J J<|aG h fun v3 e1 h=>ah.qv (cu J J J e1 J J) J<|ah.qv (bt J J J) J<|aG h fun v4 e2 h=>pv J J (mK e2) cR J<|rN<|cB h J (fun h=>?_) (fun h=>?_)
   ·refine aE<|rM J J<|rA J J<|rN<|aa.ret<|have h:=cy h fS;?_
    cases h
    exact hP J J
   ·refine tK<|aa.cr<|tR<|ah.qv (bh J J) J<|rM J J<|rN<|aa.stop<|?_
    cases h
    exact lK _ _ J<|aj.lq [] J J J
  ·refine aa.exit J<|have h:=cy h fS;aE<|rA J J<|rN<|aa.ret<|?_
   cases h
   exact hP J J
theorem iK [GI:bz] {ae:List Model} {iF:Model→Option Bool} {dZ:FuncId} [bf Tryz.prog dZ] {fZ:List AV} (mK:∀ {y0:_} {u:Bool},iF y0=some u→Pu Tryz.prog dZ (Model.av y0 :: fZ) (.bool u)) {r:Bool} (h:cA ae iF=some r):Pu Tryz.prog 51 [pa ae,.func (.func dZ) fZ] (.bool r):=by
 unfold cA at h
 refine aH.bj Tryz.func51 J Tryz.ntmps51 Tryz.results51 J J ?_
 refine aE<|rA J J<|rN<|aE<|rM J J<|rM J J<|aG h fun v1 e1 h=>gy J (fP mK e1) (.cons (.co (.refl _)) (.cons (.co (.refl _)) .nil)) J J<|ah.qv (oU J J) J<|rA J J<|rN<|aa.ret<|?_
 cases h
 exact hP J J
theorem Al {ae:ax} {ai:Int} {r:Bool} (h:qp ae ai=some r):Pu Tryz.prog 207 [.str ae,I ai] (.bool r):=by
 unfold qp at h
 refine aH.bj Tryz.func207 J Tryz.ntmps207 Tryz.results207 J J ?_
 refine aE<|rA J J<|rN<|tS<|aE<|rA J J<|rN<|aa.block<|aa.eU (fun x:ax×Int=>fW ai x.1 x.2) (fun x aI=>aI=⟨26,[(0,.str x.1),(1,I ai),(5,I x.2)],[]⟩) h ?_ ?_
 ·exact aj.lq [] J J J
 ·intro x z1 aI J1 iQ h lK fS
  obtain ⟨q3,n4⟩:=x
  obtain rfl:=iQ
  replace h:fW ai q3 n4=some z1:=h
  unfold fW at h
  refine tS<|aE<|rM J J<|rM J J<|ah.qv (ca J J) J<|rN<|cD h J (fun h=>?_) (fun h=>?_)
  ·refine tK<|tS<|aa.block<|aE<|rM J J<|aG h fun v5 e1 h=>aM J (Ah e1) cR J<|rM J J<|rX J J J<|rX J J J<|rX J J J<|rA J J<|rA J J<|rA J J<|rN<|tS<|aE<|rM J J<|aG h fun v6 e2 h=>aM J (nV e2) cR J<|ah.qv (cz J) J<|rN<|cB h J (fun h=>?_) (fun h=>?_)
   ·refine aE<|rA J J<|rN<|aa.ret<|have h:=cy h fS;?_
    cases h
    exact hP J J
   ·refine tK<|tS<|aE<|rM J J<|ah.qv (cz J) J<|rN<|cB h J (fun h=>?_) (fun h=>?_)
    ·refine aE<|rA J J<|rN<|aa.ret<|have h:=cy h fS;?_
     cases h
     exact hP J J
    ·refine tK<|tR<|rM J J<|rA J J<|rN<|aa.cr<|tR<|rM J J<|ah.qv (bh J J) J<|rA J J<|rN<|aa.stop<|?_
     cases h
     exact lK _ _ J<|aj.lq [] J J J
  ·refine aa.exit J<|have h:=cy h fS;aE<|rA J J<|rN<|aa.ret<|?_
   cases h
   exact hP J J
theorem x7 {ae:ax} {r:Bool} (h:l6 ae=some r):Pu Tryz.prog 178 [.str ae] (.bool r):=by
 unfold l6 at h
 refine aH.bj Tryz.func178 J Tryz.ntmps178 Tryz.results178 J J ?_
 refine aE<|rA J J<|rN<|tS<|aa.cut (fun aI=>∃ (c1:Bool),jx c1=some r∧aI=⟨10,[(2,.bool c1)],[]⟩) ?_ ?_
 ·refine tR<|rM J J<|ah.qv (dc J) J<|ah.qv (uE J J) J<|rM J J<|gT h J J J (fun h=>?_) (fun h=>?_)
  ·exact rM J J<|rY J J J<|aG h fun v2 e1 h=>aM J (Al e1) cR J<|rT J J J<|rA J J<|rN<|aa.stop<|aj.lq [] ⟨v2,h,J⟩ J J
  ·exact rG J J J J<|rE J J J<|rA J J<|rN<|aa.stop<|aj.lq [] ⟨false,h,J⟩ J J
 ·rintro aI ⟨c1,h,rfl⟩
  unfold jx at h
  refine aa.ret<|?_
  cases h
  exact hP J J
theorem uy {ae:List aL} {r:Int} (h:ja ae=some r):Pu Tryz.prog 126 [zZ ae] (I r):=by
 unfold ja at h
 refine aH.bj Tryz.func126 J Tryz.ntmps126 Tryz.results126 J J ?_
 refine aE<|rA J J<|rN<|tS<|aE<|rM J J<|ah.qv (ff J) J<|rM J J<|rN<|aa.block<|aa.eU (fun x:Int=>cU ae x) (fun x aI=>aI=⟨67,[(0,zZ ae),(6,zZ ae),(7,I (ae.length:Int)),(8,I x)],[]⟩) h ?_ ?_
 ·exact aj.lq [] J J J
 ·intro n2 z1 aI J1 iQ h lK fS
  obtain rfl:=iQ
  replace h:cU ae n2=some z1:=h
  unfold cU at h
  refine aE<|ah.qv (ca J J) J<|rN<|tS<|cD h J (fun h=>?_) (fun h=>?_)
  ·refine tK<|tS<|aa.block<|aE<|rM J J<|aG h fun v3 e1 h=>ah.qv (cu J J J e1 J J) J<|ah.qv (bt J J J) J<|gd J J J J fun b4=>rA J J<|aC J J J J .p0 J J<|rN<|aE<|rF J J J<|rL J J .p0 J J<|ah.qv (bH J J) J<|rA J J<|rN<|aa.block<|aE<|rF J J J<|rL J J .p0 J J<|aG h fun v5 e2 h=>aM J (x7 e2) cR J<|ah.qv (cz J) J<|rA J J<|rN<|cB h J (fun h=>?_) (fun h=>?_)
   ·refine aE<|rA J J<|rN<|aa.ret<|have h:=cy h fS;?_
    cases h
    exact hP J J
   ·refine tS<|aa.cut (fun aI=>∃ (c6:Bool),eK n2 v3 c6=some z1∧aI=⟨67,[(0,zZ ae),(4,.ptr b4 0),(5,.bool (decide (v3.Kind=(2:Int)))),(6,zZ ae),(7,I (ae.length:Int)),(8,I n2),(21,.bool c6)],[(b4,.cells (Ry v3))]⟩) ?_ ?_
    ·refine aa.bM (id:=7) (A:=[0,1,3,7,15,7,7,71,231,487,999,2047,4095,8191]) 14 mixed J (by kernel_rfl) (by kernel_rfl)<|AM.qv (ar J) J<|AM.qv (gx J J) J<|AM.qv (ar J) J<|AM.cJ J J J (fun hc=>?_) (fun hc=>?_)
     ·exact have h:=nv hc h;AM.qv (au J J) J<|AM.aA J J J<|AM.qv (aB J J .p0 J) J<|AM.aA J J J<|AM.qv (ar J) J<|AM.aA J J J<|AM.qv (ar J) J<|AM.aA J J J<|AM.qv (cE J J) J<|AM.aA J J J<|aG h fun v7 e3 h=>AM.qv (cu J J J e3 J J) J<|AM.aA J J J<|AM.qv (eE J J) J<|AM.aA J J J<|AM.qv (bV J J J) J<|AM.aA J J J<|AM.qv (BL J J) J<|AM.qv (fT J J) J<|AM.qv (bl J) J<|AM.nil<|rN<|aa.stop<|aj.lq [0] ⟨Op.bytesLess v3.Name v7.Name||v3.Name==v7.Name,h,J⟩ J J
     ·exact have h:=vz hc h;AM.aF J J J J<|AM.aF J J J J<|AM.aF J J J J<|AM.aF J J J J<|AM.aF J J J J<|AM.aF J J J J<|AM.aF J J J J<|AM.aF J J J J<|AM.qv (eI J J) J<|AM.qv (bl J) J<|AM.nil<|rN<|aa.stop<|aj.lq [0] ⟨false,h,J⟩ J J
    ·rintro aI ⟨c6,h,rfl⟩
     unfold eK at h
     refine cB h J (fun h=>?_) (fun h=>?_)
     ·refine aE<|rA J J<|rN<|aa.ret<|have h:=cy h fS;?_
      cases h
      exact hP J J
     ·refine aE<|rF J J J<|rL J J .p0 J J<|aM J (fp J) cR J<|rA J J<|rN<|cB h J (fun h=>?_) (fun h=>?_)
      ·refine aE<|rA J J<|rN<|aa.ret<|have h:=cy h fS;?_
       cases h
       exact hP J J
      ·refine tS<|aa.cut (fun aI=>∃ (c8:Bool),iZ n2 v3 c8=some z1∧aI=⟨67,[(0,zZ ae),(4,.ptr b4 0),(5,.bool (decide (v3.Kind=(2:Int)))),(6,zZ ae),(7,I (ae.length:Int)),(8,I n2),(39,.bool c8)],[(b4,.cells (Ry v3))]⟩) ?_ ?_
       ·refine tR<|rM J J<|rM J J<|ah.cJ J J J (fun hc=>?_) (fun hc=>?_)
        ·rw [qY hc] at h
         refine rF J J J<|rY J J J<|rL J J .p0 J J<|rY J J J<|rF J J J<|rY J J J<|rL J J .p0 J J<|rY J J J<|aM J (fp J) cR J<|rY J J J<|rM J J<|ah.guard J J J (fun hc=>?_) (fun hc=>?_)
         ·rw [Et hc] at h
          exact rF J J J<|rY J J J<|rL J J .p0 J J<|rY J J J<|ah.qv (gx J J) J<|rY J J J<|rE J J J<|rT J J J<|rA J J<|rN<|aa.stop<|aj.lq [0] ⟨decide ((1000000000:Int) < v3.iA),h,J⟩ J J
         ·rw [Es hc] at h
          exact rG J J J J<|rG J J J J<|rY J J J<|rT J J J<|rT J J J<|rA J J<|rN<|aa.stop<|aj.lq [0] ⟨true,h,J⟩ J J
        ·rw [qZ hc] at h
         exact rG J J J J<|rG J J J J<|rG J J J J<|rG J J J J<|rG J J J J<|ah.ep J J J<|ah.ep J J J<|ah.ep J J J<|rG J J J J<|rE J J J<|rA J J<|rN<|aa.stop<|aj.lq [0] ⟨false,h,J⟩ J J
       ·rintro aI ⟨c8,h,rfl⟩
        unfold iZ at h
        refine cB h J (fun h=>?_) (fun h=>?_)
        ·refine aE<|rA J J<|rN<|aa.ret<|have h:=cy h fS;?_
         cases h
         exact hP J J
        ·refine tS<|aa.cut (fun aI=>∃ (c9:Bool),iY n2 c9=some z1∧aI=⟨67,[(0,zZ ae),(6,zZ ae),(7,I (ae.length:Int)),(8,I n2),(53,.bool c9)],[]⟩) ?_ ?_
         ·refine tR<|rM J J<|ah.qv (qh J) J<|rM J J<|ah.cJ J J J (fun hc=>?_) (fun hc=>?_)
          ·rw [qY hc] at h
           refine rF J J J<|rY J J J<|rL J J .p0 J J<|rY J J J<|ah.qv (eT J J) J<|rY J J J<|rM J J<|ah.fH J J J (fun hc=>?_) (fun hc=>?_)
           ·rw [BK hc] at h
            exact rF J J J<|rY J J J<|rL J J .p0 J J<|rY J J J<|ah.qv (eT J J) J<|rY J J J<|rE J J J<|rT J J J<|rA J J<|rN<|aa.stop<|aj.lq [] ⟨decide (v3.iA≠(0:Int)),h,J⟩ J J
           ·rw [BJ hc] at h
            exact rG J J J J<|rG J J J J<|rY J J J<|rT J J J<|rT J J J<|rA J J<|rN<|aa.stop<|aj.lq [] ⟨true,h,J⟩ J J
          ·rw [qZ hc] at h
           exact rG J J J J<|rG J J J J<|rG J J J J<|ah.ep J J J<|ah.ep J J J<|ah.ep J J J<|rG J J J J<|rE J J J<|rA J J<|rN<|aa.stop<|aj.lq [] ⟨false,h,J⟩ J J
         ·rintro aI ⟨c9,h,rfl⟩
          unfold iY at h
          refine cB h J (fun h=>?_) (fun h=>?_)
          ·refine aE<|rA J J<|rN<|aa.ret<|have h:=cy h fS;?_
           cases h
           exact hP J J
          ·refine tK<|aa.cr<|aa.cr<|tR<|ah.qv (bh J J) J<|rM J J<|rN<|aa.stop<|?_
           cases h
           exact lK _ _ J<|aj.lq [] J J J
  ·refine aa.exit J<|have h:=cy h fS;aE<|rA J J<|rN<|aa.ret<|?_
   cases h
   exact hP J J
theorem oI {ae:List Model} {r:Int} (h:fK ae=some r):Pu Tryz.prog 76 [pa ae] (I r):=by
 unfold fK at h
 refine aH.bj Tryz.func76 J Tryz.ntmps76 Tryz.results76 J J ?_
 refine aE<|rA J J<|rN<|tS<|aE<|rM J J<|ah.qv (ff J) J<|ah.qv (gx J J) J<|rN<|cD h J (fun h=>?_) (fun h=>?_)
 ·refine aE<|rA J J<|rN<|aa.ret<|?_
  cases h
  exact hP J J
 ·refine tK<|tS<|aE<|rM J J<|ah.qv (ff J) J<|rM J J<|rN<|aa.block<|aa.eU (fun x:Int=>cF ae x) (fun x aI=>aI=⟨58,[(0,pa ae),(9,pa ae),(10,I (ae.length:Int)),(11,I x)],[]⟩) h ?_ ?_
  ·exact aj.lq [] J J J
  ·intro n2 z1 aI J1 iQ h lK fS
   obtain rfl:=iQ
   replace h:cF ae n2=some z1:=h
   unfold cF at h
   refine aE<|ah.qv (ca J J) J<|rN<|tS<|cD h J (fun h=>?_) (fun h=>?_)
   ·refine tK<|tS<|aa.block<|aE<|rM J J<|aG h fun v3 e1 h=>ah.qv (cu J J J e1 J J) J<|ah.qv (bt J J J) J<|gd J J J J fun b4=>rA J J<|aC J J J J .p0 J J<|rN<|tS<|aa.block<|aE<|rF J J J<|rL J J .p0 J J<|aG h fun v5 e2 h=>aM J (nV e2) cR J<|ah.qv (cz J) J<|rA J J<|rN<|cB h J (fun h=>?_) (fun h=>?_)
    ·refine aE<|rA J J<|rN<|aa.ret<|have h:=cy h fS;?_
     cases h
     exact hP J J
    ·refine tS<|aa.cut (fun aI=>∃ (c6:Bool),er ae n2 v3 c6=some z1∧aI=⟨58,[(0,pa ae),(3,I n2),(4,.ptr b4 0),(9,pa ae),(10,I (ae.length:Int)),(11,I n2),(21,.bool c6)],[(b4,.cells [.str v3.Key,.str v3.Prefix,zZ v3.ba])]⟩) ?_ ?_
     ·refine aa.bM (id:=8) (A:=[0,1,3,7,15,7,7,71,231,487,999,2047,4095,8191]) 14 mixed J (by kernel_rfl) (by kernel_rfl)<|AM.qv (ar J) J<|AM.qv (gx J J) J<|AM.qv (ar J) J<|AM.cJ J J J (fun hc=>?_) (fun hc=>?_)
      ·exact have h:=nv hc h;AM.qv (au J J) J<|AM.aA J J J<|AM.qv (aB J J .p0 J) J<|AM.aA J J J<|AM.qv (ar J) J<|AM.aA J J J<|AM.qv (ar J) J<|AM.aA J J J<|AM.qv (cE J J) J<|AM.aA J J J<|aG h fun v7 e3 h=>AM.qv (cu J J J e3 J J) J<|AM.aA J J J<|AM.qv (eE J J) J<|AM.aA J J J<|AM.qv (bV J J J) J<|AM.aA J J J<|AM.qv (BL J J) J<|AM.qv (fT J J) J<|AM.qv (bl J) J<|AM.nil<|rN<|aa.stop<|aj.lq [0] ⟨Op.bytesLess v3.Key v7.Key||v3.Key==v7.Key,h,J⟩ J J
      ·exact have h:=vz hc h;AM.aF J J J J<|AM.aF J J J J<|AM.aF J J J J<|AM.aF J J J J<|AM.aF J J J J<|AM.aF J J J J<|AM.aF J J J J<|AM.aF J J J J<|AM.qv (eI J J) J<|AM.qv (bl J) J<|AM.nil<|rN<|aa.stop<|aj.lq [0] ⟨false,h,J⟩ J J
     ·rintro aI ⟨c6,h,rfl⟩
      unfold er at h
      refine cB h J (fun h=>?_) (fun h=>?_)
      ·refine aE<|rA J J<|rN<|aa.ret<|have h:=cy h fS;?_
       cases h
       exact hP J J
      ·refine aE<|rF J J J<|rL J J .p0 J J<|aG h fun v8 e4 h=>aM J (vZ e4) cR J<|ah.qv (cz J) J<|rA J J<|rN<|cB h J (fun h=>?_) (fun h=>?_)
       ·refine aE<|rA J J<|rN<|aa.ret<|have h:=cy h fS;?_
        cases h
        exact hP J J
       ·refine aE<|rM J J<|rM J J<|aG h fun l9 e5 h=>ah.qv (vA J J .none (.some _ _ _ J) J J e5) J<|ah.qv (jR J) J<|aG h fun v10 e6 h=>gy J (iK (fun e=>rC (Option.some.inj e)) e6) (.cons (.co (.refl _)) (.cons (.uG _ _ _ (.cons (.CL _ _ _ .p0 (.cons (.co (.refl _)) (.cons (.co (.refl _)) (.cons (.co (.refl _)) .nil)))) .nil)) .nil)) J J<|rA J J<|rN<|cB h J (fun h=>?_) (fun h=>?_)
        ·refine aE<|rA J J<|rN<|aa.ret<|have h:=cy h fS;?_
         cases h
         exact hP J J
        ·refine aE<|rF J J J<|rL J J .p0 J J<|ah.qv (ff J) J<|ah.qv (gx J J) J<|rA J J<|rN<|cD h J (fun h=>?_) (fun h=>?_)
         ·refine aE<|rA J J<|rN<|aa.ret<|have h:=cy h fS;?_
          cases h
          exact hP J J
         ·refine tK<|aa.cr<|aE<|rF J J J<|rL J J .p0 J J<|aG h fun v11 e7 h=>aM J (uy e7) cR J<|rA J J<|rN<|aE<|rM J J<|ah.qv (eT J J) J<|rN<|cD h J (fun h=>?_) (fun h=>?_)
          ·refine aE<|rM J J<|rA J J<|rN<|aa.ret<|have h:=cy h fS;?_
           cases h
           exact hP J J
          ·refine tK<|aa.cr<|tR<|ah.qv (bh J J) J<|rM J J<|rN<|aa.stop<|?_
           cases h
           exact lK _ _ J<|aj.lq [] J J J
   ·refine aa.exit J<|have h:=cy h fS;aE<|rA J J<|rN<|aa.ret<|?_
    cases h
    exact hP J J
theorem Am [GI:bz] {ae:Int} {r:Bool} (h:mG ae=r):Pu Tryz.prog 62 [I ae] (.bool r):=by
 unfold mG at h
 refine aH.bj Tryz.func62 J Tryz.ntmps62 Tryz.results62 J J ?_
 refine aE<|rA J J<|rN<|aE<|rM J J<|aM J (fp J) cR J<|ah.qv (cz J) J<|rA J J<|rN<|aa.ret<|?_
 obtain rfl:=h
 exact hP J J
theorem wa [GI:bz] {ae:Model} {ai:ax} {r:Bool} (h:gq ae ai=r):Pu Tryz.prog 153 [Model.av ae,.mO [.str ai]] (.bool r):=by
 unfold gq at h
 refine aH.bj Tryz.func153 J Tryz.ntmps153 Tryz.results153 J J ?_
 refine aE<|fe J J J J fun b1=>rA J J<|rN<|aE<|rF J J J<|rL J J .p0 J J<|ah.qv (bV J J J) J<|ah.qv (iI J J) J<|rA J J<|rN<|aa.ret<|?_
 obtain rfl:=h
 exact hP J J
theorem tB [GI:bz] {ae:List Model} {ai:ax} {r:Int} (h:jW ae ai=some r):Pu Tryz.prog 106 [pa ae,.str ai] (I r):=by
 unfold jW at h
 refine aH.bj Tryz.func106 J Tryz.ntmps106 Tryz.results106 J J ?_
 refine aE<|fe J J J J fun b1=>rA J J<|rN<|aE<|rM J J<|ah.qv (jR J) J<|aG h fun v2 e1 h=>gy J (fP (fun e=>wa (Option.some.inj e)) e1) (.cons (.co (.refl _)) (.cons (.uG _ _ _ (.cons (.CL _ _ _ .p0 (.cons (.co (.refl _)) .nil)) .nil)) .nil)) J J<|rA J J<|rN<|aa.ret<|?_
 cases h
 exact hP J J
theorem bT [GI:bz] {Hu:Bk} {ae:Bool} {ai:Int} {ao:Int} {r:Int} (h:aR ae ai ao=r):aH Tryz.prog 128 [.bool ae,I ai,.ptr Hu 0] [(Hu,.cells [I ao])] (T0 ([(Hu,.cells [I r])]) (.mA [])):=by
 unfold aR at h
 refine aH.fg ?_
 refine aH.bj Tryz.func128 J Tryz.ntmps128 Tryz.results128 J J ?_
 refine tS<|aa.cut (fun aI=>∃ (c1:Bool),gS ai ao c1=r∧aI=⟨11,[(1,I ai),(2,.ptr Hu 0),(9,.bool c1)],[(Hu,.cells [I ao])]⟩) ?_ ?_
 ·refine tR<|rM J J<|rM J J<|ah.guard J J J (fun hc=>?_) (fun hc=>?_)
  ·rw [xA hc] at h
   exact rL J J .p0 J J<|rY J J J<|ah.qv (bH J J) J<|rT J J J<|rN<|aa.stop<|aj.lq [0] ⟨decide (ao=(0:Int)),h,J⟩ J J
  ·rw [xB hc] at h
   exact rG J J J J<|rE J J J<|rN<|aa.stop<|aj.lq [0] ⟨false,h,J⟩ J J
 ·rintro aI ⟨c1,h,rfl⟩
  unfold gS at h
  refine aa.cut (fun aI=>∃ (n2:Int),fk n2=r∧aI=⟨11,[],[(Hu,.cells [I n2])]⟩) ?_ ?_
  ·refine cB h J (fun h=>?_) (fun h=>?_)
   ·exact tR<|rM J J<|aC J J J J .p0 J J<|rN<|aa.stop<|aj.lq [0] ⟨ai,h,J⟩ J J
   ·exact tK<|aa.stop<|aj.lq [0] ⟨ao,h,J⟩ J J
  ·rintro aI ⟨n2,h,rfl⟩
   unfold fk at h
   refine aa.nil<|?_
   obtain rfl:=h
   exact aj.here ⟨_,.nil,_,.cons .p0 .nil,⟨J,J⟩⟩
theorem oJ {ae:ax} {r:Bool} (h:fL ae=some r):Pu Tryz.prog 61 [.str ae] (.bool r):=by
 unfold fL at h
 refine aH.bj Tryz.func61 J Tryz.ntmps61 Tryz.results61 J J ?_
 refine aE<|rA J J<|rN<|tS<|aa.cut (fun aI=>∃ (c1:Bool),fI c1=some r∧aI=⟨12,[(2,.bool c1)],[]⟩) ?_ ?_
 ·refine tR<|rM J J<|ah.qv (dc J) J<|aM J (fp J) cR J<|ah.qv (cz J) J<|rM J J<|ah.guard J J J (fun hc=>?_) (fun hc=>?_)
  ·exact have h:=nv hc h;rM J J<|rY J J J<|aG h fun v2 e1 h=>aM J (ju e1) cR J<|rY J J J<|ah.qv (iI J J) J<|rT J J J<|rA J J<|rN<|aa.stop<|aj.lq [] ⟨decide (v2=([]:ax)),h,J⟩ J J
  ·exact have h:=ql hc h;rG J J J J<|rG J J J J<|rE J J J<|rA J J<|rN<|aa.stop<|aj.lq [] ⟨false,h,J⟩ J J
 ·rintro aI ⟨c1,h,rfl⟩
  unfold fI at h
  refine aa.ret<|?_
  cases h
  exact hP J J
theorem zm [GI:bz] {ae:Version} {r:Bool} (h:lz ae=r):Pu Tryz.prog 129 [Version.av ae] (.bool r):=by
 unfold lz at h
 refine aH.bj Tryz.func129 J Tryz.ntmps129 Tryz.results129 J J ?_
 refine aE<|fe J J J J fun b1=>rA J J<|rN<|tS<|aa.cut (fun aI=>∃ (c2:Bool),mq c2=r∧aI=⟨19,[(2,.bool c2)],[]⟩) ?_ ?_
 ·refine tR<|rF J J J<|rL J J .p0 J J<|aM J (fp J) cR J<|ah.qv (cz J) J<|rM J J<|ah.guard J J J (fun hc=>?_) (fun hc=>?_)
  ·rw [xA hc] at h
   refine rF J J J<|rY J J J<|rL J J .p0 J J<|rY J J J<|aM J (fp J) cR J<|rY J J J<|ah.qv (cz J) J<|rT J J J<|rM J J<|ah.guard J J J (fun hc=>?_) (fun hc=>?_)
   ·rw [xA hc] at h
    exact rF J J J<|rY J J J<|rL J J .p0 J J<|rY J J J<|aM J (fp J) cR J<|rY J J J<|ah.qv (cz J) J<|rT J J J<|rA J J<|rN<|aa.stop<|aj.lq [] ⟨!(eC ae.dI (0:Int) (9999:Int)),h,J⟩ J J
   ·rw [xB hc] at h
    exact rG J J J J<|rG J J J J<|rG J J J J<|rE J J J<|rA J J<|rN<|aa.stop<|aj.lq [] ⟨false,h,J⟩ J J
  ·rw [xB hc] at h
   exact rG J J J J<|rG J J J J<|rG J J J J<|rE J J J<|rM J J<|rG J J J J<|rG J J J J<|rG J J J J<|rG J J J J<|rE J J J<|rA J J<|rN<|aa.stop<|aj.lq [] ⟨false,h,J⟩ J J
 ·rintro aI ⟨c2,h,rfl⟩
  unfold mq at h
  refine aa.ret<|?_
  obtain rfl:=h
  exact hP J J
theorem x8 {ae:ax} {r:Bool} (h:l8 ae=some r):Pu Tryz.prog 179 [.str ae] (.bool r):=by
 unfold l8 at h
 refine aH.bj Tryz.func179 J Tryz.ntmps179 Tryz.results179 J J ?_
 refine aE<|rA J J<|rN<|tS<|aE<|rM J J<|ah.qv (dc J) J<|rM J J<|rN<|aa.block<|aa.eU (fun x:Int=>dQ ae x) (fun x aI=>aI=⟨22,[(0,.str ae),(5,I (ae.length:Int)),(6,I x)],[]⟩) h ?_ ?_
 ·exact aj.lq [] J J J
 ·intro n2 z1 aI J1 iQ h lK fS
  obtain rfl:=iQ
  replace h:dQ ae n2=some z1:=h
  unfold dQ at h
  refine aE<|ah.qv (ca J J) J<|rN<|tS<|cD h J (fun h=>?_) (fun h=>?_)
  ·refine tK<|tS<|aa.block<|aE<|rM J J<|rA J J<|rN<|tS<|aa.cut (fun aI=>∃ (c3:Bool),jy n2 c3=some z1∧aI=⟨22,[(0,.str ae),(5,I (ae.length:Int)),(6,I n2),(18,.bool c3)],[]⟩) ?_ ?_
   ·refine tR<|rM J J<|rM J J<|aG h fun c4 e1 h=>ah.qv (jK J J e1) J<|ah.qv (ca J J) J<|rM J J<|gF h J J J (fun h=>?_) (fun h=>?_)
    ·exact rM J J<|rY J J J<|rM J J<|rY J J J<|aG h fun c5 e2 h=>ah.qv (jK J J e2) J<|rY J J J<|ah.qv (bH J J) J<|rE J J J<|rN<|aa.stop<|aj.lq [] ⟨decide ((c5.toNat:Int)=(127:Int)),h,J⟩ J J
    ·exact rG J J J J<|rG J J J J<|rG J J J J<|rT J J J<|rN<|aa.stop<|aj.lq [] ⟨true,h,J⟩ J J
   ·rintro aI ⟨c3,h,rfl⟩
    unfold jy at h
    refine cB h J (fun h=>?_) (fun h=>?_)
    ·refine aE<|rA J J<|rN<|aa.ret<|have h:=cy h fS;?_
     cases h
     exact hP J J
    ·refine tK<|aa.cr<|tR<|ah.qv (bh J J) J<|rM J J<|rN<|aa.stop<|?_
     cases h
     exact lK _ _ J<|aj.lq [] J J J
  ·refine aa.exit J<|have h:=cy h fS;?_
   unfold nP at h
   refine aE<|rM J J<|aG h fun v6 e3 h=>aM J (pF e3) cR J<|rA J J<|rN<|aa.ret<|?_
   cases h
   exact hP J J
theorem nj [GI:bz] {ae:ax} {ai:ax} {r:Bool} (h:cL ae ai=some r):Pu Tryz.prog 199 [.str ae,.str ai] (.bool r):=by
 unfold cL at h
 refine aH.bj Tryz.func199 J Tryz.ntmps199 Tryz.results199 J J ?_
 refine aE<|rA J J<|rN<|tS<|aa.cut (fun aI=>∃ (c1:Bool),cm c1=some r∧aI=⟨18,[(4,.bool c1)],[]⟩) ?_ ?_
 ·refine tR<|rM J J<|ah.qv (dc J) J<|rM J J<|ah.qv (dc J) J<|ah.qv (oU J J) J<|rM J J<|gT h J J J (fun h=>?_) (fun h=>?_)
  ·exact rM J J<|rY J J J<|rM J J<|rY J J J<|ah.qv (dc J) J<|rY J J J<|aG h fun l2 e1 h=>ah.qv (xy J .none (.some _ _ _ J) J J e1) J<|rY J J J<|rM J J<|rY J J J<|ah.qv (iI J J) J<|rT J J J<|rA J J<|rN<|aa.stop<|aj.lq [] ⟨decide (l2=ai),h,J⟩ J J
  ·exact rG J J J J<|rG J J J J<|rG J J J J<|rG J J J J<|rG J J J J<|rE J J J<|rA J J<|rN<|aa.stop<|aj.lq [] ⟨false,h,J⟩ J J
 ·rintro aI ⟨c1,h,rfl⟩
  unfold cm at h
  refine aa.ret<|?_
  cases h
  exact hP J J
theorem uz [GI:bz] {ae:ax} {ai:ax} {r:Bool} (h:strings_HasPrefix ae ai=some r):Pu Tryz.prog 156 [.str ae,.str ai] (.bool r):=by
 unfold strings_HasPrefix at h
 refine aH.bj Tryz.func156 J Tryz.ntmps156 Tryz.results156 J J ?_
 refine aE<|rA J J<|rN<|aE<|rM J J<|rM J J<|aG h fun v1 e1 h=>aM J (nj e1) cR J<|rA J J<|rN<|aa.ret<|?_
 cases h
 exact hP J J
theorem nk [GI:bz] {ae:ax} {ai:ax} {r:Bool} (h:cM ae ai=some r):Pu Tryz.prog 208 [.str ae,.str ai] (.bool r):=by
 unfold cM at h
 refine aH.bj Tryz.func208 J Tryz.ntmps208 Tryz.results208 J J ?_
 refine aE<|rA J J<|rN<|tS<|aa.cut (fun aI=>∃ (c1:Bool),cq c1=some r∧aI=⟨21,[(4,.bool c1)],[]⟩) ?_ ?_
 ·refine tR<|rM J J<|ah.qv (dc J) J<|rM J J<|ah.qv (dc J) J<|ah.qv (oU J J) J<|rM J J<|gT h J J J (fun h=>?_) (fun h=>?_)
  ·exact rM J J<|rY J J J<|rM J J<|rY J J J<|ah.qv (dc J) J<|rY J J J<|rM J J<|rY J J J<|ah.qv (dc J) J<|rY J J J<|ah.qv (cE J J) J<|rY J J J<|aG h fun l2 e1 h=>ah.qv (xy J (.some _ _ _ J) .none J J e1) J<|rY J J J<|rM J J<|rY J J J<|ah.qv (iI J J) J<|rT J J J<|rA J J<|rN<|aa.stop<|aj.lq [] ⟨decide (l2=ai),h,J⟩ J J
  ·exact rG J J J J<|rG J J J J<|rG J J J J<|rG J J J J<|rG J J J J<|rG J J J J<|rG J J J J<|rG J J J J<|rE J J J<|rA J J<|rN<|aa.stop<|aj.lq [] ⟨false,h,J⟩ J J
 ·rintro aI ⟨c1,h,rfl⟩
  unfold cq at h
  refine aa.ret<|?_
  cases h
  exact hP J J
theorem uA [GI:bz] {ae:ax} {ai:ax} {r:Bool} (h:strings_HasSuffix ae ai=some r):Pu Tryz.prog 180 [.str ae,.str ai] (.bool r):=by
 unfold strings_HasSuffix at h
 refine aH.bj Tryz.func180 J Tryz.ntmps180 Tryz.results180 J J ?_
 refine aE<|rA J J<|rN<|aE<|rM J J<|rM J J<|aG h fun v1 e1 h=>aM J (nk e1) cR J<|rA J J<|rN<|aa.ret<|?_
 cases h
 exact hP J J
theorem mE {ae:ax} {ai:ax} {r:Bool} (h:strings_Contains ae ai=some r):Pu Tryz.prog 105 [.str ae,.str ai] (.bool r):=by
 unfold strings_Contains at h
 refine aH.bj Tryz.func105 J Tryz.ntmps105 Tryz.results105 J J ?_
 refine aE<|rA J J<|rN<|aE<|rM J J<|rM J J<|aG h fun v1 e1 h=>aM J (xY e1) cR J<|ah.qv (oU J J) J<|rA J J<|rN<|aa.ret<|?_
 cases h
 exact hP J J
theorem Ca {ae:ax} {r:Bool} (h:pI ae=some r):Pu Tryz.prog 130 [.str ae] (.bool r):=by
 unfold pI at h
 refine aH.bj Tryz.func130 J Tryz.ntmps130 Tryz.results130 J J ?_
 refine aE<|rA J J<|rN<|tS<|aa.cut (fun aI=>∃ (c1:Bool),ji c1=some r∧aI=⟨20,[(2,.bool c1)],[]⟩) ?_ ?_
 ·refine tR<|rM J J<|aG h fun v2 e1 h=>aM J (x8 e1) cR J<|rM J J<|ah.guard J J J (fun hc=>?_) (fun hc=>?_)
  ·refine have h:=nv hc h;rM J J<|rY J J J<|aG h fun v3 e2 h=>aM J (uz e2) cR J<|rY J J J<|ah.qv (cz J) J<|rT J J J<|rM J J<|ah.guard J J J (fun hc=>?_) (fun hc=>?_)
   ·refine have h:=nv hc h;rM J J<|rY J J J<|aG h fun v4 e3 h=>aM J (uA e3) cR J<|rY J J J<|ah.qv (cz J) J<|rT J J J<|rM J J<|ah.guard J J J (fun hc=>?_) (fun hc=>?_)
    ·exact have h:=nv hc h;rM J J<|rY J J J<|aG h fun v5 e4 h=>aM J (mE e4) cR J<|rY J J J<|ah.qv (cz J) J<|rT J J J<|rA J J<|rN<|aa.stop<|aj.lq [] ⟨!v5,h,J⟩ J J
    ·exact have h:=ql hc h;rG J J J J<|rG J J J J<|rE J J J<|rA J J<|rN<|aa.stop<|aj.lq [] ⟨false,h,J⟩ J J
   ·exact have h:=ql hc h;rG J J J J<|rG J J J J<|rE J J J<|rM J J<|rG J J J J<|rG J J J J<|rG J J J J<|rE J J J<|rA J J<|rN<|aa.stop<|aj.lq [] ⟨false,h,J⟩ J J
  ·exact have h:=ql hc h;rG J J J J<|rG J J J J<|rE J J J<|rM J J<|rG J J J J<|rG J J J J<|rG J J J J<|rE J J J<|rM J J<|rG J J J J<|rG J J J J<|rG J J J J<|rE J J J<|rA J J<|rN<|aa.stop<|aj.lq [] ⟨false,h,J⟩ J J
 ·rintro aI ⟨c1,h,rfl⟩
  unfold ji at h
  refine aa.ret<|?_
  cases h
  exact hP J J
theorem vl {ae:List Model} {ai:ab} {r:ab×Int} (h:jz ae ai=some r):Pu Tryz.prog 79 [pa ae,ab.av ai] (.mA [ab.av r.1,I r.2]):=by
 unfold jz at h
 refine aH.bj Tryz.func79 J Tryz.ntmps79 Tryz.results79 J J ?_
 refine aE<|fe J J J J fun b1=>gd J J J J fun b2=>gd J J J J fun b3=>rN<|aE<|rF J J J<|rL J J .p2 J J<|rF J J J<|rL J J .p2 J J<|rF J J J<|rL J J .p2 J J<|rF J J J<|rL J J .p2 J J<|rF J J J<|rL J J .p2 J J<|rF J J J<|rL J J .p2 J J<|ah.qv (cW J J J J J) J<|aC J J J J .p1 J J<|rN<|aE<|ah.qv (jR J) J<|rA J J<|rN<|tS<|aE<|rF J J J<|rL J J .p2 J J<|rN<|aa.block<|aE<|ah.qv (bH J J) J<|rA J J<|rN<|aa.cut (fun aI=>∃ (q4:ax) (q5:ax) (n6:Int) (q7:ax) (q8:ax) (q9:ax) (n10:Int) (n11:Int) (n12:Int) (n13:Int) (n14:Int),cI ai q4 q5 n6 q7 q8 q9 n10 n11 n12 n13 n14=some r∧aI=⟨123,[(4,.ptr b2 0),(5,.ptr b3 0)],[(b2,.cells [.str ai.cj,I ai.No,I ai.aO,I ai.At,I ai.Kind,.str ai.Device,.str q4,.str q5,I n6,.str q7,.str q8,.str q9,I n10,I n11,I n12,I n13]),(b3,.cells [I n14])]⟩) ?_ ?_
 ·refine cD h J (fun h=>?_) (fun h=>?_)
  ·refine tS<|aa.gg (id:=5) (A:=[0,1,0,4,0,16,3,67,207,463,1023,2047]) (H0:=[(b2,.cells [.str ai.cj,I ai.No,I ai.aO,I ai.At,I ai.Kind,.str ai.Device,.str [],.str [],I (0:Int),.str [],.str [],.str [],I (0:Int),I (0:Int),I (0:Int),I (0:Int)])]) (HH:=fun β=>[(b2,.cells [.str ai.cj,I ai.No,I ai.aO,I ai.At,I ai.Kind,.str ai.Device,.str ai.Model,.str [],I ai.az,.str [],.str [],.str [],I (0:Int),I (0:Int),I (0:Int),I (0:Int)]),(b3,.cells [I (0:Int)]),(b1,.cells (x5 ai))]) 10 mixed J (by kernel_rfl) (by kernel_rfl) [⟨none,some 7,[],fun _=>(b2,.cells [.str ai.cj,I ai.No,I ai.aO,I ai.At,I ai.Kind,.str ai.Device,.str [],.str [],I (0:Int),.str [],.str [],.str [],I (0:Int),I (0:Int),I (0:Int),I (0:Int)]),none,[]⟩,⟨some 7,some 9,[],fun _=>(b2,.cells [.str ai.cj,I ai.No,I ai.aO,I ai.At,I ai.Kind,.str ai.Device,.str ai.Model,.str [],I (0:Int),.str [],.str [],.str [],I (0:Int),I (0:Int),I (0:Int),I (0:Int)]),none,[]⟩,⟨some 9,none,[],fun _=>(b2,.cells [.str ai.cj,I ai.No,I ai.aO,I ai.At,I ai.Kind,.str ai.Device,.str ai.Model,.str [],I ai.az,.str [],.str [],.str [],I (0:Int),I (0:Int),I (0:Int),I (0:Int)]),none,[]⟩] [] J (by kernel_rfl) J (.cons .p1 .nil) (fun _=>J)<|AT.am 7 J J<|AM.qv (au J J) J<|AM.qv (aB J J .p1 J) J<|AM.qv (au J J) J<|AM.qv (aB J J .p1 J) J<|AM.qv (au J J) J<|AM.qv (aB J J .p1 J) J<|AM.qv (au J J) J<|AM.nil<|AT.vF (Ti:=[(b2,.cells [.str ai.cj,I ai.No,I ai.aO,I ai.At,I ai.Kind,.str ai.Device,.str [],.str [],I (0:Int),.str [],.str [],.str [],I (0:Int),I (0:Int),I (0:Int),I (0:Int)])]) (Pi:=[(b2,.cells [.str ai.cj,I ai.No,I ai.aO,I ai.At,I ai.Kind,.str ai.Device,.str ai.Model,.str [],I (0:Int),.str [],.str [],.str [],I (0:Int),I (0:Int),I (0:Int),I (0:Int)])]) (fun _=>J) (fun _=>J) (fun _=>J) J J ?_ ?_
   ·exact aC J J J J .p0 J J<|ah.nil ⟨_,J⟩
   refine AT.am 1 J J<|AM.qv (au J J) J<|AM.nil<|AT.vF (Ti:=[(b2,.cells [.str ai.cj,I ai.No,I ai.aO,I ai.At,I ai.Kind,.str ai.Device,.str ai.Model,.str [],I (0:Int),.str [],.str [],.str [],I (0:Int),I (0:Int),I (0:Int),I (0:Int)])]) (Pi:=[(b2,.cells [.str ai.cj,I ai.No,I ai.aO,I ai.At,I ai.Kind,.str ai.Device,.str ai.Model,.str [],I ai.az,.str [],.str [],.str [],I (0:Int),I (0:Int),I (0:Int),I (0:Int)])]) (fun _=>J) (fun _=>J) (fun _=>J) J J ?_ ?_
   ·exact aC J J J J .p0 J J<|ah.nil ⟨_,J⟩
   exact AT.ra (fun _=>J) fun β=>rF J J J<|aC J J J J .p0 J J<|rN<|aE<|rM J J<|rM J J<|rF J J J<|rL J J .p2 J J<|aG h fun pH e1 h=>aM J (tB e1) cR J<|ah.qv (ca J J) J<|lW J J J (bT J) cR (.cons .p1 .nil) J J<|rN<|aE<|rM J J<|rF J J J<|rL J J .p2 J J<|aM J (fp J) cR J<|lW J J J (bT J) cR (.cons .p0 .nil) J J<|rN<|tR<|rM J J<|rF J J J<|rL J J .p2 J J<|aG h fun qL e2 h=>aM J (oJ e2) cR J<|ah.qv (cz J) J<|lW J J J (bT J) cR (.cons .p0 .nil) J J<|rN<|aa.stop<|aj.lq [1,0] ⟨ai.Model,[],ai.az,ai.Key,[],[],(0:Int),(0:Int),(0:Int),(0:Int),(aR (!qL) (5:Int) (aR (eC ai.az (1:Int) (99999999:Int)) (1:Int) (aR (decide (pH < (0:Int))) (8:Int) (0:Int)))),h,J⟩ J J
  ·refine aE<|ah.qv (bH J J) J<|rA J J<|rN<|aa.cut (fun aI=>∃ (O2:ax) (O3:ax) (O4:ax) (O5:ax) (n21:Int) (n22:Int) (n23:Int) (n24:Int) (n25:Int),dh ai O2 O3 O4 O5 n21 n22 n23 n24 n25=some r∧aI=⟨123,[(4,.ptr b2 0),(5,.ptr b3 0)],[(b2,.cells [.str ai.cj,I ai.No,I ai.aO,I ai.At,I ai.Kind,.str ai.Device,.str [],.str O2,I (0:Int),.str O3,.str O4,.str O5,I n21,I n22,I n23,I n24]),(b3,.cells [I n25])]⟩) ?_ ?_
   ·refine cD h J (fun h=>?_) (fun h=>?_)
    ·exact aE<|rF J J J<|rL J J .p2 J J<|rF J J J<|aC J J J J .p1 J J<|rN<|tR<|rM J J<|rF J J J<|rL J J .p2 J J<|aG h fun v26 e3 h=>aM J (nV e3) cR J<|ah.qv (cz J) J<|lW J J J (bT J) cR (.cons .p0 .nil) J J<|rN<|aa.stop<|aj.lq [1,0] ⟨ai.aK,[],[],[],(0:Int),(0:Int),(0:Int),(0:Int),(aR (!v26) (5:Int) (0:Int)),h,J⟩ J J
    ·refine aE<|ah.qv (bH J J) J<|rA J J<|rN<|aa.cut (fun aI=>∃ (Mn:ax) (Mo:ax) (O6:ax) (n30:Int) (n31:Int) (n32:Int) (n33:Int) (n34:Int),ea ai Mn Mo O6 n30 n31 n32 n33 n34=some r∧aI=⟨123,[(4,.ptr b2 0),(5,.ptr b3 0)],[(b2,.cells [.str ai.cj,I ai.No,I ai.aO,I ai.At,I ai.Kind,.str ai.Device,.str [],.str [],I (0:Int),.str Mn,.str Mo,.str O6,I n30,I n31,I n32,I n33]),(b3,.cells [I n34])]⟩) ?_ ?_
     ·refine cD h J (fun h=>?_) (fun h=>?_)
      ·refine tS<|aa.gg (id:=13) (A:=[0,1,0,4,3,19,63,127]) (H0:=[(b2,.cells [.str ai.cj,I ai.No,I ai.aO,I ai.At,I ai.Kind,.str ai.Device,.str [],.str [],I (0:Int),.str [],.str [],.str [],I (0:Int),I (0:Int),I (0:Int),I (0:Int)])]) (HH:=fun β=>[(b2,.cells [.str ai.cj,I ai.No,I ai.aO,I ai.At,I ai.Kind,.str ai.Device,.str [],.str [],I (0:Int),.str ai.Key,.str [],.str [],I (0:Int),I (0:Int),I (0:Int),I (0:Int)]),(b3,.cells [I (0:Int)]),(b1,.cells (x5 ai))]) 6 mixed J (by kernel_rfl) (by kernel_rfl) [⟨none,some 5,[],fun _=>(b2,.cells [.str ai.cj,I ai.No,I ai.aO,I ai.At,I ai.Kind,.str ai.Device,.str [],.str [],I (0:Int),.str [],.str [],.str [],I (0:Int),I (0:Int),I (0:Int),I (0:Int)]),none,[]⟩,⟨some 5,none,[],fun _=>(b2,.cells [.str ai.cj,I ai.No,I ai.aO,I ai.At,I ai.Kind,.str ai.Device,.str [],.str [],I (0:Int),.str ai.Key,.str [],.str [],I (0:Int),I (0:Int),I (0:Int),I (0:Int)]),none,[]⟩] [] J (by kernel_rfl) J (.cons .p1 .nil) (fun _=>J)<|AT.am 5 J J<|AM.qv (au J J) J<|AM.qv (aB J J .p1 J) J<|AM.qv (au J J) J<|AM.qv (aB J J .p1 J) J<|AM.qv (au J J) J<|AM.nil<|AT.vF (Ti:=[(b2,.cells [.str ai.cj,I ai.No,I ai.aO,I ai.At,I ai.Kind,.str ai.Device,.str [],.str [],I (0:Int),.str [],.str [],.str [],I (0:Int),I (0:Int),I (0:Int),I (0:Int)])]) (Pi:=[(b2,.cells [.str ai.cj,I ai.No,I ai.aO,I ai.At,I ai.Kind,.str ai.Device,.str [],.str [],I (0:Int),.str ai.Key,.str [],.str [],I (0:Int),I (0:Int),I (0:Int),I (0:Int)])]) (fun _=>J) (fun _=>J) (fun _=>J) J J ?_ ?_
       ·exact aC J J J J .p0 J J<|ah.nil ⟨_,J⟩
       exact AT.ra (fun _=>J) fun β=>rF J J J<|aC J J J J .p0 J J<|rN<|aE<|rM J J<|rF J J J<|rL J J .p2 J J<|aG h fun v35 e4 h=>aM J (oJ e4) cR J<|ah.qv (cz J) J<|lW J J J (bT J) cR (.cons .p1 .nil) J J<|rN<|tR<|rM J J<|rF J J J<|rL J J .p2 J J<|rF J J J<|rL J J .p2 J J<|aM J (fp J) cR J<|lW J J J (bT J) cR (.cons .p0 .nil) J J<|rN<|aa.stop<|aj.lq [1,0] ⟨ai.Key,[],[],ai.aW,(0:Int),(0:Int),(0:Int),(aR (eC ai.aW ai.At (345686400000:Int)) (1:Int) (aR (!v35) (5:Int) (0:Int))),h,J⟩ J J
      ·refine aE<|ah.qv (bH J J) J<|rA J J<|rN<|aa.cut (fun aI=>∃ (O7:ax) (O8:ax) (n38:Int) (n39:Int) (n40:Int) (n41:Int),fu ai O7 O8 n38 n39 n40 n41=some r∧aI=⟨123,[(4,.ptr b2 0),(5,.ptr b3 0)],[(b2,.cells [.str ai.cj,I ai.No,I ai.aO,I ai.At,I ai.Kind,.str ai.Device,.str [],.str [],I (0:Int),.str [],.str O7,.str O8,I (0:Int),I n38,I n39,I n40]),(b3,.cells [I n41])]⟩) ?_ ?_
       ·refine cD h J (fun h=>?_) (fun h=>?_)
        ·exact aE<|rF J J J<|ah.qv (dN J J .p2 J J) J<|rF J J J<|aC J J J J .p1 J J<|rN<|tR<|rM J J<|rF J J J<|ah.qv (dN J J .p2 J J) J<|aM J (zm J) cR J<|ah.qv (cz J) J<|lW J J J (bT J) cR (.cons .p0 .nil) J J<|rN<|aa.stop<|aj.lq [1,0] ⟨[],[],ai.ak.dX,ai.ak.dY,ai.ak.dI,(aR (!(lz ai.ak)) (1:Int) (0:Int)),h,J⟩ J J
        ·refine aE<|ah.qv (bH J J) J<|rA J J<|rN<|aa.cut (fun aI=>∃ (GU:ax) (O9:ax) (n44:Int),gK ai GU O9 n44=some r∧aI=⟨123,[(4,.ptr b2 0),(5,.ptr b3 0)],[(b2,.cells [.str ai.cj,I ai.No,I ai.aO,I ai.At,I ai.Kind,.str ai.Device,.str [],.str [],I (0:Int),.str [],.str GU,.str O9,I (0:Int),I (0:Int),I (0:Int),I (0:Int)]),(b3,.cells [I n44])]⟩) ?_ ?_
         ·refine cD h J (fun h=>?_) (fun h=>?_)
          ·refine tS<|aa.gg (id:=20) (A:=[0,1,0,4,3,19,63,127]) (H0:=[(b2,.cells [.str ai.cj,I ai.No,I ai.aO,I ai.At,I ai.Kind,.str ai.Device,.str [],.str [],I (0:Int),.str [],.str [],.str [],I (0:Int),I (0:Int),I (0:Int),I (0:Int)])]) (HH:=fun β=>[(b2,.cells [.str ai.cj,I ai.No,I ai.aO,I ai.At,I ai.Kind,.str ai.Device,.str [],.str [],I (0:Int),.str [],.str ai.Name,.str [],I (0:Int),I (0:Int),I (0:Int),I (0:Int)]),(b3,.cells [I (0:Int)]),(b1,.cells (x5 ai))]) 6 mixed J (by kernel_rfl) (by kernel_rfl) [⟨none,some 5,[],fun _=>(b2,.cells [.str ai.cj,I ai.No,I ai.aO,I ai.At,I ai.Kind,.str ai.Device,.str [],.str [],I (0:Int),.str [],.str [],.str [],I (0:Int),I (0:Int),I (0:Int),I (0:Int)]),none,[]⟩,⟨some 5,none,[],fun _=>(b2,.cells [.str ai.cj,I ai.No,I ai.aO,I ai.At,I ai.Kind,.str ai.Device,.str [],.str [],I (0:Int),.str [],.str ai.Name,.str [],I (0:Int),I (0:Int),I (0:Int),I (0:Int)]),none,[]⟩] [] J (by kernel_rfl) J (.cons .p1 .nil) (fun _=>J)<|AT.am 5 J J<|AM.qv (au J J) J<|AM.qv (aB J J .p1 J) J<|AM.qv (au J J) J<|AM.qv (aB J J .p1 J) J<|AM.qv (au J J) J<|AM.nil<|AT.vF (Ti:=[(b2,.cells [.str ai.cj,I ai.No,I ai.aO,I ai.At,I ai.Kind,.str ai.Device,.str [],.str [],I (0:Int),.str [],.str [],.str [],I (0:Int),I (0:Int),I (0:Int),I (0:Int)])]) (Pi:=[(b2,.cells [.str ai.cj,I ai.No,I ai.aO,I ai.At,I ai.Kind,.str ai.Device,.str [],.str [],I (0:Int),.str [],.str ai.Name,.str [],I (0:Int),I (0:Int),I (0:Int),I (0:Int)])]) (fun _=>J) (fun _=>J) (fun _=>J) J J ?_ ?_
           ·exact aC J J J J .p0 J J<|ah.nil ⟨_,J⟩
           refine AT.ra (fun _=>J) fun β=>rF J J J<|aC J J J J .p0 J J<|rN<|aE<|rM J J<|rF J J J<|rL J J .p2 J J<|aG h fun v45 e5 h=>aM J (nV e5) cR J<|ah.qv (cz J) J<|lW J J J (bT J) cR (.cons .p1 .nil) J J<|rN<|aa.cut (fun aI=>∃ (n46:Int),gL ai n46=some r∧aI=⟨123,[(4,.ptr b2 0),(5,.ptr b3 0)],[(b2,.cells [.str ai.cj,I ai.No,I ai.aO,I ai.At,I ai.Kind,.str ai.Device,.str [],.str [],I (0:Int),.str [],.str ai.Name,.str ai.Value,I (0:Int),I (0:Int),I (0:Int),I (0:Int)]),(b3,.cells [I n46])]⟩) ?_ ?_
           ·refine tR<|rM J J<|rF J J J<|rL J J .p2 J J<|ah.qv (dc J) J<|ah.qv (gx J J) J<|rM J J<|gF h J J J (fun h=>?_) (fun h=>?_)
            ·exact rF J J J<|rY J J J<|rL J J .p2 J J<|rY J J J<|aG h fun TA e6 h=>aM J (Ca e6) cR J<|rY J J J<|ah.qv (cz J) J<|rE J J J<|lW J J J (bT J) cR (.cons .p0 .nil) J J<|rN<|aa.stop<|aj.lq [1,0] ⟨(aR (!TA) (3:Int) (aR (!v45) (5:Int) (0:Int))),h,J⟩ J J
            ·exact rG J J J J<|rG J J J J<|rG J J J J<|rT J J J<|lW J J J (bT J) cR (.cons .p0 .nil) J J<|rN<|aa.stop<|aj.lq [1,0] ⟨(aR true (3:Int) (aR (!v45) (5:Int) (0:Int))),h,J⟩ J J
           ·rintro aI ⟨n46,h,rfl⟩
            unfold gL at h
            exact aa.stop<|aj.lq [0,0] ⟨ai.Name,ai.Value,n46,h,J⟩ J J
          ·exact tK<|aa.stop<|aj.lq [1,0] ⟨[],[],(0:Int),h,J⟩ J J
         ·rintro aI ⟨GU,O9,n44,h,rfl⟩
          unfold gK at h
          exact aa.stop<|aj.lq [0,0] ⟨GU,O9,(0:Int),(0:Int),(0:Int),n44,h,J⟩ J J
       ·rintro aI ⟨O7,O8,n38,n39,n40,n41,h,rfl⟩
        unfold fu at h
        exact aa.stop<|aj.lq [0,0] ⟨[],O7,O8,(0:Int),n38,n39,n40,n41,h,J⟩ J J
     ·rintro aI ⟨Mn,Mo,O6,n30,n31,n32,n33,n34,h,rfl⟩
      unfold ea at h
      exact aa.stop<|aj.lq [0,0] ⟨[],Mn,Mo,O6,n30,n31,n32,n33,n34,h,J⟩ J J
   ·rintro aI ⟨O2,O3,O4,O5,n21,n22,n23,n24,n25,h,rfl⟩
    unfold dh at h
    exact aa.stop<|aj.lq [0,0] ⟨[],O2,(0:Int),O3,O4,O5,n21,n22,n23,n24,n25,h,J⟩ J J
 ·rintro aI ⟨q4,q5,n6,q7,q8,q9,n10,n11,n12,n13,n14,h,rfl⟩
  unfold cI at h
  refine aa.cr<|tS<|aa.gg (id:=23) (A:=[0,0,1,7]) (H0:=[(b2,.cells [.str ai.cj,I ai.No,I ai.aO,I ai.At,I ai.Kind,.str ai.Device,.str q4,.str q5,I n6,.str q7,.str q8,.str q9,I n10,I n11,I n12,I n13])]) (HH:=fun β=>[(b2,.cells [.str ai.cj,I ai.No,I ai.aO,I ai.At,I ai.Kind,.str ai.Device,.str q4,.str q5,I n6,.str q7,.str q8,.str q9,I n10,I n11,I n12,I n13]),(b3,.cells [I n14])]) 3 mixed J (by kernel_rfl) (by kernel_rfl) [⟨none,some 2,[0],fun _=>(b2,.cells [.str ai.cj,I ai.No,I ai.aO,I ai.At,I ai.Kind,.str ai.Device,.str q4,.str q5,I n6,.str q7,.str q8,.str q9,I n10,I n11,I n12,I n13]),none,[]⟩,⟨some 2,none,[],fun _=>(b2,.cells [.str ai.cj,I ai.No,I ai.aO,I ai.At,I ai.Kind,.str ai.Device,.str q4,.str q5,I n6,.str q7,.str q8,.str q9,I n10,I n11,I n12,I n13]),none,[]⟩] [] J (by kernel_rfl) J (.cons .p0 .nil) (fun _=>J)<|AT.rd (Rs:=[(b2,.cells [.str ai.cj,I ai.No,I ai.aO,I ai.At,I ai.Kind,.str ai.Device,.str q4,.str q5,I n6,.str q7,.str q8,.str q9,I n10,I n11,I n12,I n13])]) (fun _=>J) J (fun _=>J) (fun _=>J) (aS J J .p0 J) J<|AT.am 1 J J<|AM.qv (aB J J .p0 J) J<|AM.nil<|AT.vF (Ti:=[(b2,.cells [.str ai.cj,I ai.No,I ai.aO,I ai.At,I ai.Kind,.str ai.Device,.str q4,.str q5,I n6,.str q7,.str q8,.str q9,I n10,I n11,I n12,I n13])]) (Pi:=[(b2,.cells [.str ai.cj,I ai.No,I ai.aO,I ai.At,I ai.Kind,.str ai.Device,.str q4,.str q5,I n6,.str q7,.str q8,.str q9,I n10,I n11,I n12,I n13])]) (fun _=>J) (fun _=>J) (fun _=>J) J J ?_ ?_
  ·exact aC J J J J .p0 J J<|ah.nil ⟨_,J⟩
  refine AT.ra (fun _=>J) fun β=>aC J J J J .p1 J J<|rN<|aa.ret<|?_
  cases h
  exact aj.here ⟨_,.cons (.all _ _ _ _ _ _ J .p0 ay.h aP.h J J) (.cons (.one _ _ _ _ _ _ J .p1 ay.h J J) .nil),J⟩
end Go.Proofs.YtjgdilohhcheoaaGreatDoor
