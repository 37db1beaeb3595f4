/- The code computes the plain functions: proofs written by shal.py. -/
import Derived.Test.YtnchkajkgjkpmaaGreatDoorOdfP
import Derived.Test.YtnchkajkgjkpmaaGreatDoorLib
set_option maxHeartbeats 4000000
set_option maxRecDepth 100000
set_option linter.unusedVariables false
set_option linter.unusedSimpArgs false
namespace Go.Proofs.YtnchkajkgjkpmaaGreatDoor
open Go Go.Eng Go.Proofs Go.Beacon
attribute [local irreducible] ae ab AQ QV aI aj TK AM
instance am5:Mk Tryz.prog 35:=⟨by kernel_rfl⟩
instance am6:uh Tryz.prog 35 2 Version.av:=⟨fun x y w S v u hv hu=>by
 obtain ⟨vs,rfl,hl,ha⟩:=At.kW hv
 obtain ⟨us,rfl,CJ,KI⟩:=At.kW hu
 obtain ⟨v0,p0,q0⟩:=nK.get hl ha (off:=0) rfl
 obtain ⟨u0,Xx,Xy⟩:=nK.get CJ KI (off:=0) rfl
 obtain ⟨v1,p1,q1⟩:=nK.get hl ha (off:=1) rfl
 obtain ⟨u1,Xz,XA⟩:=nK.get CJ KI (off:=1) rfl
 obtain ⟨v2,p2,q2⟩:=nK.get hl ha (off:=2) rfl
 obtain ⟨u2,p2',q2'⟩:=nK.get CJ KI (off:=2) rfl
 refine Bz.cast (Bz.struct Tryz.underlying35 (by kernel_rfl) (.cons (by decide) (ej J p0) (ej J Xx) (Bz.up (uh.h (g:=I) x.bP y.bP w S _ _ q0 Xy) 0) (.cons (by decide) (ej J p1) (ej J Xz) (Bz.up (uh.h (g:=I) x.bQ y.bQ w S _ _ q1 XA) 0) (.cons (by decide) (ej J p2) (ej J p2') (Bz.up (uh.h (g:=I) x.bL y.bL w S _ _ q2 q2') 0) .nil)))) ?_
 obtain ⟨_,_,_⟩:=x
 obtain ⟨_,_,_⟩:=y
 rw [Bool.eq_iff_iff];simp [and_assoc]⟩
instance am7:Mk Tryz.prog 85:=⟨by kernel_rfl⟩
instance am8:uh Tryz.prog 85 2 aB.av:=⟨fun x y w S v u hv hu=>by
 obtain ⟨vs,rfl,hl,ha⟩:=At.kW hv
 obtain ⟨us,rfl,CJ,KI⟩:=At.kW hu
 obtain ⟨v0,p0,q0⟩:=nK.get hl ha (off:=0) rfl
 obtain ⟨u0,Xx,Xy⟩:=nK.get CJ KI (off:=0) rfl
 obtain ⟨v1,p1,q1⟩:=nK.get hl ha (off:=1) rfl
 obtain ⟨u1,Xz,XA⟩:=nK.get CJ KI (off:=1) rfl
 obtain ⟨v2,p2,q2⟩:=nK.get hl ha (off:=2) rfl
 obtain ⟨u2,p2',q2'⟩:=nK.get CJ KI (off:=2) rfl
 refine Bz.cast (Bz.struct Tryz.underlying85 (by kernel_rfl) (.cons (by decide) (ej J p0) (ej J Xx) (Bz.up (uh.h (g:=AV.str) x.ek y.ek w S _ _ q0 Xy) 0) (.cons (by decide) (ej J p1) (ej J Xz) (Bz.up (uh.h (g:=AV.str) x.Act y.Act w S _ _ q1 XA) 0) (.cons (by decide) (ej J p2) (ej J p2') (Bz.up (uh.h (g:=AV.str) x.Device y.Device w S _ _ q2 q2') 0) .nil)))) ?_
 obtain ⟨_,_,_⟩:=x
 obtain ⟨_,_,_⟩:=y
 rw [Bool.eq_iff_iff];simp [and_assoc]⟩
instance adZ:Mk Tryz.prog 101:=⟨by kernel_rfl⟩
instance ae0:uh Tryz.prog 101 2 bg.av:=⟨fun x y w S v u hv hu=>by
 obtain ⟨vs,rfl,hl,ha⟩:=At.kW hv
 obtain ⟨us,rfl,CJ,KI⟩:=At.kW hu
 obtain ⟨v0,p0,q0⟩:=nK.get hl ha (off:=0) rfl
 obtain ⟨u0,Xx,Xy⟩:=nK.get CJ KI (off:=0) rfl
 obtain ⟨v1,p1,q1⟩:=nK.get hl ha (off:=1) rfl
 obtain ⟨u1,Xz,XA⟩:=nK.get CJ KI (off:=1) rfl
 obtain ⟨v2,p2,q2⟩:=nK.get hl ha (off:=2) rfl
 obtain ⟨u2,p2',q2'⟩:=nK.get CJ KI (off:=2) rfl
 obtain ⟨v3,p3,q3⟩:=nK.get hl ha (off:=3) rfl
 obtain ⟨u3,p3',q3'⟩:=nK.get CJ KI (off:=3) rfl
 refine Bz.cast (Bz.struct Tryz.underlying101 (by kernel_rfl) (.cons (by decide) (ej J p0) (ej J Xx) (Bz.up (uh.h (g:=I) x.Kind y.Kind w S _ _ q0 Xy) 0) (.cons (by decide) (ej J p1) (ej J Xz) (Bz.up (uh.h (g:=AV.bool) x.ch y.ch w S _ _ q1 XA) 0) (.cons (by decide) (ej J p2) (ej J p2') (Bz.up (uh.h (g:=I) x.Number y.Number w S _ _ q2 q2') 0) (.cons (by decide) (ej J p3) (ej J p3') (Bz.up (uh.h (g:=AV.str) x.Words y.Words w S _ _ q3 q3') 0) .nil))))) ?_
 obtain ⟨_,_,_,_⟩:=x
 obtain ⟨_,_,_,_⟩:=y
 rw [Bool.eq_iff_iff];simp [and_assoc]⟩
instance ae1:uh Tryz.prog 241 2 aN.av:=⟨fun x y w S v u hv hu=>by
 obtain ⟨vs,rfl,hl,ha⟩:=At.kW hv
 obtain ⟨us,rfl,CJ,KI⟩:=At.kW hu
 obtain ⟨v0,p0,q0⟩:=nK.get hl ha (off:=0) rfl
 obtain ⟨u0,Xx,Xy⟩:=nK.get CJ KI (off:=0) rfl
 obtain ⟨v1,p1,q1⟩:=nK.get hl ha (off:=1) rfl
 obtain ⟨u1,Xz,XA⟩:=nK.get CJ KI (off:=1) rfl
 refine Bz.cast (Bz.struct Tryz.underlying241 (by kernel_rfl) (.cons (by decide) (ej J p0) (ej J Xx) (Bz.up (uh.h (g:=AV.str) x.a_ y.a_ w S _ _ q0 Xy) 0) (.cons (by decide) (ej J p1) (ej J Xz) (Bz.up (uh.h (g:=AV.str) x.b_ y.b_ w S _ _ q1 XA) 0) .nil))) ?_
 obtain ⟨_,_⟩:=x
 obtain ⟨_,_⟩:=y
 rw [Bool.eq_iff_iff];simp [and_assoc]⟩
instance ae2:iZ Tryz.prog 241 aN.av:=iZ.struct (n:=2) J Tryz.underlying241 (fun f hf=>by
 simp only [List.mem_cons,List.not_mem_nil,or_false] at hf
 rcases hf with rfl | rfl
 ·exact ⟨_,aC.h (P:=Tryz.prog) (t:=9),J,by decide⟩
 ·exact ⟨_,aC.h (P:=Tryz.prog) (t:=9),J,by decide⟩) (fun x=>⟨_,J,J,fun c hc=>by
 simp only [List.mem_cons,List.not_mem_nil,or_false] at hc
 rcases hc with rfl | rfl<;>rfl⟩) (fun a b h=>by
 obtain ⟨_,_⟩:=a
 obtain ⟨_,_⟩:=b
 simpa [aN.av] using h)
abbrev cC (xs:List Int):AV:=.list 1 (xs.map I)
abbrev gz (xs:List ai):AV:=.list 1 (xs.map AV.str)
abbrev wa (xs:List au):AV:=.list 2 (xs.map au.av)
abbrev yw (xs:List bH):AV:=.list 2 (xs.map bH.av)
abbrev G0 (xs:List aQ):Ob:=.arr 3 (xs.map aQ.av)
abbrev pb (xs:List Query):AV:=.list 11 (xs.map Query.av)
abbrev UZ (xs:List Query):Ob:=.arr 11 (xs.map Query.av)
abbrev xL (x:Query):List AV:=[I x.Kind,.str x.Field,.str x.Op,I x.Value.Kind,.bool x.Value.ch,I x.Value.Number,.str x.Value.Words,I x.Version.bP,I x.Version.bQ,I x.Version.bL,pb x.Kids]
abbrev K9 (xs:List bl):Ob:=.arr 17 (xs.map bl.av)
abbrev G3 (xs:List au):Ob:=.arr 2 (xs.map au.av)
abbrev G4 (xs:List bH):Ob:=.arr 2 (xs.map bH.av)
abbrev Zq (x:aW) (b0 b1 b2 b3:Bk):List AV:=[.sl 2 b0 0 x.ao.length,.sl 2 b1 0 x.bd.length,.sl 3 b2 0 x.aG.length,.sl 17 b3 0 x.aK.length]
abbrev Qe (xs:List jm):Ob:=.arr 2 (xs.map jm.av)
abbrev U0 (xs:List eB):Ob:=.arr 5 (xs.map eB.av)
abbrev aE9 (xs:List aL):Ob:=.arr 8 (xs.map aL.av)
abbrev w9 (xs:List aQ):AV:=.list 3 (xs.map aQ.av)
abbrev tq (xs:List bl):AV:=.list 17 (xs.map bl.av)
abbrev wg (x:aW):List AV:=[wa x.ao,yw x.bd,w9 x.aG,tq x.aK]
abbrev ed (xs:List (ai×ai)):Ob:=.mp (xs.map (fun e=>(AV.str e.1,AV.str e.2)))
abbrev il (xs:List (ai×(List ai))):Ob:=.mp (xs.map (fun e=>(AV.str e.1,(A6 1 AV.str) e.2)))
abbrev ja (xs:List (aN×(List Int))):Ob:=.mp (xs.map (fun e=>(aN.av e.1,(A6 1 I) e.2)))
abbrev oe (xs:List (aN×Bool)):Ob:=.mp (xs.map (fun e=>(aN.av e.1,AV.bool e.2)))
abbrev MU (xs:List Int):Ob:=.arr 1 (xs.map I)
abbrev tt (x:aq) (b4 b5 b6 b7 b8:Bk):List AV:=[wa x.aW.ao,yw x.aW.bd,w9 x.aW.aG,tq x.aW.aK,.bC b4,.bC b5,.bC b6,.bC b7,.bC b8]
abbrev j0 (xs:List (ai×(List Int))):Ob:=.mp (xs.map (fun e=>(AV.str e.1,(A6 1 I) e.2)))
abbrev vF (xs:List ai):Ob:=.arr 1 (xs.map AV.str)
abbrev L7 (x:bl):List AV:=[.str x.Key,.str x.ef,.str x.To,I x.Query.Kind,.str x.Query.Field,.str x.Query.Op,I x.Query.Value.Kind,.bool x.Query.Value.ch,I x.Query.Value.Number,.str x.Query.Value.Words,I x.Query.Version.bP,I x.Query.Version.bQ,I x.Query.Version.bL,pb x.Query.Kids,gz x.lI,I x.Time.ef,I x.Time.To]
abbrev wb (xs:List aL):AV:=.list 8 (xs.map aL.av)
abbrev Qf (xs:List jm):AV:=.list 2 (xs.map jm.av)
abbrev Qg (xs:List eB):AV:=.list 5 (xs.map eB.av)
abbrev DH (x:aL):List AV:=[.str x.Device.Key,.str x.Device.Model,.str x.Device.au,I x.Device.ff.bP,I x.Device.ff.bQ,I x.Device.ff.bL,Qf x.Device.kY,Qg x.eG]
abbrev XB (x:IT):List AV:=[.str x.Key,.str x.Model,.str x.au,I x.ff.bP,I x.ff.bQ,I x.ff.bL,Qf x.kY]
abbrev cE7 (x:eB):List AV:=[.str x.Name,I x.Value.Kind,.bool x.Value.ch,I x.Value.Number,.str x.Value.Words]
abbrev Ea (xs:List Reason):Ob:=.arr 2 (xs.map Reason.av)
abbrev pL (xs:List aB):Ob:=.arr 3 (xs.map aB.av)
abbrev aaM (xs:List Bool):AV:=.list 1 (xs.map AV.bool)
abbrev aaN (xs:List Int):AV:=.list 1 (xs.map (AV.int .u8))
abbrev U1 (xs:List (List ai)):AV:=.list 1 (xs.map (A6 1 AV.str))
abbrev XC (xs:List aW):AV:=.list 4 (xs.map aW.av)
abbrev ae3 (xs:List Reason):AV:=.list 2 (xs.map Reason.av)
abbrev U2 (xs:List aB):AV:=.list 3 (xs.map aB.av)
abbrev fE9 (xs:List aL):Ob:=.By 8 (xs.map aL.av)
theorem I9 [GI:bD] {aa:Int} {ak:Int} {r:Int} (h:Below aa ak=some r):Pu Tryz.prog 120 [I aa,I ak] (I r):=by
 unfold Below at h
 refine aI.aZ Tryz.func120 J Tryz.ntmps120 Tryz.results120 J J ?_
 refine az<|rA J J<|rN<|tS<|az<|rM J J<|ae.qv (br J J) J<|rN<|cD h J (fun h=>?_) (fun h=>?_)
 ·refine az<|rA J J<|rN<|ab.ret<|?_
  cases h
  exact hP J J
 ·refine tK<|az<|rM J J<|rM J J<|ax h fun n1 e1 h=>ae.qv (QQ J J e1) J<|rA J J<|rN<|tS<|az<|rM J J<|ae.qv (br J J) J<|rN<|ab.cut (fun aE=>∃ (n2:Int),zb n2=some r∧aE=⟨16,[(0,I n2)],[]⟩) ?_ ?_
  ·refine cD h J (fun h=>?_) (fun h=>?_)
   ·exact tR<|rM J J<|rM J J<|ae.qv (bf J J) J<|rA J J<|rN<|ab.stop<|aj.lq [] ⟨cd (n1+ak),h,J⟩ J J
   ·exact tK<|ab.stop<|aj.lq [] ⟨n1,h,J⟩ J J
  ·rintro aE ⟨n2,h,rfl⟩
   unfold zb at h
   refine az<|rM J J<|rA J J<|rN<|ab.ret<|?_
   cases h
   exact hP J J
theorem df [GI:bD] {bn:Bk} {aa:ah} {ak:Int} {r:Int×ah} (h:cO aa ak=some r):aI Tryz.prog 43 [.ptr bn 0,I ak] [(bn,.cells [cC aa.L,I aa.at_])] (T0 ([(bn,.cells [cC r.2.L,I r.2.at_])]) (I r.1)):=by
 unfold cO at h
 refine aI.fD ?_
 refine aI.aZ Tryz.func43 J Tryz.ntmps43 Tryz.results43 J J ?_
 refine az<|rA J J<|rN<|az<|rM J J<|ae.qv (ba J) J<|rF J J J<|rL J J .p0 J J<|ae.qv (bf J J) J<|ae.qv (ba J) J<|rF J J J<|ay J J J J .p0 J J<|rN<|tS<|az<|rM J J<|ae.qv (ba J) J<|rF J J J<|rL J J .p0 J J<|ae.qv (bB J) J<|ae.qv (cx J J) J<|rN<|cD h J (fun h=>?_) (fun h=>?_)
 ·refine az<|rM J J<|ae.qv (ba J) J<|rF J J J<|rL J J .p0 J J<|ae.qv (Qt J J) J<|rM J J<|ax h fun v1 e1 h=>aH J (I9 e1) cR J<|rA J J<|rN<|ab.ret<|?_
  cases h
  exact hH J [0] J ⟨J,J⟩
 ·refine tK<|tS<|ab.cA (id:=4) (A:=[0,1,3,7,15,0,32,96,224,480,1023,2047]) 12 mixed J (by kernel_rfl) (by kernel_rfl)<|AM.qv (aO J) J<|AM.qv (ba J) J<|AM.qv (ar J J) J<|AM.qv (aD J J .p0 J) J<|AM.qv (fm J J) J<|AM.qv (aO J) J<|AM.qv (ba J) J<|AM.qv (ar J J) J<|AM.qv (aD J J .p0 J) J<|AM.qv (bB J) J<|ax h fun n2 e2 h=>AM.qv (QQ J J e2) J<|AM.qv (bR J) J<|AM.nil<|rN<|tS<|ab.cA (id:=5) (A:=[0,1,3,7,15,0,32,96,224,480,1023,2047]) 12 mixed J (by kernel_rfl) (by kernel_rfl)<|AM.qv (aO J) J<|AM.qv (ba J) J<|AM.qv (ar J J) J<|AM.qv (aD J J .p0 J) J<|AM.qv (fm J J) J<|AM.qv (aO J) J<|AM.qv (ba J) J<|AM.qv (ar J J) J<|AM.qv (aD J J .p0 J) J<|AM.qv (bB J) J<|ax h fun n3 e3 h=>AM.qv (WS J J e3) J<|AM.qv (bR J) J<|AM.nil<|rN<|az<|rM J J<|ae.qv (ba J) J<|rF J J J<|rL J J .p0 J J<|rM J J<|ax h fun v4 e4 h=>ae.qv (aS J J J e4 J J) J<|ae.qv (aJ J J J) J<|ax h fun v5 e5 h=>aH J (I9 e5) cR J<|rM J J<|rM J J<|ae.qv (bf J J) J<|ae.qv (Qt J J) J<|ae.qv (bf J J) J<|rM J J<|ax h fun v6 e6 h=>aH J (I9 e6) cR J<|rA J J<|rN<|ab.ret<|?_
  cases h
  exact hH J [0] J ⟨J,J⟩
theorem bE [GI:bD] {bn:Bk} {aa:ah} {ak:List ai} {r:ai×ah} (h:bI aa ak=some r):aI Tryz.prog 7 [.ptr bn 0,gz ak] [(bn,.cells [cC aa.L,I aa.at_])] (T0 ([(bn,.cells [cC r.2.L,I r.2.at_])]) (.str r.1)):=by
 unfold bI at h
 refine aI.fD ?_
 refine aI.aZ Tryz.func7 J Tryz.ntmps7 Tryz.results7 J J ?_
 refine az<|rA J J<|rN<|az<|rM J J<|rM J J<|rM J J<|ae.qv (bB J) J<|ax h fun v1 e1 h=>aR J (df e1) cR (.cons .p0 .nil) J J<|ax h fun v2 e2 h=>ae.qv (aS J J J e2 J J) J<|ae.qv (aJ J J J) J<|rA J J<|rN<|ab.ret<|?_
 cases h
 exact hH J [0] J ⟨J,J⟩
theorem wS [GI:bD] {bn:Bk} {aa:ah} {r:(List ai)×ah} (h:oN aa=some r):aI Tryz.prog 45 [.ptr bn 0] [(bn,.cells [cC aa.L,I aa.at_])] (T0 ([(bn,.cells [cC r.2.L,I r.2.at_])]) (gz r.1)):=by
 unfold oN at h
 refine aI.fD ?_
 refine aI.aZ Tryz.func45 J Tryz.ntmps45 Tryz.results45 J J ?_
 refine az<|rA J J<|rN<|az<|aF (xs:=([([42]:ai)]).map AV.str) J J J J J J<|aF (xs:=([([100,101,118,105,99,101,46,42]:ai)]).map AV.str) J J J J J J<|aF (xs:=([([100,101,118,105,99,101,46,114,101,97,100]:ai)]).map AV.str) J J J J J J<|aF (xs:=([([100,101,118,105,99,101,46,114,101,97,100]:ai),([111,114,103,46,42]:ai)]).map AV.str) J J J J J J<|aF (xs:=([([100,101,118,105,99,101,46,114,101,97,100]:ai),([100,101,118,105,99,101,46,119,114,105,116,101]:ai)]).map AV.str) J J J J J J<|aF (xs:=([[([42]:ai)],[([100,101,118,105,99,101,46,42]:ai)],[([100,101,118,105,99,101,46,114,101,97,100]:ai)],[([100,101,118,105,99,101,46,114,101,97,100]:ai),([111,114,103,46,42]:ai)],[([100,101,118,105,99,101,46,114,101,97,100]:ai),([100,101,118,105,99,101,46,119,114,105,116,101]:ai)]]).map (A6 1 AV.str)) J J J J J J<|rM J J<|ax h fun v1 e1 h=>aR J (df e1) cR (.cons .p0 .nil) J J<|ax h fun v2 e2 h=>ae.qv (aS J J J e2 J J) J<|ae.qv (aJ J J J) J<|rA J J<|rN<|ab.ret<|?_
 cases h
 exact hH J [0] J ⟨J,J⟩
theorem dY [GI:bD] {bn:Bk} {aa:ah} {ak:Int} {r:Bool×ah} (h:dE aa ak=some r):aI Tryz.prog 42 [.ptr bn 0,I ak] [(bn,.cells [cC aa.L,I aa.at_])] (T0 ([(bn,.cells [cC r.2.L,I r.2.at_])]) (.bool r.1)):=by
 unfold dE at h
 refine aI.fD ?_
 refine aI.aZ Tryz.func42 J Tryz.ntmps42 Tryz.results42 J J ?_
 refine az<|rA J J<|rN<|az<|rM J J<|rM J J<|ax h fun v1 e1 h=>aR J (df e1) cR (.cons .p0 .nil) J J<|ae.qv (cx J J) J<|rA J J<|rN<|ab.ret<|?_
 cases h
 exact hH J [0] J ⟨J,J⟩
theorem cm [GI:bD] {bn:Bk} {aa:ah} {ak:List Int} {r:Int×ah} (h:cj aa ak=some r):aI Tryz.prog 28 [.ptr bn 0,cC ak] [(bn,.cells [cC aa.L,I aa.at_])] (T0 ([(bn,.cells [cC r.2.L,I r.2.at_])]) (I r.1)):=by
 unfold cj at h
 refine aI.fD ?_
 refine aI.aZ Tryz.func28 J Tryz.ntmps28 Tryz.results28 J J ?_
 refine az<|rA J J<|rN<|az<|rM J J<|rM J J<|rM J J<|ae.qv (bB J) J<|ax h fun v1 e1 h=>aR J (df e1) cR (.cons .p0 .nil) J J<|ax h fun v2 e2 h=>ae.qv (aS J J J e2 J J) J<|ae.qv (aJ J J J) J<|rA J J<|rN<|ab.ret<|?_
 cases h
 exact hH J [0] J ⟨J,J⟩
theorem mw [GI:bD] {XD:Bk} {aa:ah} {r:ai×ah} (h:gA aa=some r):aI Tryz.prog 193 [.mG [.ptr XD 0]] [(XD,.cells [cC aa.L,I aa.at_])] (T0 ([(XD,.cells [cC r.2.L,I r.2.at_])]) (.str r.1)):=by
 unfold gA at h
 refine aI.fD ?_
 refine aI.aZ Tryz.func193 J Tryz.ntmps193 Tryz.results193 J J ?_
 refine az<|rA J J<|rN<|az<|ae.qv (aJ J J J) J<|aF (xs:=([([61,61]:ai),([61,61]:ai),([33,61]:ai)]).map AV.str) J J J J J J<|ax h fun v1 e1 h=>aR J (bE e1) cR (.cons .p0 .nil) J J<|rA J J<|rN<|ab.ret<|?_
 cases h
 exact hH J [0] J ⟨J,J⟩
theorem pM [GI:bD] {XE:Bk} {aa:List ai} {ak:ah} {r:bg×ah} (h:iQ aa ak=some r):aI Tryz.prog 194 [gz aa,.mG [.ptr XE 0]] [(XE,.cells [cC ak.L,I ak.at_])] (T0 ([(XE,.cells [cC r.2.L,I r.2.at_])]) (bg.av r.1)):=by
 unfold iQ at h
 refine aI.fD ?_
 refine aI.aZ Tryz.func194 J Tryz.ntmps194 Tryz.results194 J J ?_
 refine az<|bu J J J J fun b1=>rN<|az<|ae.qv (aJ J J J) J<|rM J J<|ax h fun v2 e1 h=>aR J (bE e1) cR (.cons .p1 .nil) J J<|ae.qv (bq J J J J J) J<|ay J J J J .p1 J J<|rN<|ab.ret<|?_
 cases h
 exact aj.here ⟨_,.cons (.all _ _ _ _ _ _ J .p1 aC.h aU.h J J) .nil,_,.cons .p0 .nil,⟨J,J⟩⟩
theorem Ja [GI:bD] {r:(List ai)} (h:xj=r):Pu Tryz.prog 195 [] (gz r):=by
 unfold xj at h
 refine aI.aZ Tryz.func195 J Tryz.ntmps195 Tryz.results195 J J ?_
 refine az<|rA J J<|rN<|az<|aF (xs:=([([61,61]:ai),([33,61]:ai),([60,61]:ai),([62,61]:ai),([60]:ai),([62]:ai)]).map AV.str) J J J J J J<|rA J J<|rN<|ab.ret<|?_
 obtain rfl:=h
 exact hP J J
theorem AK [GI:bD] {bn:Bk} {aa:ah} {r:Query×ah} (h:qY aa=some r):aI Tryz.prog 122 [.ptr bn 0] [(bn,.cells [cC aa.L,I aa.at_])] (T0 ([(bn,.cells [cC r.2.L,I r.2.at_])]) (.agg [I r.1.Kind,.str r.1.Field,.str r.1.Op,I r.1.Value.Kind,.bool r.1.Value.ch,I r.1.Value.Number,.str r.1.Value.Words,I r.1.Version.bP,I r.1.Version.bQ,I r.1.Version.bL,pb r.1.Kids])):=by
 unfold qY at h
 refine aI.fD ?_
 refine aI.aZ Tryz.func122 J Tryz.ntmps122 Tryz.results122 J J ?_
 refine az<|cJ J J J J fun b1=>ae.ghost<|aj.Xd (s:=1) J .p0<|aj.here<|bu J J J J fun b2=>rN<|az<|ae.qv (iv J) J<|rA J J<|rN<|az<|ae.qv (iv J) J<|rA J J<|rN<|tS<|az<|ae.qv (aJ J J J) J<|ax h fun v3 e1 h=>aR J (df e1) cR (.cons .p1 .nil) J J<|rN<|ab.block<|az<|ae.qv (cx J J) J<|rA J J<|rN<|cD h J (fun h=>?_) (fun h=>?_)
 ·refine az<|ae.qv (aJ J J J) J<|aF (xs:=([([116,97,103,46,115,105,116,101]:ai),([116,97,103,46,111,112,101,110]:ai),([112,114,111,112,46,97]:ai),([112,114,111,112,46,102,97,110,46,111,110]:ai)]).map AV.str) J J J J J J<|ax h fun v4 e2 h=>aR J (bE e2) cR (.cons .p0 .nil) J J<|ae.qv (bq J J J J J) J<|ay J J J J .p1 J J<|rN<|ab.ret<|?_
  cases h
  exact aj.yZ (j:=10) 11 .p1 J J J<|aj.here ⟨_,.cons (.all _ _ _ _ _ _ J .p1 aC.h aU.h J J) .nil,_,.cons .p0 .nil,⟨J,J⟩⟩
 ·refine az<|ae.qv (cx J J) J<|rA J J<|rN<|cD h J (fun h=>?_) (fun h=>?_)
  ·refine az<|rM J J<|ax h fun v5 e3 h=>rP J J J (mw e3) cR (.cons .p0 .nil) J J<|rM J J<|aF (xs:=([([100,97]:ai),([100,98]:ai),([102,114,101,115,104]:ai)]).map AV.str) J J J J J J<|ax h fun v6 e4 h=>rP J J J (pM e4) cR (.cons .p0 .nil) J J<|ae.qv (bq J J J J J) J<|ay J J J J .p1 J J<|rN<|ab.ret<|?_
   cases h
   exact aj.yZ (j:=10) 11 .p1 J J J<|aj.here ⟨_,.cons (.all _ _ _ _ _ _ J .p1 aC.h aU.h J J) .nil,_,.cons .p0 .nil,⟨J,J⟩⟩
  ·refine az<|ae.qv (cx J J) J<|rA J J<|rN<|cD h J (fun h=>?_) (fun h=>?_)
   ·refine az<|ae.qv (aJ J J J) J<|aF (xs:=([([109,111,100,101,108]:ai),([116,101,110,97,110,116]:ai)]).map AV.str) J J J J J J<|ax h fun v7 e5 h=>aR J (bE e5) cR (.cons .p0 .nil) J J<|rM J J<|ax h fun v8 e6 h=>rP J J J (mw e6) cR (.cons .p0 .nil) J J<|rM J J<|aF (xs:=([([109,97]:ai),([116,97]:ai),([]:ai),([81]:ai)]).map AV.str) J J J J J J<|ax h fun v9 e7 h=>rP J J J (pM e7) cR (.cons .p0 .nil) J J<|ae.qv (bq J J J J J) J<|ay J J J J .p1 J J<|rN<|ab.ret<|?_
    cases h
    exact aj.yZ (j:=10) 11 .p1 J J J<|aj.here ⟨_,.cons (.all _ _ _ _ _ _ J .p1 aC.h aU.h J J) .nil,_,.cons .p0 .nil,⟨J,J⟩⟩
   ·refine az<|ae.qv (cx J J) J<|rA J J<|rN<|cD h J (fun h=>?_) (fun h=>?_)
    ·refine tS<|ax h fun v10 e8 h=>ax h fun v11 e9 h=>ax h fun v12 Am h=>ab.kH (id:=11) (A:=[0,0,3,0,15,0,0,127,0,0,1023,2047,4095,8191]) (H0:=[(bn,.cells [cC v3.2.L,I v3.2.at_])]) (HH:=fun β=>[(bn,.cells [cC v12.2.L,I v12.2.at_]),(b2,.cells [I (0:Int),.str [],.str [],I (0:Int),.bool false,I (0:Int),.str [],I (0:Int),I (0:Int),I (0:Int),.nil])]) 10 mixed J (by kernel_rfl) (by kernel_rfl) [⟨none,some 2,[],fun _=>(bn,.cells [cC v3.2.L,I v3.2.at_]),none,[]⟩,⟨some 2,some 4,[],fun _=>(bn,.cells [cC v10.2.L,I v10.2.at_]),none,[]⟩,⟨some 4,some 7,[],fun _=>(bn,.cells [cC v11.2.L,I v11.2.at_]),none,[]⟩,⟨some 7,none,[],fun _=>(bn,.cells [cC v12.2.L,I v12.2.at_]),none,[]⟩] [] J (by kernel_rfl) J (.cons .p0 .nil) (fun _=>J)<|AT.am 2 J J<|AM.qv (aJ J J J) J<|AM.cT J (Ja J) cR J<|AM.nil<|AT.rk (av:=.str v10.1) (Ti:=[(bn,.cells [cC v3.2.L,I v3.2.at_])]) (Pi:=[(bn,.cells [cC v10.2.L,I v10.2.at_])]) (fun _=>J) (fun _=>J) (fun _=>J) J J J ?_ ?_
     ·exact aR J (bE e8) cR (.cons .p0 .nil) J J<|ae.nil ⟨_,J,J⟩
     refine AT.am 1 J J<|AM.qv (aJ J J J) J<|AM.nil<|AT.rk (av:=I v11.1) (Ti:=[(bn,.cells [cC v10.2.L,I v10.2.at_])]) (Pi:=[(bn,.cells [cC v11.2.L,I v11.2.at_])]) (fun _=>J) (fun _=>J) (fun _=>J) J J J ?_ ?_
     ·exact aR J (df e9) cR (.cons .p0 .nil) J J<|ae.nil ⟨_,J,J⟩
     refine AT.am 2 J J<|AM.qv (aJ J J J) J<|AM.a8 (xs:=([(0:Int),(2:Int)]).map I) J J J J J J<|AM.nil<|AT.rk (av:=I v12.1) (Ti:=[(bn,.cells [cC v11.2.L,I v11.2.at_])]) (Pi:=[(bn,.cells [cC v12.2.L,I v12.2.at_])]) (fun _=>J) (fun _=>J) (fun _=>J) J J J ?_ ?_
     ·exact aR J (cm Am) cR (.cons .p0 .nil) J J<|ae.nil ⟨_,J,J⟩
     refine AT.am 2 J J<|AM.qv (aJ J J J) J<|AM.a8 (xs:=([(0:Int),(0:Int),(9999:Int)]).map I) J J J J J J<|AM.nil<|AT.yF (fun _=>J) fun β=>ax h fun ma Bf h=>aR J (cm Bf) cR (.cons .p0 .nil) J J<|ae.qv (bq J J J J J) J<|ae.qv (bq J J J J J) J<|ay J J J J .p1 J J<|rN<|ab.ret<|?_
     cases h
     exact aj.yZ (j:=10) 11 .p1 J J J<|aj.here ⟨_,.cons (.all _ _ _ _ _ _ J .p1 aC.h aU.h J J) .nil,_,.cons .p0 .nil,⟨J,J⟩⟩
    ·refine az<|ae.qv (cx J J) J<|rA J J<|rN<|cD h J (fun h=>?_) (fun h=>?_)
     ·refine az<|rM J J<|ax h fun rl GF h=>rP J J J (mw GF) cR (.cons .p0 .nil) J J<|rM J J<|aF (xs:=([([120]:ai),([121]:ai),([97,34,98,92,99]:ai),([]:ai)]).map AV.str) J J J J J J<|ax h fun B3 G5 h=>rP J J J (pM G5) cR (.cons .p0 .nil) J J<|ae.qv (bq J J J J J) J<|ay J J J J .p1 J J<|rN<|ab.ret<|?_
      cases h
      exact aj.yZ (j:=10) 11 .p1 J J J<|aj.here ⟨_,.cons (.all _ _ _ _ _ _ J .p1 aC.h aU.h J J) .nil,_,.cons .p0 .nil,⟨J,J⟩⟩
     ·refine az<|ae.qv (cx J J) J<|rA J J<|rN<|cD h J (fun h=>?_) (fun h=>?_)
      ·refine tS<|ax h fun pf Pw h=>ab.kH (id:=15) (A:=[0,1,0,7,15,31,63]) (H0:=[(bn,.cells [cC v3.2.L,I v3.2.at_])]) (HH:=fun β=>[(bn,.cells [cC pf.2.L,I pf.2.at_]),(b2,.cells [I (0:Int),.str [],.str [],I (0:Int),.bool false,I (0:Int),.str [],I (0:Int),I (0:Int),I (0:Int),.nil])]) 3 mixed J (by kernel_rfl) (by kernel_rfl) [⟨none,some 1,[],fun _=>(bn,.cells [cC v3.2.L,I v3.2.at_]),none,[]⟩,⟨some 1,none,[],fun _=>(bn,.cells [cC pf.2.L,I pf.2.at_]),none,[]⟩] [] J (by kernel_rfl) J (.cons .p0 .nil) (fun _=>J)<|AT.am 1 J J<|AM.qv (aO J) J<|AM.nil<|AT.rk (av:=.str pf.1) (Ti:=[(bn,.cells [cC v3.2.L,I v3.2.at_])]) (Pi:=[(bn,.cells [cC pf.2.L,I pf.2.at_])]) (fun _=>J) (fun _=>J) (fun _=>J) J J J ?_ ?_
       ·exact rP J J J (mw Pw) cR (.cons .p0 .nil) J J<|ae.nil ⟨_,J,J⟩
       refine AT.am 1 J J<|AM.qv (aJ J J J) J<|AM.nil<|AT.yF (fun _=>J) fun β=>ax h fun v17 R4 h=>aR J (dY R4) cR (.cons .p0 .nil) J J<|ae.qv (bq J J J J J) J<|ae.qv (bq J J J J J) J<|ay J J J J .p1 J J<|rN<|ab.ret<|?_
       cases h
       exact aj.yZ (j:=10) 11 .p1 J J J<|aj.here ⟨_,.cons (.all _ _ _ _ _ _ J .p1 aC.h aU.h J J) .nil,_,.cons .p0 .nil,⟨J,J⟩⟩
      ·refine az<|ae.qv (cx J J) J<|rA J J<|rN<|cD h J (fun h=>?_) (fun h=>?_)
       ·refine az<|rM J J<|ax h fun oH R5 h=>rP J J J (mw R5) cR (.cons .p0 .nil) J J<|rM J J<|aF (xs:=([([120]:ai),([]:ai)]).map AV.str) J J J J J J<|ax h fun ik R6 h=>rP J J J (pM R6) cR (.cons .p0 .nil) J J<|ae.qv (bq J J J J J) J<|ay J J J J .p1 J J<|rN<|ab.ret<|?_
        cases h
        exact aj.yZ (j:=10) 11 .p1 J J J<|aj.here ⟨_,.cons (.all _ _ _ _ _ _ J .p1 aC.h aU.h J J) .nil,_,.cons .p0 .nil,⟨J,J⟩⟩
       ·refine tK<|ab.bX<|tS<|ax h fun v20 U3 h=>ab.kH (id:=18) (A:=[0,0,3,0,0,31,63,127,255]) (H0:=[(bn,.cells [cC v3.2.L,I v3.2.at_])]) (HH:=fun β=>[(bn,.cells [cC v20.2.L,I v20.2.at_]),(b2,.cells [I (0:Int),.str [],.str [],I (0:Int),.bool false,I (0:Int),.str [],I (0:Int),I (0:Int),I (0:Int),.nil])]) 5 mixed J (by kernel_rfl) (by kernel_rfl) [⟨none,some 2,[],fun _=>(bn,.cells [cC v3.2.L,I v3.2.at_]),none,[]⟩,⟨some 2,none,[],fun _=>(bn,.cells [cC v20.2.L,I v20.2.at_]),none,[]⟩] [] J (by kernel_rfl) J (.cons .p0 .nil) (fun _=>J)<|AT.am 2 J J<|AM.qv (aJ J J J) J<|AM.cT J (Ja J) cR J<|AM.nil<|AT.rk (av:=.str v20.1) (Ti:=[(bn,.cells [cC v3.2.L,I v3.2.at_])]) (Pi:=[(bn,.cells [cC v20.2.L,I v20.2.at_])]) (fun _=>J) (fun _=>J) (fun _=>J) J J J ?_ ?_
        ·exact aR J (bE U3) cR (.cons .p0 .nil) J J<|ae.nil ⟨_,J,J⟩
        refine AT.am 2 J J<|AM.qv (aJ J J J) J<|AM.a8 (xs:=([(0:Int),(5:Int),(6:Int),(-5:Int)]).map I) J J J J J J<|AM.nil<|AT.yF (fun _=>J) fun β=>ax h fun v21 Tw h=>aR J (cm Tw) cR (.cons .p0 .nil) J J<|ae.qv (bq J J J J J) J<|ae.qv (bq J J J J J) J<|ay J J J J .p1 J J<|rN<|ab.ret<|?_
        cases h
        exact aj.yZ (j:=10) 11 .p1 J J J<|aj.here ⟨_,.cons (.all _ _ _ _ _ _ J .p1 aC.h aU.h J J) .nil,_,.cons .p0 .nil,⟨J,J⟩⟩
theorem x9 [GI:bD] {bn:Bk} {self:ah→Int→Option (Query×ah)} (kJ:∀ {bn:Bk} {aa:ah} {ak:Int} {r:Query×ah},self aa ak=some r→aI Tryz.prog 119 [.ptr bn 0,I ak] [(bn,.cells [cC aa.L,I aa.at_])] (T0 ([(bn,.cells [cC r.2.L,I r.2.at_])]) (.agg [I r.1.Kind,.str r.1.Field,.str r.1.Op,I r.1.Value.Kind,.bool r.1.Value.ch,I r.1.Value.Number,.str r.1.Value.Words,I r.1.Version.bP,I r.1.Version.bQ,I r.1.Version.bL,pb r.1.Kids]))) {aa:ah} {ak:Int} {r:Query×ah} (h:fg self aa ak=some r):aI Tryz.prog 119 [.ptr bn 0,I ak] [(bn,.cells [cC aa.L,I aa.at_])] (T0 ([(bn,.cells [cC r.2.L,I r.2.at_])]) (.agg [I r.1.Kind,.str r.1.Field,.str r.1.Op,I r.1.Value.Kind,.bool r.1.Value.ch,I r.1.Value.Number,.str r.1.Value.Words,I r.1.Version.bP,I r.1.Version.bQ,I r.1.Version.bL,pb r.1.Kids])):=by
 unfold fg at h
 refine aI.fD ?_
 refine aI.aZ Tryz.func119 J Tryz.ntmps119 Tryz.results119 J J ?_
 refine az<|bu J J J J fun b1=>rN<|tS<|tS<|ab.cut (fun aE=>∃ (l2:List Int) (n3:Int) (c4:Bool),gm self ak l2 n3 c4=some r∧aE=⟨57,[(0,.ptr bn 0),(1,I ak),(4,.ptr b1 0),(13,.bool c4)],[(bn,.cells [cC l2,I n3]),(b1,.cells [I (0:Int),.str [],.str [],I (0:Int),.bool false,I (0:Int),.str [],I (0:Int),I (0:Int),I (0:Int),.nil])]⟩) ?_ ?_
 ·refine tR<|rM J J<|ae.qv (cx J J) J<|rM J J<|gF h J J J (fun h=>?_) (fun h=>?_)
  ·exact rM J J<|rY J J J<|ax h fun v5 e1 h=>aR J (dY e1) cR (.cons .p1 .nil) J J<|rE J J J<|rN<|ab.stop<|aj.lq [0,0] ⟨v5.2.L,v5.2.at_,v5.1,h,J⟩ J J
  ·exact rG J J J J<|rT J J J<|rN<|ab.stop<|aj.lq [1,0] ⟨aa.L,aa.at_,true,h,J⟩ J J
 ·rintro aE ⟨l2,n3,c4,h,rfl⟩
  unfold gm at h
  refine cB h J (fun h=>?_) (fun h=>?_)
  ·refine az<|rM J J<|ax h fun v6 e2 h=>aR J (AK e2) cR (.cons .p0 .nil) J J<|ay J J J J .p1 J J<|rN<|ab.ret<|?_
   cases h
   exact aj.here ⟨_,.cons (.all _ _ _ _ _ _ J .p1 aC.h aU.h J J) .nil,_,.cons .p0 .nil,⟨J,J⟩⟩
  ·refine tK<|az<|rM J J<|aF (xs:=([(3:Int),(4:Int),(5:Int)]).map I) J J J J J J<|ax h fun v7 e3 h=>aR J (cm e3) cR (.cons .p0 .nil) J J<|ae.qv (bq J J J J J) J<|bu J J J J fun b8=>ay J J J J .p0 J J<|rN<|az<|rA J J<|rN<|tS<|az<|rF J J J<|rL J J .p0 J J<|ae.qv (ei J J) J<|rN<|ab.cut (fun aE=>∃ (l9:List Int) (n10:Int) (n11:Int),gj self ak v7 l9 n10 n11=some r∧aE=⟨57,[(0,.ptr bn 0),(1,I ak),(4,.ptr b1 0),(5,.ptr b8 0),(6,I n11)],[(bn,.cells [cC l9,I n10]),(b1,.cells [I (0:Int),.str [],.str [],I (0:Int),.bool false,I (0:Int),.str [],I (0:Int),I (0:Int),I (0:Int),.nil]),(b8,.cells [I v7.1,.str [],.str [],I (0:Int),.bool false,I (0:Int),.str [],I (0:Int),I (0:Int),I (0:Int),.nil])]⟩) ?_ ?_
   ·refine cD h J (fun h=>?_) (fun h=>?_)
    ·exact tR<|rM J J<|aF (xs:=([(2:Int),(2:Int),(3:Int)]).map I) J J J J J J<|ax h fun v12 e4 h=>aR J (cm e4) cR (.cons .p1 .nil) J J<|rA J J<|rN<|ab.stop<|aj.lq [0,1,0] ⟨v12.2.L,v12.2.at_,v12.1,h,J⟩ J J
    ·exact tK<|ab.stop<|aj.lq [1,1,0] ⟨v7.2.L,v7.2.at_,(1:Int),h,J⟩ J J
   ·rintro aE ⟨l9,n10,n11,h,rfl⟩
    unfold gj at h
    refine tS<|az<|rM J J<|rM J J<|rN<|ab.block<|ab.bO (fun x:(List Int)×Int×(List Query)×Int=>iR self ak v7 n11 x.1 x.2.1 x.2.2.1 x.2.2.2) (fun x aE=>∃ (Wf:Bk),aE=⟨57,[(0,.ptr bn 0),(1,I ak),(4,.ptr b1 0),(5,.ptr b8 0),(26,I n11),(27,I x.2.2.2)],[(bn,.cells [cC x.1,I x.2.1]),(b1,.cells [I (0:Int),.str [],.str [],I (0:Int),.bool false,I (0:Int),.str [],I (0:Int),I (0:Int),I (0:Int),.nil]),(b8,.cells [I v7.1,.str [],.str [],I (0:Int),.bool false,I (0:Int),.str [],I (0:Int),I (0:Int),I (0:Int),.sl 11 Wf 0 x.2.2.1.length]),(Wf,UZ x.2.2.1)]⟩) h ?_ ?_
    ·exact aj.Fh (j:=10) 11 (fun _=>.p2) J (fun _=>J) (fun _=>J) fun Qh=>aj.lq [1,1,1,0] ⟨Qh,J⟩ J J
    ·intro x z1 aE J1 dh h im dN
     obtain ⟨BA,n19,JP,n22⟩:=x
     obtain ⟨Wf,rfl⟩:=dh
     replace h:iR self ak v7 n11 BA n19 JP n22=some z1:=h
     unfold iR at h
     refine az<|ae.qv (br J J) J<|rN<|tS<|cD h J (fun h=>?_) (fun h=>?_)
     ·refine tK<|tS<|ab.block<|az<|rM J J<|rM J J<|ae.qv (fm J J) J<|ax h fun v24 e5 h=>aR J (kJ e5) cR (.cons .p0 .nil) J J<|bu J J J J fun Tx=>ay J J J J .p0 J J<|rN<|tS<|ab.cut (fun aE=>∃ (JQ:Bool),kZ JP n22 v24 JQ=some z1∧aE=⟨57,[(0,.ptr bn 0),(1,I ak),(4,.ptr b1 0),(5,.ptr b8 0),(7,.ptr Tx 0),(26,I n11),(27,I n22),(42,.bool JQ)],[(bn,.cells [cC v24.2.L,I v24.2.at_]),(b1,.cells [I (0:Int),.str [],.str [],I (0:Int),.bool false,I (0:Int),.str [],I (0:Int),I (0:Int),I (0:Int),.nil]),(b8,.cells [I v7.1,.str [],.str [],I (0:Int),.bool false,I (0:Int),.str [],I (0:Int),I (0:Int),I (0:Int),.sl 11 Wf 0 JP.length]),(Wf,UZ JP),(Tx,.cells (xL v24.1))]⟩) ?_ ?_
      ·refine tR<|rF J J J<|rL J J .p0 J J<|rF J J J<|rL J J .p3 J J<|ae.qv (cx J J) J<|rM J J<|ae.cq J J J (fun hc=>?_) (fun hc=>?_)
       ·rw [rQ hc] at h
        exact rF J J J<|rY J J J<|rL J J .p3 J J<|rY J J J<|ae.qv (ei J J) J<|rT J J J<|rN<|ab.stop<|aj.lq [1,1,1,1,0] ⟨decide (v7.1≠(3:Int)),h,J⟩ J J
       ·rw [rR hc] at h
        exact rG J J J J<|rG J J J J<|rE J J J<|rN<|ab.stop<|aj.lq [1,1,1,1,0] ⟨false,h,J⟩ J J
      ·rintro aE ⟨JQ,h,rfl⟩
       unfold kZ at h
       refine ab.cut (fun aE=>∃ (Zr:Bk) (FA:List Query),gi n22 v24 FA=some z1∧aE=⟨57,[(0,.ptr bn 0),(1,I ak),(4,.ptr b1 0),(5,.ptr b8 0),(26,I n11),(27,I n22)],[(bn,.cells [cC v24.2.L,I v24.2.at_]),(b1,.cells [I (0:Int),.str [],.str [],I (0:Int),.bool false,I (0:Int),.str [],I (0:Int),I (0:Int),I (0:Int),.nil]),(b8,.cells [I v7.1,.str [],.str [],I (0:Int),.bool false,I (0:Int),.str [],I (0:Int),I (0:Int),I (0:Int),.sl 11 Zr 0 FA.length]),(Zr,UZ FA)]⟩) ?_ ?_
       ·refine cB h J (fun h=>?_) (fun h=>?_)
        ·exact tR<|rF J J J<|rL J J .p2 J J<|rF J J J<|rL J J .p4 J J<|ax h fun CK e6 h=>cU (g:=Query.av) J J J J J J J J (.list _) e6 (fun _=>.p3) J fun Zt=>rF J J J<|ay J J J J .p2 J J<|rN<|ab.stop<|aj.lq [0,0,0,0] ⟨Zt,CK,h,J⟩ J J
        ·exact tR<|rF J J J<|rL J J .p2 J J<|ae.qv (aA J J .p4 J) J<|aF (xs:=([v24.1]:List Query).map Query.av) J (by simp only [List.map_cons,List.map_nil,Query.um];rfl) J (by simp only [List.map_cons,List.map_nil,Query.um];rfl) J J<|ax h fun B4 e7 h=>cU (g:=Query.av) J J J J J J J J (.list _) e7 (fun _=>.p3) J fun Ty=>rF J J J<|ay J J J J .p2 J J<|rN<|ab.stop<|aj.lq [0,0,0,0] ⟨Ty,B4,h,J⟩ J J
       ·rintro aE ⟨Zr,FA,h,rfl⟩
        unfold gi at h
        refine ab.bX<|tR<|ae.qv (bf J J) J<|rM J J<|rN<|ab.stop<|?_
        cases h
        exact im _ _ J<|aj.lq [0,0,0,0] ⟨Zr,J⟩ J J
     ·refine ab.exit J<|have h:=bx h dN;az<|ae.qv (aA J J .p2 J) J<|ay J J J J .p1 J J<|rN<|ab.ret<|?_
      cases h
      exact aj.freeze .p3<|aj.BS (j:=10) .p1 J (Co.Ah .p3) J J<|aj.here ⟨_,.cons (.all _ _ _ _ _ _ J .p1 aC.h aU.h J J) .nil,_,.cons .p0 .nil,⟨J,J⟩⟩
theorem yI [GI:bD]:∀ (k:Nat) {bn:Bk} {aa:ah} {ak:Int} {r:Query×ah},eC k aa ak=some r→aI Tryz.prog 119 [.ptr bn 0,I ak] [(bn,.cells [cC aa.L,I aa.at_])] (T0 ([(bn,.cells [cC r.2.L,I r.2.at_])]) (.agg [I r.1.Kind,.str r.1.Field,.str r.1.Op,I r.1.Value.Kind,.bool r.1.Value.ch,I r.1.Value.Number,.str r.1.Value.Words,I r.1.Version.bP,I r.1.Version.bQ,I r.1.Version.bL,pb r.1.Kids])):=by
 intro k
 induction k with
 | zero=>intro bn aa ak r h;cases h
 | succ k ih=>intro bn aa ak r h;exact x9 ih h
theorem uV [GI:bD] {bn:Bk} {aa:ah} {ak:Int} {r:Query×ah} (h:rW aa ak=some r):aI Tryz.prog 119 [.ptr bn 0,I ak] [(bn,.cells [cC aa.L,I aa.at_])] (T0 ([(bn,.cells [cC r.2.L,I r.2.at_])]) (.agg [I r.1.Kind,.str r.1.Field,.str r.1.Op,I r.1.Value.Kind,.bool r.1.Value.ch,I r.1.Value.Number,.str r.1.Value.Words,I r.1.Version.bP,I r.1.Version.bQ,I r.1.Version.bL,pb r.1.Kids])):=yI depth h
theorem B9 [GI:bD] {bn:Bk} {aa:ah} {r:aW×ah} (h:ni aa=some r):aI Tryz.prog 41 [.ptr bn 0] [(bn,.cells [cC aa.L,I aa.at_])] (T4 (fun R7 R8 R9 Sa=>[(bn,.cells [cC r.2.L,I r.2.at_]),(R7,G3 r.1.ao),(R8,G4 r.1.bd),(R9,G0 r.1.aG),(Sa,K9 r.1.aK)]) (fun R7 R8 R9 Sa=>.agg [.sl 2 R7 0 r.1.ao.length,.sl 2 R8 0 r.1.bd.length,.sl 3 R9 0 r.1.aG.length,.sl 17 Sa 0 r.1.aK.length])):=by
 unfold ni at h
 refine aI.fD ?_
 refine aI.aZ Tryz.func41 J Tryz.ntmps41 Tryz.results41 J J ?_
 refine az<|bu J J J J fun b1=>rN<|az<|ae.qv (bq J J J J J) J<|ae.qv (bq J J J J J) J<|rM J J<|aF (xs:=([([116,98]:ai),([116,97]:ai),([]:ai)]).map AV.str) J J J J J J<|ax h fun v2 e1 h=>aR J (bE e1) cR (.cons .p1 .nil) J J<|ae.qv (bq J J J J J) J<|ae.qv (bq J J J J J) J<|rK J J J J J J fun b3=>ae.qv (bq J J J J J) J<|bu J J J J fun b4=>ay J J J J .p0 J J<|rN<|az<|aF (xs:=([([42]:ai)]).map AV.str) J J J J J J<|ae.qv (bq J J J J J) J<|rM J J<|ax h fun v5 e2 h=>aR J (wS e2) cR (.cons .p2 .nil) J J<|ae.qv (bq J J J J J) J<|aF (xs:=([([100,101,118,105,99,101,46,114,101,97,100]:ai)]).map AV.str) J J J J J J<|ae.qv (bq J J J J J) J<|rK J J J J J J fun b6=>rF J J J<|ay J J J J .p2 J J<|rN<|tS<|az<|aF (xs:=([([97,110,110]:ai),([98,111,98]:ai)]).map AV.str) J J J J J J<|ae.qv (bB J) J<|rM J J<|rN<|ab.block<|ab.bO (fun x:(List Int)×Int×(List aQ)×Int=>ku v2 v5 x.1 x.2.1 x.2.2.1 x.2.2.2) (fun x aE=>∃ (zj:Bk),aE=⟨110,[(0,.ptr bn 0),(2,.ptr b1 0),(3,.ptr b4 0),(32,gz [([97,110,110]:ai),([98,111,98]:ai)]),(33,I ([([97,110,110]:ai),([98,111,98]:ai)].length:Int)),(34,I x.2.2.2)],[(bn,.cells [cC x.1,I x.2.1]),(b1,.cells [.nil,.nil,.nil,.nil]),(b4,.cells [.sl 2 b3 0 [(⟨([116,97]:ai),[]⟩:au),(⟨([116,98]:ai),([116,97]:ai)⟩:au),(⟨([116,99]:ai),v2.1⟩:au),(⟨([116,100]:ai),[]⟩:au)].length,.sl 2 b6 0 [(⟨([97,100,109,105,110]:ai),[([42]:ai)]⟩:bH),(⟨([101,100,105,116]:ai),v5.1⟩:bH),(⟨([114,101,97,100]:ai),[([100,101,118,105,99,101,46,114,101,97,100]:ai)]⟩:bH)].length,.sl 3 zj 0 x.2.2.1.length,.nil]),(b3,G3 [(⟨([116,97]:ai),[]⟩:au),(⟨([116,98]:ai),([116,97]:ai)⟩:au),(⟨([116,99]:ai),v2.1⟩:au),(⟨([116,100]:ai),[]⟩:au)]),(b6,G4 [(⟨([97,100,109,105,110]:ai),[([42]:ai)]⟩:bH),(⟨([101,100,105,116]:ai),v5.1⟩:bH),(⟨([114,101,97,100]:ai),[([100,101,118,105,99,101,46,114,101,97,100]:ai)]⟩:bH)]),(zj,G0 x.2.2.1)]⟩) h ?_ ?_
 ·exact aj.Fh (j:=2) 3 (fun _=>.p2) J (fun _=>J) (fun _=>J) fun Qi=>aj.lq [2,4,2,2,1,0] ⟨Qi,J⟩ J J
 ·intro x z1 aE J1 dh h im dN
  obtain ⟨yG,n13,sK,n16⟩:=x
  obtain ⟨zj,rfl⟩:=dh
  replace h:ku v2 v5 yG n13 sK n16=some z1:=h
  unfold ku at h
  refine az<|ae.qv (br J J) J<|rN<|tS<|cD h J (fun h=>?_) (fun h=>?_)
  ·refine tK<|tS<|ab.block<|az<|ax h fun oH e3 h=>ae.qv (aS J J J e3 J J) J<|ae.qv (aJ J J J) J<|rA J J<|rN<|az<|aF (xs:=([([116,97]:ai),([116,98]:ai),([116,99]:ai),([116,100]:ai)]).map AV.str) J J J J J J<|ae.qv (bB J) J<|rM J J<|rN<|ab.block<|ab.bO (fun x:(List Int)×Int×(List aQ)×Int=>kq n16 oH x.1 x.2.1 x.2.2.1 x.2.2.2) (fun x aE=>∃ (La:Bk),aE=⟨110,[(0,.ptr bn 0),(2,.ptr b1 0),(3,.ptr b4 0),(5,.str oH),(32,gz [([97,110,110]:ai),([98,111,98]:ai)]),(33,I ([([97,110,110]:ai),([98,111,98]:ai)].length:Int)),(34,I n16),(38,gz [([116,97]:ai),([116,98]:ai),([116,99]:ai),([116,100]:ai)]),(39,I ([([116,97]:ai),([116,98]:ai),([116,99]:ai),([116,100]:ai)].length:Int)),(40,I x.2.2.2)],[(bn,.cells [cC x.1,I x.2.1]),(b1,.cells [.nil,.nil,.nil,.nil]),(b4,.cells [.sl 2 b3 0 [(⟨([116,97]:ai),[]⟩:au),(⟨([116,98]:ai),([116,97]:ai)⟩:au),(⟨([116,99]:ai),v2.1⟩:au),(⟨([116,100]:ai),[]⟩:au)].length,.sl 2 b6 0 [(⟨([97,100,109,105,110]:ai),[([42]:ai)]⟩:bH),(⟨([101,100,105,116]:ai),v5.1⟩:bH),(⟨([114,101,97,100]:ai),[([100,101,118,105,99,101,46,114,101,97,100]:ai)]⟩:bH)].length,.sl 3 La 0 x.2.2.1.length,.nil]),(b3,G3 [(⟨([116,97]:ai),[]⟩:au),(⟨([116,98]:ai),([116,97]:ai)⟩:au),(⟨([116,99]:ai),v2.1⟩:au),(⟨([116,100]:ai),[]⟩:au)]),(b6,G4 [(⟨([97,100,109,105,110]:ai),[([42]:ai)]⟩:bH),(⟨([101,100,105,116]:ai),v5.1⟩:bH),(⟨([114,101,97,100]:ai),[([100,101,118,105,99,101,46,114,101,97,100]:ai)]⟩:bH)]),(La,G0 x.2.2.1)]⟩) h ?_ ?_
   ·exact aj.lq [0,0,0,0,0,0] ⟨zj,J⟩ J J
   ·intro x z2 aE J2 dh h ya tY
    obtain ⟨wy,n25,Ba,n28⟩:=x
    obtain ⟨La,rfl⟩:=dh
    replace h:kq n16 oH wy n25 Ba n28=some z2:=h
    unfold kq at h
    refine az<|ae.qv (br J J) J<|rN<|tS<|cD h J (fun h=>?_) (fun h=>?_)
    ·refine tK<|tS<|ab.block<|az<|ax h fun FB e4 h=>ae.qv (aS J J J e4 J J) J<|ae.qv (aJ J J J) J<|rA J J<|rN<|az<|aF (xs:=([([97,100,109,105,110]:ai),([101,100,105,116]:ai),([114,101,97,100]:ai)]).map AV.str) J J J J J J<|ae.qv (bB J) J<|rM J J<|rN<|ab.block<|ab.bO (fun x:(List Int)×Int×(List aQ)×Int=>ko oH n28 FB x.1 x.2.1 x.2.2.1 x.2.2.2) (fun x aE=>∃ (N8:Bk),aE=⟨110,[(0,.ptr bn 0),(2,.ptr b1 0),(3,.ptr b4 0),(5,.str oH),(7,.str FB),(32,gz [([97,110,110]:ai),([98,111,98]:ai)]),(33,I ([([97,110,110]:ai),([98,111,98]:ai)].length:Int)),(34,I n16),(38,gz [([116,97]:ai),([116,98]:ai),([116,99]:ai),([116,100]:ai)]),(39,I ([([116,97]:ai),([116,98]:ai),([116,99]:ai),([116,100]:ai)].length:Int)),(40,I n28),(44,gz [([97,100,109,105,110]:ai),([101,100,105,116]:ai),([114,101,97,100]:ai)]),(45,I ([([97,100,109,105,110]:ai),([101,100,105,116]:ai),([114,101,97,100]:ai)].length:Int)),(46,I x.2.2.2)],[(bn,.cells [cC x.1,I x.2.1]),(b1,.cells [.nil,.nil,.nil,.nil]),(b4,.cells [.sl 2 b3 0 [(⟨([116,97]:ai),[]⟩:au),(⟨([116,98]:ai),([116,97]:ai)⟩:au),(⟨([116,99]:ai),v2.1⟩:au),(⟨([116,100]:ai),[]⟩:au)].length,.sl 2 b6 0 [(⟨([97,100,109,105,110]:ai),[([42]:ai)]⟩:bH),(⟨([101,100,105,116]:ai),v5.1⟩:bH),(⟨([114,101,97,100]:ai),[([100,101,118,105,99,101,46,114,101,97,100]:ai)]⟩:bH)].length,.sl 3 N8 0 x.2.2.1.length,.nil]),(b3,G3 [(⟨([116,97]:ai),[]⟩:au),(⟨([116,98]:ai),([116,97]:ai)⟩:au),(⟨([116,99]:ai),v2.1⟩:au),(⟨([116,100]:ai),[]⟩:au)]),(b6,G4 [(⟨([97,100,109,105,110]:ai),[([42]:ai)]⟩:bH),(⟨([101,100,105,116]:ai),v5.1⟩:bH),(⟨([114,101,97,100]:ai),[([100,101,118,105,99,101,46,114,101,97,100]:ai)]⟩:bH)]),(N8,G0 x.2.2.1)]⟩) h ?_ ?_
     ·exact aj.lq [0,0,0,0,0,0] ⟨La,J⟩ J J
     ·intro x z3 aE J3 dh h N9 Lb
      obtain ⟨we,n36,GA,n39⟩:=x
      obtain ⟨N8,rfl⟩:=dh
      replace h:ko oH n28 FB we n36 GA n39=some z3:=h
      unfold ko at h
      refine az<|ae.qv (br J J) J<|rN<|tS<|cD h J (fun h=>?_) (fun h=>?_)
      ·refine tK<|tS<|ab.block<|az<|ax h fun v40 e5 h=>ae.qv (aS J J J e5 J J) J<|ae.qv (aJ J J J) J<|rA J J<|rN<|az<|rM J J<|ax h fun v41 e6 h=>aR J (dY e6) cR (.cons .p0 .nil) J J<|rN<|ab.cut (fun aE=>∃ (JT:Bk) (IU:List aQ),kj n39 v41 IU=some z3∧aE=⟨110,[(0,.ptr bn 0),(2,.ptr b1 0),(3,.ptr b4 0),(5,.str oH),(7,.str FB),(32,gz [([97,110,110]:ai),([98,111,98]:ai)]),(33,I ([([97,110,110]:ai),([98,111,98]:ai)].length:Int)),(34,I n16),(38,gz [([116,97]:ai),([116,98]:ai),([116,99]:ai),([116,100]:ai)]),(39,I ([([116,97]:ai),([116,98]:ai),([116,99]:ai),([116,100]:ai)].length:Int)),(40,I n28),(44,gz [([97,100,109,105,110]:ai),([101,100,105,116]:ai),([114,101,97,100]:ai)]),(45,I ([([97,100,109,105,110]:ai),([101,100,105,116]:ai),([114,101,97,100]:ai)].length:Int)),(46,I n39)],[(bn,.cells [cC v41.2.L,I v41.2.at_]),(b1,.cells [.nil,.nil,.nil,.nil]),(b4,.cells [.sl 2 b3 0 [(⟨([116,97]:ai),[]⟩:au),(⟨([116,98]:ai),([116,97]:ai)⟩:au),(⟨([116,99]:ai),v2.1⟩:au),(⟨([116,100]:ai),[]⟩:au)].length,.sl 2 b6 0 [(⟨([97,100,109,105,110]:ai),[([42]:ai)]⟩:bH),(⟨([101,100,105,116]:ai),v5.1⟩:bH),(⟨([114,101,97,100]:ai),[([100,101,118,105,99,101,46,114,101,97,100]:ai)]⟩:bH)].length,.sl 3 JT 0 IU.length,.nil]),(b3,G3 [(⟨([116,97]:ai),[]⟩:au),(⟨([116,98]:ai),([116,97]:ai)⟩:au),(⟨([116,99]:ai),v2.1⟩:au),(⟨([116,100]:ai),[]⟩:au)]),(b6,G4 [(⟨([97,100,109,105,110]:ai),[([42]:ai)]⟩:bH),(⟨([101,100,105,116]:ai),v5.1⟩:bH),(⟨([114,101,97,100]:ai),[([100,101,118,105,99,101,46,114,101,97,100]:ai)]⟩:bH)]),(JT,G0 IU)]⟩) ?_ ?_
       ·refine cB h J (fun h=>?_) (fun h=>?_)
        ·exact tR<|rF J J J<|rL J J .p2 J J<|rM J J<|rM J J<|rM J J<|ae.qv (bq J J J J J) J<|aF (xs:=([(⟨oH,FB,v40⟩:aQ)]).map aQ.av) J J J J J J<|ax h fun US e7 h=>cU (g:=aQ.av) J J J J J J J J (.list _) e7 (fun _=>.p5) J fun Qj=>rF J J J<|ay J J J J .p2 J J<|rN<|ab.stop<|aj.lq [0,0,0,0,0,0] ⟨Qj,US,h,J⟩ J J
        ·exact tK<|ab.stop<|aj.lq [0,0,0,0,0,0] ⟨N8,GA,h,J⟩ J J
       ·rintro aE ⟨JT,IU,h,rfl⟩
        unfold kj at h
        refine ab.bX<|tR<|ae.qv (bf J J) J<|rM J J<|rN<|ab.stop<|?_
        cases h
        exact N9 _ _ J<|aj.lq [0,0,0,0,0,0] ⟨JT,J⟩ J J
      ·refine ab.exit J<|have h:=bx h Lb;ab.bX<|tR<|ae.qv (bf J J) J<|rM J J<|rN<|ab.stop<|?_
       cases h
       exact ya _ _ J<|aj.lq [0,0,0,0,0,0] ⟨N8,J⟩ J J
    ·refine ab.exit J<|have h:=bx h tY;ab.bX<|tR<|ae.qv (bf J J) J<|rM J J<|rN<|ab.stop<|?_
     cases h
     exact im _ _ J<|aj.lq [0,0,0,0,0,0] ⟨La,J⟩ J J
  ·refine ab.exit J<|have h:=bx h dN;tS<|az<|aF (xs:=([([115,97]:ai),([115,98]:ai)]).map AV.str) J J J J J J<|ae.qv (bB J) J<|rM J J<|rN<|ab.block<|ab.bO (fun x:(List Int)×Int×(List bl)×Int=>kr v2 v5 sK x.1 x.2.1 x.2.2.1 x.2.2.2) (fun x aE=>∃ (L8:Bk),aE=⟨110,[(0,.ptr bn 0),(2,.ptr b1 0),(3,.ptr b4 0),(64,gz [([115,97]:ai),([115,98]:ai)]),(65,I ([([115,97]:ai),([115,98]:ai)].length:Int)),(66,I x.2.2.2)],[(bn,.cells [cC x.1,I x.2.1]),(b1,.cells [.nil,.nil,.nil,.nil]),(b4,.cells [.sl 2 b3 0 [(⟨([116,97]:ai),[]⟩:au),(⟨([116,98]:ai),([116,97]:ai)⟩:au),(⟨([116,99]:ai),v2.1⟩:au),(⟨([116,100]:ai),[]⟩:au)].length,.sl 2 b6 0 [(⟨([97,100,109,105,110]:ai),[([42]:ai)]⟩:bH),(⟨([101,100,105,116]:ai),v5.1⟩:bH),(⟨([114,101,97,100]:ai),[([100,101,118,105,99,101,46,114,101,97,100]:ai)]⟩:bH)].length,.sl 3 zj 0 sK.length,.sl 17 L8 0 x.2.2.1.length]),(b3,G3 [(⟨([116,97]:ai),[]⟩:au),(⟨([116,98]:ai),([116,97]:ai)⟩:au),(⟨([116,99]:ai),v2.1⟩:au),(⟨([116,100]:ai),[]⟩:au)]),(b6,G4 [(⟨([97,100,109,105,110]:ai),[([42]:ai)]⟩:bH),(⟨([101,100,105,116]:ai),v5.1⟩:bH),(⟨([114,101,97,100]:ai),[([100,101,118,105,99,101,46,114,101,97,100]:ai)]⟩:bH)]),(zj,G0 sK),(L8,K9 x.2.2.1)]⟩) h ?_ ?_
   ·exact aj.Fh (j:=3) 17 (fun _=>.p2) J (fun _=>J) (fun _=>J) fun b56=>aj.lq [1,1,1,1,1,1,0] ⟨b56,J⟩ J J
   ·intro x z4 aE J4 dh h hJ4 Wg
    obtain ⟨Pm,n52,GC,EF⟩:=x
    obtain ⟨L8,rfl⟩:=dh
    replace h:kr v2 v5 sK Pm n52 GC EF=some z4:=h
    unfold kr at h
    refine az<|ae.qv (br J J) J<|rN<|tS<|cD h J (fun h=>?_) (fun h=>?_)
    ·refine tK<|tS<|ab.block<|az<|ax h fun P8 e8 h=>ae.qv (aS J J J e8 J J) J<|ae.qv (aJ J J J) J<|rA J J<|rN<|az<|rM J J<|ax h fun v58 e9 h=>aR J (dY e9) cR (.cons .p0 .nil) J J<|rN<|ab.cut (fun aE=>∃ (Zu:Bk) (Pl:List Int) (n60:Int) (FC:List bl),iy EF Pl n60 FC=some z4∧aE=⟨110,[(0,.ptr bn 0),(2,.ptr b1 0),(3,.ptr b4 0),(64,gz [([115,97]:ai),([115,98]:ai)]),(65,I ([([115,97]:ai),([115,98]:ai)].length:Int)),(66,I EF)],[(bn,.cells [cC Pl,I n60]),(b1,.cells [.nil,.nil,.nil,.nil]),(b4,.cells [.sl 2 b3 0 [(⟨([116,97]:ai),[]⟩:au),(⟨([116,98]:ai),([116,97]:ai)⟩:au),(⟨([116,99]:ai),v2.1⟩:au),(⟨([116,100]:ai),[]⟩:au)].length,.sl 2 b6 0 [(⟨([97,100,109,105,110]:ai),[([42]:ai)]⟩:bH),(⟨([101,100,105,116]:ai),v5.1⟩:bH),(⟨([114,101,97,100]:ai),[([100,101,118,105,99,101,46,114,101,97,100]:ai)]⟩:bH)].length,.sl 3 zj 0 sK.length,.sl 17 Zu 0 FC.length]),(b3,G3 [(⟨([116,97]:ai),[]⟩:au),(⟨([116,98]:ai),([116,97]:ai)⟩:au),(⟨([116,99]:ai),v2.1⟩:au),(⟨([116,100]:ai),[]⟩:au)]),(b6,G4 [(⟨([97,100,109,105,110]:ai),[([42]:ai)]⟩:bH),(⟨([101,100,105,116]:ai),v5.1⟩:bH),(⟨([114,101,97,100]:ai),[([100,101,118,105,99,101,46,114,101,97,100]:ai)]⟩:bH)]),(zj,G0 sK),(Zu,K9 FC)]⟩) ?_ ?_
     ·refine cB h J (fun h=>?_) (fun h=>?_)
      ·refine az<|rM J J<|aF (xs:=([(0:Int),(20:Int),(50:Int)]).map I) J J J J J J<|ax h fun P9 Am h=>aR J (cm Am) cR (.cons .p0 .nil) J J<|rA J J<|rN<|az<|rM J J<|rM J J<|aF (xs:=([([116,97]:ai),([116,98]:ai)]).map AV.str) J J J J J J<|ax h fun v64 Bf h=>aR J (bE Bf) cR (.cons .p0 .nil) J J<|rM J J<|rM J J<|aF (xs:=([(0:Int),(1:Int)]).map I) J J J J J J<|ax h fun v65 GF h=>aR J (cm GF) cR (.cons .p0 .nil) J J<|ax h fun v66 G5 h=>aR J (uV G5) cR (.cons .p0 .nil) J J<|rM J J<|ax h fun v67 Pw h=>aR J (wS Pw) cR (.cons .p0 .nil) J J<|rM J J<|rM J J<|rM J J<|aF (xs:=([(0:Int),(30:Int),(100:Int)]).map I) J J J J J J<|ax h fun EG R4 h=>aR J (cm R4) cR (.cons .p0 .nil) J J<|ae.qv (bf J J) J<|ae.qv (bq J J J J J) J<|ae.qv (bq J J J J J) J<|bu J J J J fun Tz=>ay J J J J .p0 J J<|rN<|tS<|az<|rM J J<|ax h fun v70 R5 h=>aR J (dY R5) cR (.cons .p1 .nil) J J<|rN<|ab.cut (fun aE=>∃ (YO:ai) (YP:ai),iz GC EF P8 P9 v66 v67 EG v70 YO YP=some z4∧aE=⟨110,[(0,.ptr bn 0),(2,.ptr b1 0),(3,.ptr b4 0),(13,.ptr Tz 0),(64,gz [([115,97]:ai),([115,98]:ai)]),(65,I ([([115,97]:ai),([115,98]:ai)].length:Int)),(66,I EF)],[(bn,.cells [cC v70.2.L,I v70.2.at_]),(b1,.cells [.nil,.nil,.nil,.nil]),(b4,.cells [.sl 2 b3 0 [(⟨([116,97]:ai),[]⟩:au),(⟨([116,98]:ai),([116,97]:ai)⟩:au),(⟨([116,99]:ai),v2.1⟩:au),(⟨([116,100]:ai),[]⟩:au)].length,.sl 2 b6 0 [(⟨([97,100,109,105,110]:ai),[([42]:ai)]⟩:bH),(⟨([101,100,105,116]:ai),v5.1⟩:bH),(⟨([114,101,97,100]:ai),[([100,101,118,105,99,101,46,114,101,97,100]:ai)]⟩:bH)].length,.sl 3 zj 0 sK.length,.sl 17 L8 0 GC.length]),(b3,G3 [(⟨([116,97]:ai),[]⟩:au),(⟨([116,98]:ai),([116,97]:ai)⟩:au),(⟨([116,99]:ai),v2.1⟩:au),(⟨([116,100]:ai),[]⟩:au)]),(b6,G4 [(⟨([97,100,109,105,110]:ai),[([42]:ai)]⟩:bH),(⟨([101,100,105,116]:ai),v5.1⟩:bH),(⟨([114,101,97,100]:ai),[([100,101,118,105,99,101,46,114,101,97,100]:ai)]⟩:bH)]),(zj,G0 sK),(L8,K9 GC),(Tz,.cells [.str P8,.str YO,.str YP,I v66.1.Kind,.str v66.1.Field,.str v66.1.Op,I v66.1.Value.Kind,.bool v66.1.Value.ch,I v66.1.Value.Number,.str v66.1.Value.Words,I v66.1.Version.bP,I v66.1.Version.bQ,I v66.1.Version.bL,pb v66.1.Kids,gz v67.1,I P9.1,I (cd (P9.1+EG.1))])]⟩) ?_ ?_
       ·refine cB h J (fun h=>?_) (fun h=>?_)
        ·exact tR<|rF J J J<|rL J J .p1 J J<|rF J J J<|rL J J .p1 J J<|rF J J J<|ay J J J J .p1 J J<|rF J J J<|ay J J J J .p1 J J<|rN<|ab.stop<|aj.lq [0,1,1,1,1,1,1,0] ⟨([116,100]:ai),v64.1,h,J⟩ J J
        ·exact tK<|ab.stop<|aj.lq [0,1,1,1,1,1,1,0] ⟨v64.1,([116,100]:ai),h,J⟩ J J
       ·rintro aE ⟨YO,YP,h,rfl⟩
        unfold iz at h
        exact tR<|rF J J J<|rL J J .p2 J J<|ae.qv (aA J J .p7 J) J<|aF (xs:=([(⟨P8,YO,YP,v66.1,v67.1,(⟨P9.1,cd (P9.1+EG.1)⟩:oM)⟩:bl)]).map bl.av) J J J J J J<|ax h fun Ts R6 h=>cU (g:=bl.av) J J J J J J J J (.list _) R6 (fun _=>.p6) J fun b74=>rF J J J<|ay J J J J .p2 J J<|rN<|ab.stop<|aj.lq [0,0,0,0,0,0,0] ⟨b74,v70.2.L,v70.2.at_,Ts,h,J⟩ J J
      ·exact tK<|ab.stop<|aj.lq [0,0,0,0,0,0,0] ⟨L8,v58.2.L,v58.2.at_,GC,h,J⟩ J J
     ·rintro aE ⟨Zu,Pl,n60,FC,h,rfl⟩
      unfold iy at h
      refine ab.bX<|tR<|ae.qv (bf J J) J<|rM J J<|rN<|ab.stop<|?_
      cases h
      exact hJ4 _ _ J<|aj.lq [0,0,0,0,0,0,0] ⟨Zu,J⟩ J J
    ·refine ab.exit J<|have h:=bx h Wg;az<|ae.qv (aA J J .p2 J) J<|ay J J J J .p1 J J<|rN<|ab.ret<|?_
     cases h
     exact aj.here ⟨_,.cons (.all _ _ _ _ _ _ J .p1 aC.h aU.h J J) .nil,_,.cons .p0 (.cons .p2 (.cons .p2 (.cons .p2 (.cons .p2 .nil)))),⟨b3,b6,zj,L8,J,J⟩⟩
theorem FK [GI:bD] {bn:Bk} {aa:ah} {ak:Int} {aP:Int} {r:Int×ah} (h:rZ aa ak aP=some r):aI Tryz.prog 123 [.ptr bn 0,I ak,I aP] [(bn,.cells [cC aa.L,I aa.at_])] (T0 ([(bn,.cells [cC r.2.L,I r.2.at_])]) (I r.1)):=by
 unfold rZ at h
 refine aI.fD ?_
 refine aI.aZ Tryz.func123 J Tryz.ntmps123 Tryz.results123 J J ?_
 refine az<|rA J J<|rN<|tS<|az<|rM J J<|rM J J<|ae.qv (br J J) J<|rN<|cD h J (fun h=>?_) (fun h=>?_)
 ·refine az<|rM J J<|rA J J<|rN<|ab.ret<|?_
  cases h
  exact hH J [0] J ⟨J,J⟩
 ·refine tK<|az<|rM J J<|rM J J<|rM J J<|rM J J<|ae.qv (fm J J) J<|ae.qv (bf J J) J<|ax h fun v1 e1 h=>aR J (df e1) cR (.cons .p0 .nil) J J<|ae.qv (bf J J) J<|rA J J<|rN<|ab.ret<|?_
  cases h
  exact hH J [0] J ⟨J,J⟩
theorem yb [GI:bD] {bn:Bk} {aa:ah} {ak:Int} {aP:Int} {r:Int×ah} (h:oP aa ak aP=some r):aI Tryz.prog 47 [.ptr bn 0,I ak,I aP] [(bn,.cells [cC aa.L,I aa.at_])] (T0 ([(bn,.cells [cC r.2.L,I r.2.at_])]) (I r.1)):=by
 unfold oP at h
 refine aI.fD ?_
 refine aI.aZ Tryz.func47 J Tryz.ntmps47 Tryz.results47 J J ?_
 refine az<|rA J J<|rN<|tS<|az<|rM J J<|ax h fun v1 e1 h=>aR J (dY e1) cR (.cons .p0 .nil) J J<|rN<|cB h J (fun h=>?_) (fun h=>?_)
 ·refine az<|rM J J<|rM J J<|ae.qv (fm J J) J<|rM J J<|ae.qv (bf J J) J<|rM J J<|rM J J<|aF (xs:=([cd (ak - (1:Int)),cd (aP+(1:Int)),ak,aP,(-1099511627776:Int),(1099511627776:Int)]).map I) J J J J J J<|ax h fun v2 e2 h=>aR J (cm e2) cR (.cons .p0 .nil) J J<|rA J J<|rN<|ab.ret<|?_
  cases h
  exact hH J [0] J ⟨J,J⟩
 ·refine tK<|az<|rM J J<|rM J J<|rM J J<|ax h fun v3 e3 h=>aR J (FK e3) cR (.cons .p0 .nil) J J<|rA J J<|rN<|ab.ret<|?_
  cases h
  exact hH J [0] J ⟨J,J⟩
theorem vG [GI:bD] {aa:List Query} {r:(List Query)} (h:iH aa=some r):aI Tryz.prog 121 [.list 11 (aa.map Query.av)] [] (T1 (fun kK=>[(kK,.arr 11 (r.map Query.av))]) (fun kK=>.sl 11 kK 0 r.length)):=by
 unfold iH at h
 refine aI.fD ?_
 refine aI.aZ Tryz.func121 J Tryz.ntmps121 Tryz.results121 J J ?_
 refine ab.seq ?_
 refine ab.region ?_
 refine ae.qv (bR J) J ?_
 refine ae.nil ?_
 refine ab.seq ?_
 refine ab.seq ?_
 refine ab.region ?_
 refine ae.qv (aO J) J ?_
 refine NM J J J J (fun c hc=>?_)
 refine ae.nil ?_
 refine ab.cond J (fun hT=>?_) (fun hF=>?_)
 ·obtain rfl:=BT h (List.map_eq_nil_iff.1 (hc hT))
  refine ab.seq ?_
  refine ab.region ?_
  refine ae.qv (bR J) J ?_
  refine ae.nil ?_
  refine ab.ret ?_
  refine aj.arr (s:=2) 11 J (fun b1=>?_)
  exact aj.here ⟨_,.cons (.tmp _ _ J) .nil,_,.cons .here .nil,⟨b1,J,J⟩⟩
 ·refine ab.skip ?_
  refine ab.seq ?_
  refine ab.region ?_
  refine rK (xs:=([]:List Query).map Query.av) J J J J J J (fun b2=>?_)
  refine ae.qv (aO J) J ?_
  refine cU (g:=Query.av) (Xs:=[]) J J J J J J J J (.list _) h (fun _=>.here) J (fun b3=>?_)
  refine ae.qv (bR J) J ?_
  refine ae.nil ?_
  refine ab.ret ?_
  exact aj.here ⟨_,.cons (.tmp _ _ J) .nil,_,.cons .here .nil,⟨b3,J,J⟩⟩
theorem FL [GI:bD] {bn:Bk} {aa:ah} {r:Query×ah} (h:r5 aa=some r):aI Tryz.prog 44 [.ptr bn 0] [(bn,.cells [cC aa.L,I aa.at_])] (T0 ([(bn,.cells [cC r.2.L,I r.2.at_])]) (.agg [I r.1.Kind,.str r.1.Field,.str r.1.Op,I r.1.Value.Kind,.bool r.1.Value.ch,I r.1.Value.Number,.str r.1.Value.Words,I r.1.Version.bP,I r.1.Version.bQ,I r.1.Version.bL,pb r.1.Kids])):=by
 unfold r5 at h
 refine aI.fD ?_
 refine aI.aZ Tryz.func44 J Tryz.ntmps44 Tryz.results44 J J ?_
 refine az<|bu J J J J fun b1=>rN<|az<|rM J J<|rM J J<|aF (xs:=([(0:Int),(1:Int),(1:Int),(2:Int)]).map I) J J J J J J<|ax h fun v2 e1 h=>aR J (cm e1) cR (.cons .p1 .nil) J J<|ax h fun v3 e2 h=>aR J (uV e2) cR (.cons .p0 .nil) J J<|bu J J J J fun b4=>ay J J J J .p0 J J<|rN<|tS<|az<|rM J J<|ax h fun v5 e3 h=>aR J (dY e3) cR (.cons .p1 .nil) J J<|rN<|ab.cut (fun aE=>∃ (l6:List Int) (n7:Int) (n8:Int) (q9:ai) (N2:ai) (n11:Int) (c12:Bool) (n13:Int) (Qa:ai) (n15:Int) (n16:Int) (n17:Int) (BA:List Query),nj l6 n7 n8 q9 N2 n11 c12 n13 Qa n15 n16 n17 BA=some r∧aE=⟨63,[(2,.ptr b1 0),(3,.ptr b4 0)],[(bn,.cells [cC l6,I n7]),(b1,.cells [I (0:Int),.str [],.str [],I (0:Int),.bool false,I (0:Int),.str [],I (0:Int),I (0:Int),I (0:Int),.nil]),(b4,.cells [I n8,.str q9,.str N2,I n11,.bool c12,I n13,.str Qa,I n15,I n16,I n17,pb BA])]⟩) ?_ ?_
 ·refine cB h J (fun h=>?_) (fun h=>?_)
  ·refine az<|rM J J<|ax h fun ik e4 h=>aR J (df e4) cR (.cons .p0 .nil) J J<|rN<|ab.block<|az<|ae.qv (cx J J) J<|rA J J<|rN<|ab.cut (fun aE=>∃ (CL:List Int) (n21:Int) (n22:Int) (YQ:ai) (YR:ai) (n25:Int) (JQ:Bool) (n27:Int) (Wd:ai) (n29:Int) (n30:Int) (n31:Int) (AH:List Query),qA CL n21 n22 YQ YR n25 JQ n27 Wd n29 n30 n31 AH=some r∧aE=⟨63,[(2,.ptr b1 0),(3,.ptr b4 0)],[(bn,.cells [cC CL,I n21]),(b1,.cells [I (0:Int),.str [],.str [],I (0:Int),.bool false,I (0:Int),.str [],I (0:Int),I (0:Int),I (0:Int),.nil]),(b4,.cells [I n22,.str YQ,.str YR,I n25,.bool JQ,I n27,.str Wd,I n29,I n30,I n31,pb AH])]⟩) ?_ ?_
   ·refine cD h J (fun h=>?_) (fun h=>?_)
    ·exact tR<|rM J J<|ax h fun v33 e5 h=>aR J (yb e5) cR (.cons .p0 .nil) J J<|rF J J J<|ay J J J J .p1 J J<|rN<|ab.stop<|aj.lq [0,1,0] ⟨v33.2.L,v33.2.at_,v33.1,v3.1.Field,v3.1.Op,v3.1.Value.Kind,v3.1.Value.ch,v3.1.Value.Number,v3.1.Value.Words,v3.1.Version.bP,v3.1.Version.bQ,v3.1.Version.bL,v3.1.Kids,h,J⟩ J J
    ·refine az<|ae.qv (cx J J) J<|rA J J<|rN<|ab.cut (fun aE=>∃ (FD:List Int) (n35:Int) (n36:Int) (YS:ai) (YT:ai) (n39:Int) (c40:Bool) (n41:Int) (YU:ai) (n43:Int) (n44:Int) (n45:Int) (EH:List Query),qB FD n35 n36 YS YT n39 c40 n41 YU n43 n44 n45 EH=some r∧aE=⟨63,[(2,.ptr b1 0),(3,.ptr b4 0)],[(bn,.cells [cC FD,I n35]),(b1,.cells [I (0:Int),.str [],.str [],I (0:Int),.bool false,I (0:Int),.str [],I (0:Int),I (0:Int),I (0:Int),.nil]),(b4,.cells [I n36,.str YS,.str YT,I n39,.bool c40,I n41,.str YU,I n43,I n44,I n45,pb EH])]⟩) ?_ ?_
     ·refine cD h J (fun h=>?_) (fun h=>?_)
      ·exact tR<|rM J J<|aF (xs:=([([]:ai),([110,111,112,101]:ai),([116,97,103,46]:ai),([116,97,103,46,65]:ai),([112,114,111,112,46,97,46]:ai),([107,101,121]:ai),([102,105,114,109,119,97,114,101]:ai)]).map AV.str) J J J J J J<|ax h fun GW e6 h=>aR J (bE e6) cR (.cons .p0 .nil) J J<|rF J J J<|ay J J J J .p1 J J<|rN<|ab.stop<|aj.lq [0,1,0] ⟨GW.2.L,GW.2.at_,v3.1.Kind,GW.1,v3.1.Op,v3.1.Value.Kind,v3.1.Value.ch,v3.1.Value.Number,v3.1.Value.Words,v3.1.Version.bP,v3.1.Version.bQ,v3.1.Version.bL,v3.1.Kids,h,J⟩ J J
      ·refine az<|ae.qv (cx J J) J<|rA J J<|rN<|ab.cut (fun aE=>∃ (YV:List Int) (n49:Int) (n50:Int) (YW:ai) (YX:ai) (Qb:Int) (YY:Bool) (EF:Int) (YZ:ai) (n57:Int) (Y0:Int) (n59:Int) (HW:List Query),qC YV n49 n50 YW YX Qb YY EF YZ n57 Y0 n59 HW=some r∧aE=⟨63,[(2,.ptr b1 0),(3,.ptr b4 0)],[(bn,.cells [cC YV,I n49]),(b1,.cells [I (0:Int),.str [],.str [],I (0:Int),.bool false,I (0:Int),.str [],I (0:Int),I (0:Int),I (0:Int),.nil]),(b4,.cells [I n50,.str YW,.str YX,I Qb,.bool YY,I EF,.str YZ,I n57,I Y0,I n59,pb HW])]⟩) ?_ ?_
       ·refine cD h J (fun h=>?_) (fun h=>?_)
        ·exact tR<|rM J J<|aF (xs:=([([]:ai),([61]:ai),([60]:ai),([61,61]:ai)]).map AV.str) J J J J J J<|ax h fun AI e7 h=>aR J (bE e7) cR (.cons .p0 .nil) J J<|rF J J J<|ay J J J J .p1 J J<|rN<|ab.stop<|aj.lq [0,1,0] ⟨AI.2.L,AI.2.at_,v3.1.Kind,v3.1.Field,AI.1,v3.1.Value.Kind,v3.1.Value.ch,v3.1.Value.Number,v3.1.Value.Words,v3.1.Version.bP,v3.1.Version.bQ,v3.1.Version.bL,v3.1.Kids,h,J⟩ J J
        ·refine az<|ae.qv (cx J J) J<|rA J J<|rN<|ab.cut (fun aE=>∃ (FC:List Int) (Pn:Int) (Y1:Int) (Po:ai) (Y2:ai) (Y3:Int) (Y4:Bool) (n69:Int) (Y5:ai) (Y6:Int) (Pp:Int) (Y7:Int) (N3:List Query),qD FC Pn Y1 Po Y2 Y3 Y4 n69 Y5 Y6 Pp Y7 N3=some r∧aE=⟨63,[(2,.ptr b1 0),(3,.ptr b4 0)],[(bn,.cells [cC FC,I Pn]),(b1,.cells [I (0:Int),.str [],.str [],I (0:Int),.bool false,I (0:Int),.str [],I (0:Int),I (0:Int),I (0:Int),.nil]),(b4,.cells [I Y1,.str Po,.str Y2,I Y3,.bool Y4,I n69,.str Y5,I Y6,I Pp,I Y7,pb N3])]⟩) ?_ ?_
         ·refine cD h J (fun h=>?_) (fun h=>?_)
          ·exact tR<|ae.qv (bq J J J J J) J<|ae.qv (bq J J J J J) J<|ae.qv (bq J J J J J) J<|ae.qv (bq J J J J J) J<|ae.qv (bq J J J J J) J<|aF (xs:=([(⟨(0:Int),false,(0:Int),[]⟩:bg),(⟨(9:Int),false,(0:Int),[]⟩:bg),(⟨(1:Int),false,(1:Int),[]⟩:bg),(⟨(3:Int),false,(0:Int),([255]:ai)⟩:bg),(⟨(2:Int),false,(1000000001:Int),[]⟩:bg)]).map bg.av) J J J J J J<|rM J J<|ax h fun v75 e8 h=>aR J (df e8) cR (.cons .p0 .nil) J J<|ax h fun v76 e9 h=>ae.qv (aS J J J e9 J J) J<|ae.qv (aM J J J) J<|rF J J J<|ay J J J J .p1 J J<|rN<|ab.stop<|aj.lq [0,1,0] ⟨v75.2.L,v75.2.at_,v3.1.Kind,v3.1.Field,v3.1.Op,v76.Kind,v76.ch,v76.Number,v76.Words,v3.1.Version.bP,v3.1.Version.bQ,v3.1.Version.bL,v3.1.Kids,h,J⟩ J J
          ·refine az<|ae.qv (cx J J) J<|rA J J<|rN<|ab.cut (fun aE=>∃ (N4:List Int) (Y8:Int) (Y9:Int) (Za:ai) (Zb:ai) (Pq:Int) (Zc:Bool) (Pr:Int) (Zd:ai) (Ze:Int) (Zf:Int) (Zg:Int) (Tt:List Query),qE N4 Y8 Y9 Za Zb Pq Zc Pr Zd Ze Zf Zg Tt=some r∧aE=⟨63,[(2,.ptr b1 0),(3,.ptr b4 0)],[(bn,.cells [cC N4,I Y8]),(b1,.cells [I (0:Int),.str [],.str [],I (0:Int),.bool false,I (0:Int),.str [],I (0:Int),I (0:Int),I (0:Int),.nil]),(b4,.cells [I Y9,.str Za,.str Zb,I Pq,.bool Zc,I Pr,.str Zd,I Ze,I Zf,I Zg,pb Tt])]⟩) ?_ ?_
           ·refine cD h J (fun h=>?_) (fun h=>?_)
            ·exact tR<|rF J J J<|rL J J .p1 J J<|ax h fun v90 Am h=>fV J (vG Am) cR .nil (fun _=>J) J fun b91=>rM J J<|ax h fun D6 Bf h=>aR J (AK Bf) cR (.cons .p1 .nil) J J<|aF (xs:=([D6.1]:List Query).map Query.av) J (by simp only [List.map_cons,List.map_nil,Query.um];rfl) J (by simp only [List.map_cons,List.map_nil,Query.um];rfl) J J<|ax h fun Xk GF h=>cU (g:=Query.av) J J J J J J J J (.list _) GF (fun _=>.p1) J fun b94=>rF J J J<|ay J J J J .p2 J J<|rN<|ab.stop<|aj.freeze .p1<|aj.BS (j:=10) .p2 J (Co.Ah .p1) J J<|aj.lq [0,2,1] ⟨D6.2.L,D6.2.at_,v3.1.Kind,v3.1.Field,v3.1.Op,v3.1.Value.Kind,v3.1.Value.ch,v3.1.Value.Number,v3.1.Value.Words,v3.1.Version.bP,v3.1.Version.bQ,v3.1.Version.bL,Xk,h,J⟩ J J
            ·refine az<|rM J J<|aF (xs:=([(18:Int),(19:Int),(20:Int)]).map I) J J J J J J<|ax h fun MG G5 h=>aR J (cm G5) cR (.cons .p0 .nil) J J<|rM J J<|rN<|ab.block<|ab.bO (fun x:Int×ai×ai×Int×Bool×Int×ai×Int×Int×Int×(List Query)×Int=>nk MG x.1 x.2.1 x.2.2.1 x.2.2.2.1 x.2.2.2.2.1 x.2.2.2.2.2.1 x.2.2.2.2.2.2.1 x.2.2.2.2.2.2.2.1 x.2.2.2.2.2.2.2.2.1 x.2.2.2.2.2.2.2.2.2.1 x.2.2.2.2.2.2.2.2.2.2.1 x.2.2.2.2.2.2.2.2.2.2.2) (fun x aE=>aE=⟨63,[(2,.ptr b1 0),(3,.ptr b4 0),(15,I MG.1),(16,I x.2.2.2.2.2.2.2.2.2.2.2)],[(bn,.cells [cC MG.2.L,I MG.2.at_]),(b1,.cells [I (0:Int),.str [],.str [],I (0:Int),.bool false,I (0:Int),.str [],I (0:Int),I (0:Int),I (0:Int),.nil]),(b4,.cells [I x.1,.str x.2.1,.str x.2.2.1,I x.2.2.2.1,.bool x.2.2.2.2.1,I x.2.2.2.2.2.1,.str x.2.2.2.2.2.2.1,I x.2.2.2.2.2.2.2.1,I x.2.2.2.2.2.2.2.2.1,I x.2.2.2.2.2.2.2.2.2.1,pb x.2.2.2.2.2.2.2.2.2.2.1])]⟩) h ?_ ?_
             ·exact aj.lq [0,1,0] J J J
             ·intro x z1 aE J1 dh h im dN
              obtain ⟨n108,KZ,K1,n111,K2,n113,K4,n115,n116,n117,K5,n119⟩:=x
              obtain rfl:=dh
              replace h:nk MG n108 KZ K1 n111 K2 n113 K4 n115 n116 n117 K5 n119=some z1:=h
              unfold nk at h
              refine az<|ae.qv (br J J) J<|rN<|tS<|cD h J (fun h=>?_) (fun h=>?_)
              ·refine tK<|tS<|ab.block<|tR<|ae.qv (aA J J .p2 J) J<|aF (xs:=([(⟨n108,KZ,K1,(⟨n111,K2,n113,K4⟩:bg),(⟨n115,n116,n117⟩:Version),K5⟩:Query)]).map Query.av) J (by simp only [List.map_cons,List.map_nil,Query.um];rfl) J (by simp only [List.map_cons,List.map_nil,Query.um];rfl) J J<|ae.qv (bq J J J J J) J<|ay J J J J .p2 J J<|rN<|ab.bX<|tR<|ae.qv (bf J J) J<|rM J J<|rN<|ab.stop<|?_
               cases h
               exact im _ _ J<|aj.lq [0,0,0] J J J
              ·exact ab.exit J<|have h:=bx h dN;ab.stop<|aj.lq [0,0,0] ⟨MG.2.L,MG.2.at_,n108,KZ,K1,n111,K2,n113,K4,n115,n116,n117,K5,h,J⟩ J J
           ·rintro aE ⟨N4,Y8,Y9,Za,Zb,Pq,Zc,Pr,Zd,Ze,Zf,Zg,Tt,h,rfl⟩
            unfold qE at h
            exact ab.stop<|aj.lq [0,0,0] ⟨N4,Y8,Y9,Za,Zb,Pq,Zc,Pr,Zd,Ze,Zf,Zg,Tt,h,J⟩ J J
         ·rintro aE ⟨FC,Pn,Y1,Po,Y2,Y3,Y4,n69,Y5,Y6,Pp,Y7,N3,h,rfl⟩
          unfold qD at h
          exact ab.stop<|aj.lq [0,0,0] ⟨FC,Pn,Y1,Po,Y2,Y3,Y4,n69,Y5,Y6,Pp,Y7,N3,h,J⟩ J J
       ·rintro aE ⟨YV,n49,n50,YW,YX,Qb,YY,EF,YZ,n57,Y0,n59,HW,h,rfl⟩
        unfold qC at h
        exact ab.stop<|aj.lq [0,0,0] ⟨YV,n49,n50,YW,YX,Qb,YY,EF,YZ,n57,Y0,n59,HW,h,J⟩ J J
     ·rintro aE ⟨FD,n35,n36,YS,YT,n39,c40,n41,YU,n43,n44,n45,EH,h,rfl⟩
      unfold qB at h
      exact ab.stop<|aj.lq [0,0,0] ⟨FD,n35,n36,YS,YT,n39,c40,n41,YU,n43,n44,n45,EH,h,J⟩ J J
   ·rintro aE ⟨CL,n21,n22,YQ,YR,n25,JQ,n27,Wd,n29,n30,n31,AH,h,rfl⟩
    unfold qA at h
    exact ab.bX<|ab.stop<|aj.lq [0,0,0] ⟨CL,n21,n22,YQ,YR,n25,JQ,n27,Wd,n29,n30,n31,AH,h,J⟩ J J
  ·exact tK<|ab.stop<|aj.lq [0,1,0] ⟨v5.2.L,v5.2.at_,v3.1.Kind,v3.1.Field,v3.1.Op,v3.1.Value.Kind,v3.1.Value.ch,v3.1.Value.Number,v3.1.Value.Words,v3.1.Version.bP,v3.1.Version.bQ,v3.1.Version.bL,v3.1.Kids,h,J⟩ J J
 ·rintro aE ⟨l6,n7,n8,q9,N2,n11,c12,n13,Qa,n15,n16,n17,BA,h,rfl⟩
  unfold nj at h
  refine az<|ae.qv (aA J J .p2 J) J<|ay J J J J .p1 J J<|rN<|ab.ret<|?_
  cases h
  exact aj.here ⟨_,.cons (.all _ _ _ _ _ _ J .p1 aC.h aU.h J J) .nil,_,.cons .p0 .nil,⟨J,J⟩⟩
theorem G6 [GI:bD] {bn:Bk} {aa:ah} {r:oM×ah} (h:uo aa=some r):aI Tryz.prog 46 [.ptr bn 0] [(bn,.cells [cC aa.L,I aa.at_])] (T0 ([(bn,.cells [cC r.2.L,I r.2.at_])]) (oM.av r.1)):=by
 unfold uo at h
 refine aI.fD ?_
 refine aI.aZ Tryz.func46 J Tryz.ntmps46 Tryz.results46 J J ?_
 refine az<|bu J J J J fun b1=>rN<|az<|rM J J<|aF (xs:=([(0:Int),(5:Int),(30:Int),(100:Int)]).map I) J J J J J J<|ax h fun v2 e1 h=>aR J (cm e1) cR (.cons .p1 .nil) J J<|rM J J<|aF (xs:=([(30:Int),(100:Int),(250:Int),(1000:Int),(345686400000:Int)]).map I) J J J J J J<|ax h fun v3 e2 h=>aR J (cm e2) cR (.cons .p0 .nil) J J<|ae.qv (bq J J J J J) J<|bu J J J J fun b4=>ay J J J J .p0 J J<|rN<|tS<|az<|rM J J<|ax h fun v5 e3 h=>aR J (dY e3) cR (.cons .p1 .nil) J J<|rN<|ab.cut (fun aE=>∃ (l6:List Int) (n7:Int) (n8:Int) (n9:Int),r6 l6 n7 n8 n9=some r∧aE=⟨21,[(2,.ptr b1 0),(3,.ptr b4 0)],[(bn,.cells [cC l6,I n7]),(b1,.cells [I (0:Int),I (0:Int)]),(b4,.cells [I n8,I n9])]⟩) ?_ ?_
 ·refine cB h J (fun h=>?_) (fun h=>?_)
  ·exact tR<|rM J J<|aF (xs:=([(-1:Int),(10:Int)]).map I) J J J J J J<|ax h fun v10 e4 h=>aR J (cm e4) cR (.cons .p0 .nil) J J<|rM J J<|aF (xs:=([(9:Int),(345686400001:Int)]).map I) J J J J J J<|ax h fun v11 e5 h=>aR J (cm e5) cR (.cons .p0 .nil) J J<|ae.qv (bq J J J J J) J<|ay J J J J .p1 J J<|rN<|ab.stop<|aj.lq [0,1,0] ⟨v11.2.L,v11.2.at_,v10.1,v11.1,h,J⟩ J J
  ·exact tK<|ab.stop<|aj.lq [0,1,0] ⟨v5.2.L,v5.2.at_,v2.1,v3.1,h,J⟩ J J
 ·rintro aE ⟨l6,n7,n8,n9,h,rfl⟩
  unfold r6 at h
  refine az<|ae.qv (aA J J .p2 J) J<|ay J J J J .p1 J J<|rN<|ab.ret<|?_
  cases h
  exact aj.here ⟨_,.cons (.all _ _ _ _ _ _ J .p1 aC.h aU.h J J) .nil,_,.cons .p0 .nil,⟨J,J⟩⟩
theorem Ca [GI:bD] {bn:Bk} {aa:ah} {r:aW×ah} (h:s0 aa=some r):aI Tryz.prog 6 [.ptr bn 0] [(bn,.cells [cC aa.L,I aa.at_])] (T0 ([(bn,.cells [cC r.2.L,I r.2.at_])]) (aW.av r.1)):=by
 unfold s0 at h
 refine aI.fD ?_
 refine aI.aZ Tryz.func6 J Tryz.ntmps6 Tryz.results6 J J ?_
 refine az<|bu J J J J fun b1=>rN<|az<|rM J J<|ax h fun v2 e1 h=>Ux J (B9 e1) cR (.cons .p1 .nil) (fun _ _ _ _=>J) J fun b3 b4 b5 b6=>bu J J J J fun b7=>ay J J J J .p0 J J<|rN<|tS<|az<|rM J J<|ax h fun v8 e2 h=>aR J (dY e2) cR (.cons .p1 .nil) J J<|rN<|ab.cut (fun aE=>∃ (Bg:Bk) (JU:Bk) (Lc:Bk) (Qi:Bk) (l9:List Int) (n10:Int) (yG:List au) (B5:List bH) (We:List aQ) (BA:List bl),pZ l9 n10 yG B5 We BA=some r∧aE=⟨112,[(2,.ptr b1 0),(3,.ptr b7 0)],[(bn,.cells [cC l9,I n10]),(b1,.cells [.nil,.nil,.nil,.nil]),(b7,.cells [.sl 2 Bg 0 yG.length,.sl 2 JU 0 B5.length,.sl 3 Lc 0 We.length,.sl 17 Qi 0 BA.length]),(Bg,G3 yG),(JU,G4 B5),(Lc,G0 We),(Qi,K9 BA)]⟩) ?_ ?_
 ·refine cB h J (fun h=>?_) (fun h=>?_)
  ·refine az<|rM J J<|ax h fun ik e3 h=>aR J (df e3) cR (.cons .p0 .nil) J J<|rN<|ab.block<|az<|ae.qv (cx J J) J<|rA J J<|rN<|ab.cut (fun aE=>∃ (Px:Bk) (Sb:Bk) (La:Bk) (Zv:Bk) (CL:List Int) (n21:Int) (N5:List au) (MH:List bH) (Ba:List aQ) (CK:List bl),tE CL n21 N5 MH Ba CK=some r∧aE=⟨112,[(2,.ptr b1 0),(3,.ptr b7 0)],[(bn,.cells [cC CL,I n21]),(b1,.cells [.nil,.nil,.nil,.nil]),(b7,.cells [.sl 2 Px 0 N5.length,.sl 2 Sb 0 MH.length,.sl 3 La 0 Ba.length,.sl 17 Zv 0 CK.length]),(Px,G3 N5),(Sb,G4 MH),(La,G0 Ba),(Zv,K9 CK)]⟩) ?_ ?_
   ·refine cD h J (fun h=>?_) (fun h=>?_)
    ·refine ax h fun v30 e4 h=>ax h fun v31 e5 h=>ab.kH (id:=7) (A:=[0,1,0,4,0,0,60,127,255,511]) (H0:=[(bn,.cells [cC ik.2.L,I ik.2.at_])]) (HH:=fun β=>[(bn,.cells [cC v31.2.L,I v31.2.at_]),(b7,.cells (Zq v2.1 b3 b4 b5 b6)),(b3,G3 v2.1.ao),(b4,G4 v2.1.bd),(b5,G0 v2.1.aG),(b6,K9 v2.1.aK),(b1,.cells [.nil,.nil,.nil,.nil])]) 7 mixed J (by kernel_rfl) (by kernel_rfl) [⟨none,some 3,[],fun _=>(bn,.cells [cC ik.2.L,I ik.2.at_]),none,[]⟩,⟨some 3,some 6,[],fun _=>(bn,.cells [cC v30.2.L,I v30.2.at_]),none,[]⟩,⟨some 6,none,[],fun _=>(bn,.cells [cC v31.2.L,I v31.2.at_]),none,[]⟩] [] J (by kernel_rfl) J (.cons .p0 .nil) (fun _=>J)<|AT.am 3 J J<|AM.qv (ar J J) J<|AM.qv (aD J J .p0 J) J<|AM.qv (aO J) J<|AM.nil<|AT.rk (av:=I v30.1) (Ti:=[(bn,.cells [cC ik.2.L,I ik.2.at_])]) (Pi:=[(bn,.cells [cC v30.2.L,I v30.2.at_])]) (fun _=>J) (fun _=>J) (fun _=>J) J J J ?_ ?_
     ·exact aR J (df e4) cR (.cons .p0 .nil) J J<|ae.nil ⟨_,J,J⟩
     refine AT.am 2 J J<|AM.qv (aO J) J<|AM.a8 (xs:=([([116,99]:ai),([116,97]:ai),([110,111,110,101]:ai),([116,98]:ai)]).map AV.str) J J J J J J<|AM.nil<|AT.rk (av:=.str v31.1) (Ti:=[(bn,.cells [cC v30.2.L,I v30.2.at_])]) (Pi:=[(bn,.cells [cC v31.2.L,I v31.2.at_])]) (fun _=>J) (fun _=>J) (fun _=>J) J J J ?_ ?_
     ·exact aR J (bE e5) cR (.cons .p0 .nil) J J<|ae.nil ⟨_,J,J⟩
     exact AT.yF (fun _=>J) fun β=>ax h fun v32 e6 h=>ae.qv (jk J J J e6) J<|ae.qv (BO J J) J<|wO (g:=au.av) (P7:=(⟨v32.Key,v31.1⟩:au)) J J J J e6 J .p2 J<|ae.ghost<|aj.eqs (s:=28) (rz:=.sl 2 b3 0 (v2.1.ao.set v30.1.toNat (⟨v32.Key,v31.1⟩:au)).length) J (by rw [List.length_set])<|aj.here<|ae.ghost<|aj.V0 (j:=0) (rz:=.sl 2 b3 0 (v2.1.ao.set v30.1.toNat (⟨v32.Key,v31.1⟩:au)).length) .p1 J (by rw [List.length_set]) J<|aj.here<|rN<|ab.stop<|aj.lq [0,5,0,0,0,0,0] ⟨b3,b4,b5,b6,v31.2.L,v31.2.at_,v2.1.ao.set v30.1.toNat (⟨v32.Key,v31.1⟩:au),v2.1.bd,v2.1.aG,v2.1.aK,h,J⟩ J J
    ·refine az<|ae.qv (cx J J) J<|rA J J<|rN<|ab.cut (fun aE=>∃ (L9:Bk) (N8:Bk) (Py:Bk) (MW:Bk) (FE:List Int) (n34:Int) (D7:List au) (GA:List bH) (GD:List aQ) (Ps:List bl),tF FE n34 D7 GA GD Ps=some r∧aE=⟨112,[(2,.ptr b1 0),(3,.ptr b7 0)],[(bn,.cells [cC FE,I n34]),(b1,.cells [.nil,.nil,.nil,.nil]),(b7,.cells [.sl 2 L9 0 D7.length,.sl 2 N8 0 GA.length,.sl 3 Py 0 GD.length,.sl 17 MW 0 Ps.length]),(L9,G3 D7),(N8,G4 GA),(Py,G0 GD),(MW,K9 Ps)]⟩) ?_ ?_
     ·refine cD h J (fun h=>?_) (fun h=>?_)
      ·refine ax h fun RH e7 h=>ax h fun v44 e8 h=>ab.kH (id:=9) (A:=[0,1,0,0,12,0,0,124,252,508,1023,2047,4095]) (H0:=[(bn,.cells [cC ik.2.L,I ik.2.at_])]) (HH:=fun β=>[(bn,.cells [cC v44.2.L,I v44.2.at_]),(b7,.cells (Zq v2.1 b3 b4 b5 b6)),(b3,G3 v2.1.ao),(b4,G4 v2.1.bd),(b5,G0 v2.1.aG),(b6,K9 v2.1.aK),(b1,.cells [.nil,.nil,.nil,.nil])]) 10 mixed J (by kernel_rfl) (by kernel_rfl) [⟨none,some 4,[],fun _=>(bn,.cells [cC ik.2.L,I ik.2.at_]),none,[]⟩,⟨some 4,some 7,[],fun _=>(bn,.cells [cC RH.2.L,I RH.2.at_]),none,[]⟩,⟨some 7,none,[],fun _=>(bn,.cells [cC v44.2.L,I v44.2.at_]),none,[]⟩] [] J (by kernel_rfl) J (.cons .p0 .nil) (fun _=>J)<|AT.am 4 J J<|AM.qv (ar J J) J<|AM.qv (aD J J .p0 J) J<|AM.qv (aO J) J<|AM.a8 (xs:=([([]:ai),([116,97]:ai),([116,122]:ai)]).map AV.str) J J J J J J<|AM.nil<|AT.rk (av:=.str RH.1) (Ti:=[(bn,.cells [cC ik.2.L,I ik.2.at_])]) (Pi:=[(bn,.cells [cC RH.2.L,I RH.2.at_])]) (fun _=>J) (fun _=>J) (fun _=>J) J J J ?_ ?_
       ·exact aR J (bE e7) cR (.cons .p0 .nil) J J<|ae.nil ⟨_,J,J⟩
       refine AT.am 2 J J<|AM.qv (aO J) J<|AM.a8 (xs:=([([]:ai),([116,100]:ai)]).map AV.str) J J J J J J<|AM.nil<|AT.rk (av:=.str v44.1) (Ti:=[(bn,.cells [cC RH.2.L,I RH.2.at_])]) (Pi:=[(bn,.cells [cC v44.2.L,I v44.2.at_])]) (fun _=>J) (fun _=>J) (fun _=>J) J J J ?_ ?_
       ·exact aR J (bE e8) cR (.cons .p0 .nil) J J<|ae.nil ⟨_,J,J⟩
       exact AT.am 2 J J<|AM.qv (bq J J J J J) J<|AM.a8 (xs:=([(⟨RH.1,v44.1⟩:au)]).map au.av) J J J J J J<|AM.nil<|AT.yF (fun _=>J) fun β=>ax h fun UT e9 h=>cU (g:=au.av) J J J J J J J J (.list _) e9 (fun _=>.p2) J fun Wh=>rF J J J<|ay J J J J .p1 J J<|rN<|ab.stop<|aj.lq [0,5,0,0,0,0,0] ⟨Wh,b4,b5,b6,v44.2.L,v44.2.at_,UT,v2.1.bd,v2.1.aG,v2.1.aK,h,J⟩ J J
      ·refine az<|ae.qv (cx J J) J<|rA J J<|rN<|ab.cut (fun aE=>∃ (U4:Bk) (b51:Bk) (L8:Bk) (K6:List Int) (n48:Int) (Xl:List bH) (K7:List aQ) (GC:List bl),tG v2 K6 n48 Xl K7 GC=some r∧aE=⟨112,[(2,.ptr b1 0),(3,.ptr b7 0)],[(bn,.cells [cC K6,I n48]),(b1,.cells [.nil,.nil,.nil,.nil]),(b7,.cells [.sl 2 b3 0 v2.1.ao.length,.sl 2 U4 0 Xl.length,.sl 3 b51 0 K7.length,.sl 17 L8 0 GC.length]),(b3,G3 v2.1.ao),(U4,G4 Xl),(b51,G0 K7),(L8,K9 GC)]⟩) ?_ ?_
       ·refine cD h J (fun h=>?_) (fun h=>?_)
        ·refine ax h fun v55 Am h=>ax h fun IV Bf h=>ax h fun P8 GF h=>ab.kH (id:=11) (A:=[0,1,0,0,12,0,0,0,0,0,992,0,2076,8188,16380,32764,65532,131071,262143,524287]) (H0:=[(bn,.cells [cC ik.2.L,I ik.2.at_])]) (HH:=fun β=>[(bn,.cells [cC IV.2.L,I IV.2.at_]),(b7,.cells (Zq v2.1 b3 b4 b5 b6)),(b3,G3 v2.1.ao),(b4,G4 v2.1.bd),(b5,G0 v2.1.aG),(b6,K9 v2.1.aK),(b1,.cells [.nil,.nil,.nil,.nil])]) 17 mixed J (by kernel_rfl) (by kernel_rfl) [⟨none,some 4,[],fun _=>(bn,.cells [cC ik.2.L,I ik.2.at_]),none,[]⟩,⟨some 4,some 12,[],fun _=>(bn,.cells [cC v55.2.L,I v55.2.at_]),none,[]⟩,⟨some 12,none,[],fun _=>(bn,.cells [cC IV.2.L,I IV.2.at_]),none,[]⟩] [] J (by kernel_rfl) J (.cons .p0 .nil) (fun _=>J)<|AT.am 4 J J<|AM.qv (ar J J) J<|AM.qv (aD J J .p0 J) J<|AM.qv (aO J) J<|AM.a8 (xs:=([([]:ai),([114,101,97,100]:ai),([122,122]:ai)]).map AV.str) J J J J J J<|AM.nil<|AT.rk (av:=.str v55.1) (Ti:=[(bn,.cells [cC ik.2.L,I ik.2.at_])]) (Pi:=[(bn,.cells [cC v55.2.L,I v55.2.at_])]) (fun _=>J) (fun _=>J) (fun _=>J) J J J ?_ ?_
         ·exact aR J (bE Am) cR (.cons .p0 .nil) J J<|ae.nil ⟨_,J,J⟩
         refine AT.am 7 J J<|AM.a8 (xs:=([([97,42]:ai)]).map AV.str) J J J J J J<|AM.a8 (xs:=([([42,46,97]:ai)]).map AV.str) J J J J J J<|AM.a8 (xs:=([([98]:ai),([97]:ai)]).map AV.str) J J J J J J<|AM.a8 (xs:=([([97,46,98,46,99,46,100,46,101,46,102]:ai)]).map AV.str) J J J J J J<|AM.a8 (xs:=([([97,46,42]:ai)]).map AV.str) J J J J J J<|AM.DF (xs:=[.nil,gz [([97,42]:ai)],gz [([42,46,97]:ai)],gz [([98]:ai),([97]:ai)],gz [([97,46,98,46,99,46,100,46,101,46,102]:ai)],gz [([97,46,42]:ai)]]) (av:=.list 1 (([[],[([97,42]:ai)],[([42,46,97]:ai)],[([98]:ai),([97]:ai)],[([97,46,98,46,99,46,100,46,101,46,102]:ai)],[([97,46,42]:ai)]]:List (List ai)).map (A6 1 AV.str))) J J J J J J (Fi.Rf (.cons .n (.cons .r (.cons .r (.cons .r (.cons .r (.cons .r .nil)))))) J J)<|AM.qv (aO J) J<|AM.nil<|AT.rk (av:=I IV.1) (Ti:=[(bn,.cells [cC v55.2.L,I v55.2.at_])]) (Pi:=[(bn,.cells [cC IV.2.L,I IV.2.at_])]) (fun _=>J) (fun _=>J) (fun _=>J) J J J ?_ ?_
         ·exact aR J (df Bf) cR (.cons .p0 .nil) J J<|ae.nil ⟨_,J,J⟩
         exact AT.am 4 J J<|AM.qv (aS J J J GF J J) J<|AM.qv (aJ J J J) J<|AM.qv (bq J J J J J) J<|AM.a8 (xs:=([(⟨v55.1,P8⟩:bH)]).map bH.av) J J J J J J<|AM.nil<|AT.yF (fun _=>J) fun β=>ax h fun Tu G5 h=>cU (g:=bH.av) J J J J J J J J (.list _) G5 (fun _=>.p3) J fun b59=>rF J J J<|ay J J J J .p1 J J<|rN<|ab.stop<|aj.lq [0,5,0,0,0,0,0] ⟨b59,b5,b6,IV.2.L,IV.2.at_,Tu,v2.1.aG,v2.1.aK,h,J⟩ J J
        ·refine az<|ae.qv (cx J J) J<|rA J J<|rN<|ab.cut (fun aE=>∃ (Zw:Bk) (b64:Bk) (HW:List Int) (n61:Int) (Xm:List aQ) (Xn:List bl),tH v2 HW n61 Xm Xn=some r∧aE=⟨112,[(2,.ptr b1 0),(3,.ptr b7 0)],[(bn,.cells [cC HW,I n61]),(b1,.cells [.nil,.nil,.nil,.nil]),(b7,.cells [.sl 2 b3 0 v2.1.ao.length,.sl 2 b4 0 v2.1.bd.length,.sl 3 Zw 0 Xm.length,.sl 17 b64 0 Xn.length]),(b3,G3 v2.1.ao),(b4,G4 v2.1.bd),(Zw,G0 Xm),(b64,K9 Xn)]⟩) ?_ ?_
         ·refine cD h J (fun h=>?_) (fun h=>?_)
          ·refine ax h fun v66 Pw h=>ax h fun v67 R4 h=>ax h fun EG R5 h=>ab.kH (id:=13) (A:=[0,1,0,0,12,0,0,124,0,0,1020,2044,4092,8191,16383,32767]) (H0:=[(bn,.cells [cC ik.2.L,I ik.2.at_])]) (HH:=fun β=>[(bn,.cells [cC EG.2.L,I EG.2.at_]),(b7,.cells (Zq v2.1 b3 b4 b5 b6)),(b3,G3 v2.1.ao),(b4,G4 v2.1.bd),(b5,G0 v2.1.aG),(b6,K9 v2.1.aK),(b1,.cells [.nil,.nil,.nil,.nil])]) 13 mixed J (by kernel_rfl) (by kernel_rfl) [⟨none,some 4,[],fun _=>(bn,.cells [cC ik.2.L,I ik.2.at_]),none,[]⟩,⟨some 4,some 7,[],fun _=>(bn,.cells [cC v66.2.L,I v66.2.at_]),none,[]⟩,⟨some 7,some 10,[],fun _=>(bn,.cells [cC v67.2.L,I v67.2.at_]),none,[]⟩,⟨some 10,none,[],fun _=>(bn,.cells [cC EG.2.L,I EG.2.at_]),none,[]⟩] [] J (by kernel_rfl) J (.cons .p0 .nil) (fun _=>J)<|AT.am 4 J J<|AM.qv (ar J J) J<|AM.qv (aD J J .p0 J) J<|AM.qv (aO J) J<|AM.a8 (xs:=([([]:ai),([97,110,110]:ai),([122,101,100]:ai)]).map AV.str) J J J J J J<|AM.nil<|AT.rk (av:=.str v66.1) (Ti:=[(bn,.cells [cC ik.2.L,I ik.2.at_])]) (Pi:=[(bn,.cells [cC v66.2.L,I v66.2.at_])]) (fun _=>J) (fun _=>J) (fun _=>J) J J J ?_ ?_
           ·exact aR J (bE Pw) cR (.cons .p0 .nil) J J<|ae.nil ⟨_,J,J⟩
           refine AT.am 2 J J<|AM.qv (aO J) J<|AM.a8 (xs:=([([116,97]:ai),([110,111,110,101]:ai)]).map AV.str) J J J J J J<|AM.nil<|AT.rk (av:=.str v67.1) (Ti:=[(bn,.cells [cC v66.2.L,I v66.2.at_])]) (Pi:=[(bn,.cells [cC v67.2.L,I v67.2.at_])]) (fun _=>J) (fun _=>J) (fun _=>J) J J J ?_ ?_
           ·exact aR J (bE R4) cR (.cons .p0 .nil) J J<|ae.nil ⟨_,J,J⟩
           refine AT.am 2 J J<|AM.qv (aO J) J<|AM.a8 (xs:=([([114,101,97,100]:ai),([110,111,110,101]:ai)]).map AV.str) J J J J J J<|AM.nil<|AT.rk (av:=.str EG.1) (Ti:=[(bn,.cells [cC v67.2.L,I v67.2.at_])]) (Pi:=[(bn,.cells [cC EG.2.L,I EG.2.at_])]) (fun _=>J) (fun _=>J) (fun _=>J) J J J ?_ ?_
           ·exact aR J (bE R5) cR (.cons .p0 .nil) J J<|ae.nil ⟨_,J,J⟩
           exact AT.am 2 J J<|AM.qv (bq J J J J J) J<|AM.a8 (xs:=([(⟨v66.1,v67.1,EG.1⟩:aQ)]).map aQ.av) J J J J J J<|AM.nil<|AT.yF (fun _=>J) fun β=>ax h fun l69 R6 h=>cU (g:=aQ.av) J J J J J J J J (.list _) R6 (fun _=>.p4) J fun b70=>rF J J J<|ay J J J J .p1 J J<|rN<|ab.stop<|aj.lq [0,5,0,0,0,0,0] ⟨b70,b6,EG.2.L,EG.2.at_,l69,v2.1.aK,h,J⟩ J J
          ·refine az<|ae.qv (cx J J) J<|rA J J<|rN<|ab.cut (fun aE=>∃ (Zx:Bk) (Zh:List Int) (Pp:Int) (N3:List bl),tI v2 Zh Pp N3=some r∧aE=⟨112,[(2,.ptr b1 0),(3,.ptr b7 0)],[(bn,.cells [cC Zh,I Pp]),(b1,.cells [.nil,.nil,.nil,.nil]),(b7,.cells [.sl 2 b3 0 v2.1.ao.length,.sl 2 b4 0 v2.1.bd.length,.sl 3 b5 0 v2.1.aG.length,.sl 17 Zx 0 N3.length]),(b3,G3 v2.1.ao),(b4,G4 v2.1.bd),(b5,G0 v2.1.aG),(Zx,K9 N3)]⟩) ?_ ?_
           ·refine cD h J (fun h=>?_) (fun h=>?_)
            ·refine ax h fun v75 U3 h=>ax h fun v76 Tw h=>ax h fun v77 Wi h=>ax h fun v78 Wj h=>ax h fun v79 XF h=>ax h fun v80 e23 h=>ab.kH (id:=15) (A:=[0,1,0,0,12,0,0,124,0,0,1020,0,4092,0,16380,0,65532,131068,262140,524287,1048575,2097151]) (H0:=[(bn,.cells [cC ik.2.L,I ik.2.at_])]) (HH:=fun β=>[(bn,.cells [cC v80.2.L,I v80.2.at_]),(b7,.cells (Zq v2.1 b3 b4 b5 b6)),(b3,G3 v2.1.ao),(b4,G4 v2.1.bd),(b5,G0 v2.1.aG),(b6,K9 v2.1.aK),(b1,.cells [.nil,.nil,.nil,.nil])]) 19 mixed J (by kernel_rfl) (by kernel_rfl) [⟨none,some 4,[],fun _=>(bn,.cells [cC ik.2.L,I ik.2.at_]),none,[]⟩,⟨some 4,some 7,[],fun _=>(bn,.cells [cC v75.2.L,I v75.2.at_]),none,[]⟩,⟨some 7,some 10,[],fun _=>(bn,.cells [cC v76.2.L,I v76.2.at_]),none,[]⟩,⟨some 10,some 12,[],fun _=>(bn,.cells [cC v77.2.L,I v77.2.at_]),none,[]⟩,⟨some 12,some 14,[],fun _=>(bn,.cells [cC v78.2.L,I v78.2.at_]),none,[]⟩,⟨some 14,some 16,[],fun _=>(bn,.cells [cC v79.2.L,I v79.2.at_]),none,[]⟩,⟨some 16,none,[],fun _=>(bn,.cells [cC v80.2.L,I v80.2.at_]),none,[]⟩] [] J (by kernel_rfl) J (.cons .p0 .nil) (fun _=>J)<|AT.am 4 J J<|AM.qv (ar J J) J<|AM.qv (aD J J .p0 J) J<|AM.qv (aO J) J<|AM.a8 (xs:=([([]:ai),([115,97]:ai),([115,122]:ai)]).map AV.str) J J J J J J<|AM.nil<|AT.rk (av:=.str v75.1) (Ti:=[(bn,.cells [cC ik.2.L,I ik.2.at_])]) (Pi:=[(bn,.cells [cC v75.2.L,I v75.2.at_])]) (fun _=>J) (fun _=>J) (fun _=>J) J J J ?_ ?_
             ·exact aR J (bE U3) cR (.cons .p0 .nil) J J<|ae.nil ⟨_,J,J⟩
             refine AT.am 2 J J<|AM.qv (aO J) J<|AM.a8 (xs:=([([116,97]:ai),([110,111,110,101]:ai),([116,100]:ai)]).map AV.str) J J J J J J<|AM.nil<|AT.rk (av:=.str v76.1) (Ti:=[(bn,.cells [cC v75.2.L,I v75.2.at_])]) (Pi:=[(bn,.cells [cC v76.2.L,I v76.2.at_])]) (fun _=>J) (fun _=>J) (fun _=>J) J J J ?_ ?_
             ·exact aR J (bE Tw) cR (.cons .p0 .nil) J J<|ae.nil ⟨_,J,J⟩
             refine AT.am 2 J J<|AM.qv (aO J) J<|AM.a8 (xs:=([([116,100]:ai),([116,98]:ai),([110,111,110,101]:ai)]).map AV.str) J J J J J J<|AM.nil<|AT.rk (av:=.str v77.1) (Ti:=[(bn,.cells [cC v76.2.L,I v76.2.at_])]) (Pi:=[(bn,.cells [cC v77.2.L,I v77.2.at_])]) (fun _=>J) (fun _=>J) (fun _=>J) J J J ?_ ?_
             ·exact aR J (bE Wi) cR (.cons .p0 .nil) J J<|ae.nil ⟨_,J,J⟩
             refine AT.am 1 J J<|AM.qv (aO J) J<|AM.nil<|AT.rk (av:=.agg [I v78.1.Kind,.str v78.1.Field,.str v78.1.Op,I v78.1.Value.Kind,.bool v78.1.Value.ch,I v78.1.Value.Number,.str v78.1.Value.Words,I v78.1.Version.bP,I v78.1.Version.bQ,I v78.1.Version.bL,pb v78.1.Kids]) (Ti:=[(bn,.cells [cC v77.2.L,I v77.2.at_])]) (Pi:=[(bn,.cells [cC v78.2.L,I v78.2.at_])]) (fun _=>J) (fun _=>J) (fun _=>J) J J J ?_ ?_
             ·exact aR J (FL Wj) cR (.cons .p0 .nil) J J<|ae.nil ⟨_,J,J⟩
             refine AT.am 1 J J<|AM.qv (aO J) J<|AM.nil<|AT.rk (av:=gz v79.1) (Ti:=[(bn,.cells [cC v78.2.L,I v78.2.at_])]) (Pi:=[(bn,.cells [cC v79.2.L,I v79.2.at_])]) (fun _=>J) (fun _=>J) (fun _=>J) J J J ?_ ?_
             ·exact aR J (wS XF) cR (.cons .p0 .nil) J J<|ae.nil ⟨_,J,J⟩
             refine AT.am 1 J J<|AM.qv (aO J) J<|AM.nil<|AT.rk (av:=oM.av v80.1) (Ti:=[(bn,.cells [cC v79.2.L,I v79.2.at_])]) (Pi:=[(bn,.cells [cC v80.2.L,I v80.2.at_])]) (fun _=>J) (fun _=>J) (fun _=>J) J J J ?_ ?_
             ·exact aR J (G6 e23) cR (.cons .p0 .nil) J J<|ae.nil ⟨_,J,J⟩
             exact AT.am 2 J J<|AM.qv (bq J J J J J) J<|AM.a8 (xs:=([(⟨v75.1,v76.1,v77.1,v78.1,v79.1,v80.1⟩:bl)]).map bl.av) J J J J J J<|AM.nil<|AT.yF (fun _=>J) fun β=>ax h fun Tv e24 h=>cU (g:=bl.av) J J J J J J J J (.list _) e24 (fun _=>.p5) J fun b82=>rF J J J<|ay J J J J .p1 J J<|rN<|ab.stop<|aj.lq [0,5,0,0,0,0,0] ⟨b82,v80.2.L,v80.2.at_,Tv,h,J⟩ J J
            ·refine az<|rF J J J<|rL J J .p1 J J<|ae.qv (iu J) J<|ae.qv (cS J J) J<|rN<|ab.cut (fun aE=>∃ (Zi:List Int) (Pr:Int) (Xo:List bl),tJ v2 Zi Pr Xo=some r∧aE=⟨112,[(2,.ptr b1 0),(3,.ptr b7 0)],[(bn,.cells [cC Zi,I Pr]),(b1,.cells [.nil,.nil,.nil,.nil]),(b7,.cells [.sl 2 b3 0 v2.1.ao.length,.sl 2 b4 0 v2.1.bd.length,.sl 3 b5 0 v2.1.aG.length,.sl 17 b6 0 Xo.length]),(b3,G3 v2.1.ao),(b4,G4 v2.1.bd),(b5,G0 v2.1.aG),(b6,K9 Xo)]⟩) ?_ ?_
             ·refine cD h J (fun h=>?_) (fun h=>?_)
              ·refine ax h fun Pt e25 h=>ax h fun v87 e26 h=>ab.kH (id:=5) (A:=[0,1,0,0,12,0,32,124,252,511,1023,2047]) (H0:=[(bn,.cells [cC ik.2.L,I ik.2.at_])]) (HH:=fun β=>[(bn,.cells [cC Pt.2.L,I Pt.2.at_]),(b7,.cells (Zq v2.1 b3 b4 b5 b6)),(b3,G3 v2.1.ao),(b4,G4 v2.1.bd),(b5,G0 v2.1.aG),(b6,K9 v2.1.aK),(b1,.cells [.nil,.nil,.nil,.nil])]) 9 mixed J (by kernel_rfl) (by kernel_rfl) [⟨none,some 6,[],fun _=>(bn,.cells [cC ik.2.L,I ik.2.at_]),none,[]⟩,⟨some 6,none,[],fun _=>(bn,.cells [cC Pt.2.L,I Pt.2.at_]),none,[]⟩] [] J (by kernel_rfl) J (.cons .p0 .nil) (fun _=>J)<|AT.am 6 J J<|AM.qv (ar J J) J<|AM.qv (aD J J .p0 J) J<|AM.a8 (xs:=([([65]:ai)]).map AV.str) J J J J J J<|AM.a8 (xs:=([([98]:ai),([97]:ai)]).map AV.str) J J J J J J<|AM.DF (xs:=[.nil,gz [([65]:ai)],gz [([98]:ai),([97]:ai)]]) (av:=.list 1 (([[],[([65]:ai)],[([98]:ai),([97]:ai)]]:List (List ai)).map (A6 1 AV.str))) J J J J J J (Fi.Rf (.cons .n (.cons .r (.cons .r .nil))) J J)<|AM.qv (aO J) J<|AM.nil<|AT.rk (av:=I Pt.1) (Ti:=[(bn,.cells [cC ik.2.L,I ik.2.at_])]) (Pi:=[(bn,.cells [cC Pt.2.L,I Pt.2.at_])]) (fun _=>J) (fun _=>J) (fun _=>J) J J J ?_ ?_
               ·exact aR J (df e25) cR (.cons .p0 .nil) J J<|ae.nil ⟨_,J,J⟩
               exact AT.am 2 J J<|AM.qv (aS J J J e26 J J) J<|AM.qv (aJ J J J) J<|AM.nil<|AT.yF (fun _=>J) fun β=>ax h fun vY Zy h=>ae.qv (jk J J J Zy) J<|ae.qv (BO J J) J<|wO (g:=bl.av) (P7:=(⟨vY.Key,vY.ef,vY.To,vY.Query,v87,vY.Time⟩:bl)) J J J J Zy J .p5 J<|ae.ghost<|aj.eqs (s:=11) (rz:=.sl 17 b6 0 (v2.1.aK.set (0:Int).toNat (⟨vY.Key,vY.ef,vY.To,vY.Query,v87,vY.Time⟩:bl)).length) J (by rw [List.length_set])<|aj.here<|ae.ghost<|aj.eqs (s:=15) (rz:=.sl 17 b6 0 (v2.1.aK.set (0:Int).toNat (⟨vY.Key,vY.ef,vY.To,vY.Query,v87,vY.Time⟩:bl)).length) J (by rw [List.length_set])<|aj.here<|ae.ghost<|aj.V0 (j:=3) (rz:=.sl 17 b6 0 (v2.1.aK.set (0:Int).toNat (⟨vY.Key,vY.ef,vY.To,vY.Query,v87,vY.Time⟩:bl)).length) .p1 J (by rw [List.length_set]) J<|aj.here<|rN<|ab.stop<|aj.lq [0,5,0,0,0,0,0] ⟨Pt.2.L,Pt.2.at_,v2.1.aK.set (0:Int).toNat (⟨vY.Key,vY.ef,vY.To,vY.Query,v87,vY.Time⟩:bl),h,J⟩ J J
              ·exact tK<|ab.stop<|aj.lq [0,5,0,0,0,0,0] ⟨ik.2.L,ik.2.at_,v2.1.aK,h,J⟩ J J
             ·rintro aE ⟨Zi,Pr,Xo,h,rfl⟩
              unfold tJ at h
              exact ab.stop<|aj.lq [0,0,0,0,0,0,0] ⟨b6,Zi,Pr,Xo,h,J⟩ J J
           ·rintro aE ⟨Zx,Zh,Pp,N3,h,rfl⟩
            unfold tI at h
            exact ab.stop<|aj.lq [0,0,0,0,0,0,0] ⟨b5,Zx,Zh,Pp,v2.1.aG,N3,h,J⟩ J J
         ·rintro aE ⟨Zw,b64,HW,n61,Xm,Xn,h,rfl⟩
          unfold tH at h
          exact ab.stop<|aj.lq [0,0,0,0,0,0,0] ⟨b4,Zw,b64,HW,n61,v2.1.bd,Xm,Xn,h,J⟩ J J
       ·rintro aE ⟨U4,b51,L8,K6,n48,Xl,K7,GC,h,rfl⟩
        unfold tG at h
        exact ab.stop<|aj.lq [0,0,0,0,0,0,0] ⟨b3,U4,b51,L8,K6,n48,v2.1.ao,Xl,K7,GC,h,J⟩ J J
     ·rintro aE ⟨L9,N8,Py,MW,FE,n34,D7,GA,GD,Ps,h,rfl⟩
      unfold tF at h
      exact ab.stop<|aj.lq [0,0,0,0,0,0,0] ⟨L9,N8,Py,MW,FE,n34,D7,GA,GD,Ps,h,J⟩ J J
   ·rintro aE ⟨Px,Sb,La,Zv,CL,n21,N5,MH,Ba,CK,h,rfl⟩
    unfold tE at h
    exact ab.bX<|ab.stop<|aj.lq [0,0,0,0,0,0,0] ⟨Px,Sb,La,Zv,CL,n21,N5,MH,Ba,CK,h,J⟩ J J
  ·exact tK<|ab.stop<|aj.lq [0,5,0,0,0,0,0] ⟨b3,b4,b5,b6,v8.2.L,v8.2.at_,v2.1.ao,v2.1.bd,v2.1.aG,v2.1.aK,h,J⟩ J J
 ·rintro aE ⟨Bg,JU,Lc,Qi,l9,n10,yG,B5,We,BA,h,rfl⟩
  unfold pZ at h
  refine az<|ae.qv (aA J J .p2 J) J<|ay J J J J .p1 J J<|rN<|ab.ret<|?_
  cases h
  exact aj.freeze .p3<|aj.BS (j:=0) .p1 J (Co.Ah .p3) J J<|aj.freeze .p4<|aj.BS (j:=1) .p1 J (Co.Ah .p4) J J<|aj.freeze .p5<|aj.BS (j:=2) .p1 J (Co.Ah .p5) J J<|aj.freeze .p6<|aj.BS (j:=3) .p1 J (Co.Ah .p6) J J<|aj.here ⟨_,.cons (.all _ _ _ _ _ _ J .p1 aC.h aU.h J J) .nil,_,.cons .p0 .nil,⟨J,J⟩⟩
theorem G7 [GI:bD] {bn:Bk} {aa:ah} {ak:ai} {r:aL×ah} (h:uq aa ak=some r):aI Tryz.prog 8 [.ptr bn 0,.str ak] [(bn,.cells [cC aa.L,I aa.at_])] (T0 ([(bn,.cells [cC r.2.L,I r.2.at_])]) (aL.av r.1)):=by
 unfold uq at h
 refine aI.fD ?_
 refine aI.aZ Tryz.func8 J Tryz.ntmps8 Tryz.results8 J J ?_
 refine az<|bu J J J J fun b1=>rN<|az<|rM J J<|rM J J<|aF (xs:=([([109,97]:ai),([109,98]:ai)]).map AV.str) J J J J J J<|ax h fun v2 e1 h=>aR J (bE e1) cR (.cons .p1 .nil) J J<|rM J J<|aF (xs:=([([116,97]:ai),([116,98]:ai),([116,100]:ai),([]:ai)]).map AV.str) J J J J J J<|ax h fun v3 e2 h=>aR J (bE e2) cR (.cons .p0 .nil) J J<|rM J J<|ax h fun v4 e3 h=>aR J (df e3) cR (.cons .p0 .nil) J J<|rM J J<|aF (xs:=([(0:Int),(2:Int)]).map I) J J J J J J<|ax h fun v5 e4 h=>aR J (cm e4) cR (.cons .p0 .nil) J J<|ae.qv (bq J J J J J) J<|ae.qv (bq J J J J J) J<|ae.qv (bq J J J J J) J<|bu J J J J fun b6=>ay J J J J .p0 J J<|rN<|tS<|az<|aF (xs:=([([111,112,101,110]:ai),([115,105,116,101]:ai)]).map AV.str) J J J J J J<|ae.qv (bB J) J<|rM J J<|rN<|ab.block<|ab.bO (fun x:(List Int)×Int×(List jm)×Int=>oS ak v2 v3 v4 v5 x.1 x.2.1 x.2.2.1 x.2.2.2) (fun x aE=>∃ (zj:Bk),aE=⟨131,[(0,.ptr bn 0),(4,.ptr b1 0),(5,.ptr b6 0),(25,gz [([111,112,101,110]:ai),([115,105,116,101]:ai)]),(26,I ([([111,112,101,110]:ai),([115,105,116,101]:ai)].length:Int)),(27,I x.2.2.2)],[(bn,.cells [cC x.1,I x.2.1]),(b1,.cells [.str [],.str [],.str [],I (0:Int),I (0:Int),I (0:Int),.nil,.nil]),(b6,.cells [.str ak,.str v2.1,.str v3.1,I v4.1,I v5.1,I (0:Int),.sl 2 zj 0 x.2.2.1.length,.nil]),(zj,Qe x.2.2.1)]⟩) h ?_ ?_
 ·exact aj.Fh (j:=6) 2 (fun _=>.p0) J (fun _=>J) (fun _=>J) fun Qi=>aj.lq [2,2,1,0] ⟨Qi,J⟩ J J
 ·intro x z1 aE J1 dh h im dN
  obtain ⟨yG,n13,sK,n16⟩:=x
  obtain ⟨zj,rfl⟩:=dh
  replace h:oS ak v2 v3 v4 v5 yG n13 sK n16=some z1:=h
  unfold oS at h
  refine az<|ae.qv (br J J) J<|rN<|tS<|cD h J (fun h=>?_) (fun h=>?_)
  ·refine tK<|tS<|ab.block<|az<|ax h fun oH e5 h=>ae.qv (aS J J J e5 J J) J<|ae.qv (aJ J J J) J<|rA J J<|rN<|az<|rM J J<|ax h fun ik e6 h=>aR J (dY e6) cR (.cons .p0 .nil) J J<|rN<|ab.cut (fun aE=>∃ (Px:Bk) (CL:List Int) (n21:Int) (N5:List jm),mb n16 CL n21 N5=some z1∧aE=⟨131,[(0,.ptr bn 0),(4,.ptr b1 0),(5,.ptr b6 0),(25,gz [([111,112,101,110]:ai),([115,105,116,101]:ai)]),(26,I ([([111,112,101,110]:ai),([115,105,116,101]:ai)].length:Int)),(27,I n16)],[(bn,.cells [cC CL,I n21]),(b1,.cells [.str [],.str [],.str [],I (0:Int),I (0:Int),I (0:Int),.nil,.nil]),(b6,.cells [.str ak,.str v2.1,.str v3.1,I v4.1,I v5.1,I (0:Int),.sl 2 Px 0 N5.length,.nil]),(Px,Qe N5)]⟩) ?_ ?_
   ·refine cB h J (fun h=>?_) (fun h=>?_)
    ·refine ax h fun v24 e7 h=>ab.kH (id:=6) (A:=[0,1,3,0,0,0,48,120,248,511,1023,2047,4095]) (H0:=[(bn,.cells [cC ik.2.L,I ik.2.at_])]) (HH:=fun β=>[(bn,.cells [cC v24.2.L,I v24.2.at_]),(b1,.cells [.str [],.str [],.str [],I (0:Int),I (0:Int),I (0:Int),.nil,.nil]),(b6,.cells [.str ak,.str v2.1,.str v3.1,I v4.1,I v5.1,I (0:Int),.sl 2 zj 0 sK.length,.nil]),(zj,Qe sK)]) 9 mixed J (by kernel_rfl) (by kernel_rfl) [⟨none,some 6,[],fun _=>(bn,.cells [cC ik.2.L,I ik.2.at_]),none,[]⟩,⟨some 6,none,[],fun _=>(bn,.cells [cC v24.2.L,I v24.2.at_]),none,[]⟩] [] J (by kernel_rfl) J (.cons .p0 .nil) (fun _=>J)<|AT.am 6 J J<|AM.qv (ar J J) J<|AM.qv (ar J J) J<|AM.qv (aD J J .p1 J) J<|AM.qv (aO J) J<|AM.qv (aO J) J<|AM.a8 (xs:=([([120]:ai),([121]:ai),([97,34,98,92,99]:ai)]).map AV.str) J J J J J J<|AM.nil<|AT.rk (av:=.str v24.1) (Ti:=[(bn,.cells [cC ik.2.L,I ik.2.at_])]) (Pi:=[(bn,.cells [cC v24.2.L,I v24.2.at_])]) (fun _=>J) (fun _=>J) (fun _=>J) J J J ?_ ?_
     ·exact aR J (bE e7) cR (.cons .p0 .nil) J J<|ae.nil ⟨_,J,J⟩
     exact AT.am 2 J J<|AM.qv (bq J J J J J) J<|AM.a8 (xs:=([(⟨oH,v24.1⟩:jm)]).map jm.av) J J J J J J<|AM.nil<|AT.yF (fun _=>J) fun β=>ax h fun MH e8 h=>cU (g:=jm.av) J J J J J J J J (.list _) e8 (fun _=>.p3) J fun La=>rF J J J<|rF J J J<|ay J J J J .p2 J J<|rN<|ab.stop<|aj.lq [0,0,0,0] ⟨La,v24.2.L,v24.2.at_,MH,h,J⟩ J J
    ·exact tK<|ab.stop<|aj.lq [0,0,0,0] ⟨zj,ik.2.L,ik.2.at_,sK,h,J⟩ J J
   ·rintro aE ⟨Px,CL,n21,N5,h,rfl⟩
    unfold mb at h
    refine ab.bX<|tR<|ae.qv (bf J J) J<|rM J J<|rN<|ab.stop<|?_
    cases h
    exact im _ _ J<|aj.lq [0,0,0,0] ⟨Px,J⟩ J J
  ·refine ab.exit J<|have h:=bx h dN;tS<|az<|aF (xs:=([([97]:ai),([102,97,110,46,111,110]:ai)]).map AV.str) J J J J J J<|ae.qv (bB J) J<|rM J J<|rN<|ab.block<|ab.bO (fun x:(List Int)×Int×(List eB)×Int=>oR ak v2 v3 v4 v5 sK x.1 x.2.1 x.2.2.1 x.2.2.2) (fun x aE=>∃ (GG:Bk),aE=⟨131,[(0,.ptr bn 0),(4,.ptr b1 0),(5,.ptr b6 0),(46,gz [([97]:ai),([102,97,110,46,111,110]:ai)]),(47,I ([([97]:ai),([102,97,110,46,111,110]:ai)].length:Int)),(48,I x.2.2.2)],[(bn,.cells [cC x.1,I x.2.1]),(b1,.cells [.str [],.str [],.str [],I (0:Int),I (0:Int),I (0:Int),.nil,.nil]),(b6,.cells [.str ak,.str v2.1,.str v3.1,I v4.1,I v5.1,I (0:Int),.sl 2 zj 0 sK.length,.sl 5 GG 0 x.2.2.1.length]),(zj,Qe sK),(GG,U0 x.2.2.1)]⟩) h ?_ ?_
   ·exact aj.Fh (j:=7) 5 (fun _=>.p2) J (fun _=>J) (fun _=>J) fun N8=>aj.lq [1,1,1,1,0] ⟨N8,J⟩ J J
   ·intro x z2 aE J2 dh h ya tY
    obtain ⟨AH,n33,we,n36⟩:=x
    obtain ⟨GG,rfl⟩:=dh
    replace h:oR ak v2 v3 v4 v5 sK AH n33 we n36=some z2:=h
    unfold oR at h
    refine az<|ae.qv (br J J) J<|rN<|tS<|cD h J (fun h=>?_) (fun h=>?_)
    ·refine tK<|tS<|ab.block<|az<|ax h fun v38 e9 h=>ae.qv (aS J J J e9 J J) J<|ae.qv (aJ J J J) J<|rA J J<|rN<|az<|rM J J<|ax h fun v39 Am h=>aR J (dY Am) cR (.cons .p0 .nil) J J<|rN<|ab.cut (fun aE=>∃ (JT:Bk) (GD:List Int) (n41:Int) (IU:List eB),mc n36 GD n41 IU=some z2∧aE=⟨131,[(0,.ptr bn 0),(4,.ptr b1 0),(5,.ptr b6 0),(46,gz [([97]:ai),([102,97,110,46,111,110]:ai)]),(47,I ([([97]:ai),([102,97,110,46,111,110]:ai)].length:Int)),(48,I n36)],[(bn,.cells [cC GD,I n41]),(b1,.cells [.str [],.str [],.str [],I (0:Int),I (0:Int),I (0:Int),.nil,.nil]),(b6,.cells [.str ak,.str v2.1,.str v3.1,I v4.1,I v5.1,I (0:Int),.sl 2 zj 0 sK.length,.sl 5 JT 0 IU.length]),(zj,Qe sK),(JT,U0 IU)]⟩) ?_ ?_
     ·refine cB h J (fun h=>?_) (fun h=>?_)
      ·refine ax h fun v44 Bf h=>ax h fun v45 GF h=>ax h fun v46 G5 h=>ax h fun GW Pw h=>ax h fun CM R4 h=>ab.kH (id:=12) (A:=[0,1,0,0,0,24,56,0,184,440,0,0,3512,7608,16376,0,0,105912,262136,524280,1048572,2097148,4194303,8388607,16777215]) (H0:=[(bn,.cells [cC v39.2.L,I v39.2.at_])]) (HH:=fun β=>[(bn,.cells [cC GW.2.L,I GW.2.at_]),(b1,.cells [.str [],.str [],.str [],I (0:Int),I (0:Int),I (0:Int),.nil,.nil]),(b6,.cells [.str ak,.str v2.1,.str v3.1,I v4.1,I v5.1,I (0:Int),.sl 2 zj 0 sK.length,.sl 5 GG 0 we.length]),(zj,Qe sK),(GG,U0 we)]) 22 mixed J (by kernel_rfl) (by kernel_rfl) [⟨none,some 5,[],fun _=>(bn,.cells [cC v39.2.L,I v39.2.at_]),none,[]⟩,⟨some 5,some 8,[],fun _=>(bn,.cells [cC v44.2.L,I v44.2.at_]),none,[]⟩,⟨some 8,some 12,[],fun _=>(bn,.cells [cC v45.2.L,I v45.2.at_]),none,[]⟩,⟨some 12,some 17,[],fun _=>(bn,.cells [cC v46.2.L,I v46.2.at_]),none,[]⟩,⟨some 17,none,[],fun _=>(bn,.cells [cC GW.2.L,I GW.2.at_]),none,[]⟩] [] J (by kernel_rfl) J (.cons .p0 .nil) (fun _=>J)<|AT.am 5 J J<|AM.qv (ar J J) J<|AM.qv (aD J J .p1 J) J<|AM.qv (aO J) J<|AM.qv (aO J) J<|AM.a8 (xs:=([(0:Int),(5:Int),(6:Int),(-5:Int)]).map I) J J J J J J<|AM.nil<|AT.rk (av:=I v44.1) (Ti:=[(bn,.cells [cC v39.2.L,I v39.2.at_])]) (Pi:=[(bn,.cells [cC v44.2.L,I v44.2.at_])]) (fun _=>J) (fun _=>J) (fun _=>J) J J J ?_ ?_
       ·exact aR J (cm Bf) cR (.cons .p0 .nil) J J<|ae.nil ⟨_,J,J⟩
       refine AT.am 2 J J<|AM.qv (bq J J J J J) J<|AM.qv (aO J) J<|AM.nil<|AT.rk (av:=.bool v45.1) (Ti:=[(bn,.cells [cC v44.2.L,I v44.2.at_])]) (Pi:=[(bn,.cells [cC v45.2.L,I v45.2.at_])]) (fun _=>J) (fun _=>J) (fun _=>J) J J J ?_ ?_
       ·exact aR J (dY GF) cR (.cons .p0 .nil) J J<|ae.nil ⟨_,J,J⟩
       refine AT.am 3 J J<|AM.qv (bq J J J J J) J<|AM.qv (aO J) J<|AM.a8 (xs:=([([120]:ai),([]:ai)]).map AV.str) J J J J J J<|AM.nil<|AT.rk (av:=.str v46.1) (Ti:=[(bn,.cells [cC v45.2.L,I v45.2.at_])]) (Pi:=[(bn,.cells [cC v46.2.L,I v46.2.at_])]) (fun _=>J) (fun _=>J) (fun _=>J) J J J ?_ ?_
       ·exact aR J (bE G5) cR (.cons .p0 .nil) J J<|ae.nil ⟨_,J,J⟩
       refine AT.am 4 J J<|AM.qv (bq J J J J J) J<|AM.a8 (xs:=([(⟨(2:Int),false,v44.1,[]⟩:bg),(⟨(1:Int),v45.1,(0:Int),[]⟩:bg),(⟨(3:Int),false,(0:Int),v46.1⟩:bg)]).map bg.av) J J J J J J<|AM.qv (aO J) J<|AM.a8 (xs:=([(0:Int),(0:Int),(1:Int),(2:Int)]).map I) J J J J J J<|AM.nil<|AT.rk (av:=I GW.1) (Ti:=[(bn,.cells [cC v46.2.L,I v46.2.at_])]) (Pi:=[(bn,.cells [cC GW.2.L,I GW.2.at_])]) (fun _=>J) (fun _=>J) (fun _=>J) J J J ?_ ?_
       ·exact aR J (cm Pw) cR (.cons .p0 .nil) J J<|ae.nil ⟨_,J,J⟩
       exact AT.am 4 J J<|AM.qv (aS J J J R4 J J) J<|AM.qv (aM J J J) J<|AM.qv (bq J J J J J) J<|AM.a8 (xs:=([(⟨v38,CM⟩:eB)]).map eB.av) J J J J J J<|AM.nil<|AT.yF (fun _=>J) fun β=>ax h fun l49 R5 h=>cU (g:=eB.av) J J J J J J J J (.list _) R5 (fun _=>.p4) J fun Zz=>rF J J J<|ay J J J J .p2 J J<|rN<|ab.stop<|aj.lq [0,0,0,0,0] ⟨Zz,GW.2.L,GW.2.at_,l49,h,J⟩ J J
      ·exact tK<|ab.stop<|aj.lq [0,0,0,0,0] ⟨GG,v39.2.L,v39.2.at_,we,h,J⟩ J J
     ·rintro aE ⟨JT,GD,n41,IU,h,rfl⟩
      unfold mc at h
      refine ab.bX<|tR<|ae.qv (bf J J) J<|rM J J<|rN<|ab.stop<|?_
      cases h
      exact ya _ _ J<|aj.lq [0,0,0,0,0] ⟨JT,J⟩ J J
    ·refine ab.exit J<|have h:=bx h tY;?_
     unfold sa at h
     refine tS<|az<|rM J J<|ax h fun v51 R6 h=>aR J (dY R6) cR (.cons .p0 .nil) J J<|rN<|ab.cut (fun aE=>∃ (b57:Bk) (b59:Bk) (K7:List Int) (Qb:Int) (q54:ai) (q55:ai) (n56:Int) (Tu:List jm) (HW:List eB),oQ v2 v4 K7 Qb q54 q55 n56 Tu HW=some r∧aE=⟨131,[(4,.ptr b1 0),(5,.ptr b6 0)],[(bn,.cells [cC K7,I Qb]),(b1,.cells [.str [],.str [],.str [],I (0:Int),I (0:Int),I (0:Int),.nil,.nil]),(b6,.cells [.str q54,.str v2.1,.str q55,I v4.1,I n56,I (0:Int),.sl 2 b57 0 Tu.length,.sl 5 b59 0 HW.length]),(b57,Qe Tu),(b59,U0 HW)]⟩) ?_ ?_
     ·refine cB h J (fun h=>?_) (fun h=>?_)
      ·refine az<|rM J J<|ax h fun AI U3 h=>aR J (df U3) cR (.cons .p0 .nil) J J<|rN<|ab.block<|az<|ae.qv (cx J J) J<|rA J J<|rN<|ab.cut (fun aE=>∃ (b67:Bk) (Tz:Bk) (FC:List Int) (Pn:Int) (Zj:ai) (Po:ai) (Zk:Int) (Xp:List jm) (Xq:List eB),r7 v2 v4 FC Pn Zj Po Zk Xp Xq=some r∧aE=⟨131,[(4,.ptr b1 0),(5,.ptr b6 0)],[(bn,.cells [cC FC,I Pn]),(b1,.cells [.str [],.str [],.str [],I (0:Int),I (0:Int),I (0:Int),.nil,.nil]),(b6,.cells [.str Zj,.str v2.1,.str Po,I v4.1,I Zk,I (0:Int),.sl 2 b67 0 Xp.length,.sl 5 Tz 0 Xq.length]),(b67,Qe Xp),(Tz,U0 Xq)]⟩) ?_ ?_
       ·refine cD h J (fun h=>?_) (fun h=>?_)
        ·exact tR<|rM J J<|aF (xs:=([([]:ai),([65]:ai)]).map AV.str) J J J J J J<|ax h fun v71 Tw h=>aR J (bE Tw) cR (.cons .p0 .nil) J J<|rM J J<|aF (xs:=([([]:ai),([65]:ai)]).map AV.str) J J J J J J<|ax h fun v72 Wi h=>aR J (bE Wi) cR (.cons .p0 .nil) J J<|rF J J J<|rF J J J<|ay J J J J .p2 J J<|rF J J J<|rF J J J<|ay J J J J .p2 J J<|rN<|ab.stop<|aj.lq [0,0,0,0,0] ⟨zj,GG,v72.2.L,v72.2.at_,v71.1,v72.1,v5.1,sK,we,h,J⟩ J J
        ·refine az<|ae.qv (cx J J) J<|rA J J<|rN<|ab.cut (fun aE=>∃ (vH:Bk) (vI:Bk) (Ts:List Int) (Zl:Int) (Zm:Int) (N4:List jm) (Xr:List eB),r8 ak v2 v3 v4 Ts Zl Zm N4 Xr=some r∧aE=⟨131,[(4,.ptr b1 0),(5,.ptr b6 0)],[(bn,.cells [cC Ts,I Zl]),(b1,.cells [.str [],.str [],.str [],I (0:Int),I (0:Int),I (0:Int),.nil,.nil]),(b6,.cells [.str ak,.str v2.1,.str v3.1,I v4.1,I Zm,I (0:Int),.sl 2 vH 0 N4.length,.sl 5 vI 0 Xr.length]),(vH,Qe N4),(vI,U0 Xr)]⟩) ?_ ?_
         ·refine cD h J (fun h=>?_) (fun h=>?_)
          ·exact tR<|rM J J<|ax h fun v80 Wj h=>aR J (yb Wj) cR (.cons .p0 .nil) J J<|rF J J J<|rF J J J<|rF J J J<|ay J J J J .p2 J J<|rN<|ab.stop<|aj.lq [0,0,0,0,0] ⟨zj,GG,v80.2.L,v80.2.at_,v80.1,sK,we,h,J⟩ J J
          ·refine az<|ae.qv (cx J J) J<|rA J J<|rN<|ab.cut (fun aE=>∃ (b83:Bk) (ZA:Bk) (Tv:List Int) (Pq:Int) (Xt:List jm) (Xu:List eB),r9 ak v2 v3 v4 v5 Tv Pq Xt Xu=some r∧aE=⟨131,[(4,.ptr b1 0),(5,.ptr b6 0)],[(bn,.cells [cC Tv,I Pq]),(b1,.cells [.str [],.str [],.str [],I (0:Int),I (0:Int),I (0:Int),.nil,.nil]),(b6,.cells [.str ak,.str v2.1,.str v3.1,I v4.1,I v5.1,I (0:Int),.sl 2 b83 0 Xt.length,.sl 5 ZA 0 Xu.length]),(b83,Qe Xt),(ZA,U0 Xu)]⟩) ?_ ?_
           ·refine cD h J (fun h=>?_) (fun h=>?_)
            ·refine ax h fun v87 XF h=>ax h fun vY e23 h=>ab.kH (id:=22) (A:=[0,1,3,0,0,24,0,0,248,504,1016,2047,4095,8191,16383]) (H0:=[(bn,.cells [cC AI.2.L,I AI.2.at_])]) (HH:=fun β=>[(bn,.cells [cC vY.2.L,I vY.2.at_]),(b1,.cells [.str [],.str [],.str [],I (0:Int),I (0:Int),I (0:Int),.nil,.nil]),(b6,.cells [.str ak,.str v2.1,.str v3.1,I v4.1,I v5.1,I (0:Int),.sl 2 zj 0 sK.length,.sl 5 GG 0 we.length]),(zj,Qe sK),(GG,U0 we)]) 11 mixed J (by kernel_rfl) (by kernel_rfl) [⟨none,some 5,[],fun _=>(bn,.cells [cC AI.2.L,I AI.2.at_]),none,[]⟩,⟨some 5,some 8,[],fun _=>(bn,.cells [cC v87.2.L,I v87.2.at_]),none,[]⟩,⟨some 8,none,[],fun _=>(bn,.cells [cC vY.2.L,I vY.2.at_]),none,[]⟩] [] J (by kernel_rfl) J (.cons .p0 .nil) (fun _=>J)<|AT.am 5 J J<|AM.qv (ar J J) J<|AM.qv (ar J J) J<|AM.qv (aD J J .p1 J) J<|AM.qv (aO J) J<|AM.a8 (xs:=([([115,105,116,101]:ai),([65]:ai),([122]:ai)]).map AV.str) J J J J J J<|AM.nil<|AT.rk (av:=.str v87.1) (Ti:=[(bn,.cells [cC AI.2.L,I AI.2.at_])]) (Pi:=[(bn,.cells [cC v87.2.L,I v87.2.at_])]) (fun _=>J) (fun _=>J) (fun _=>J) J J J ?_ ?_
             ·exact aR J (bE XF) cR (.cons .p0 .nil) J J<|ae.nil ⟨_,J,J⟩
             refine AT.am 2 J J<|AM.qv (aO J) J<|AM.a8 (xs:=([([]:ai),([32,120]:ai),([118]:ai)]).map AV.str) J J J J J J<|AM.nil<|AT.rk (av:=.str vY.1) (Ti:=[(bn,.cells [cC v87.2.L,I v87.2.at_])]) (Pi:=[(bn,.cells [cC vY.2.L,I vY.2.at_])]) (fun _=>J) (fun _=>J) (fun _=>J) J J J ?_ ?_
             ·exact aR J (bE e23) cR (.cons .p0 .nil) J J<|ae.nil ⟨_,J,J⟩
             exact AT.am 2 J J<|AM.qv (bq J J J J J) J<|AM.a8 (xs:=([(⟨v87.1,vY.1⟩:jm)]).map jm.av) J J J J J J<|AM.nil<|AT.yF (fun _=>J) fun β=>ax h fun Tt e24 h=>cU (g:=jm.av) J J J J J J J J (.list _) e24 (fun _=>.p3) J fun b90=>rF J J J<|rF J J J<|ay J J J J .p2 J J<|rN<|ab.stop<|aj.lq [0,0,0,0,0] ⟨b90,GG,vY.2.L,vY.2.at_,Tt,we,h,J⟩ J J
            ·refine ax h fun v91 e25 h=>ax h fun D6 e26 h=>ab.kH (id:=16) (A:=[0,1,0,0,12,0,60,124,252,508,1023,2047,4095]) (H0:=[(bn,.cells [cC AI.2.L,I AI.2.at_])]) (HH:=fun β=>[(bn,.cells [cC D6.2.L,I D6.2.at_]),(b1,.cells [.str [],.str [],.str [],I (0:Int),I (0:Int),I (0:Int),.nil,.nil]),(b6,.cells [.str ak,.str v2.1,.str v3.1,I v4.1,I v5.1,I (0:Int),.sl 2 zj 0 sK.length,.sl 5 GG 0 we.length]),(zj,Qe sK),(GG,U0 we)]) 10 mixed J (by kernel_rfl) (by kernel_rfl) [⟨none,some 4,[],fun _=>(bn,.cells [cC AI.2.L,I AI.2.at_]),none,[]⟩,⟨some 4,some 6,[],fun _=>(bn,.cells [cC v91.2.L,I v91.2.at_]),none,[]⟩,⟨some 6,none,[],fun _=>(bn,.cells [cC D6.2.L,I D6.2.at_]),none,[]⟩] [] J (by kernel_rfl) J (.cons .p0 .nil) (fun _=>J)<|AT.am 4 J J<|AM.qv (ar J J) J<|AM.qv (aD J J .p1 J) J<|AM.qv (aO J) J<|AM.a8 (xs:=([([102,97,110,46,111,110]:ai),([65]:ai),([122]:ai)]).map AV.str) J J J J J J<|AM.nil<|AT.rk (av:=.str v91.1) (Ti:=[(bn,.cells [cC AI.2.L,I AI.2.at_])]) (Pi:=[(bn,.cells [cC v91.2.L,I v91.2.at_])]) (fun _=>J) (fun _=>J) (fun _=>J) J J J ?_ ?_
             ·exact aR J (bE e25) cR (.cons .p0 .nil) J J<|ae.nil ⟨_,J,J⟩
             refine AT.am 1 J J<|AM.qv (aO J) J<|AM.nil<|AT.rk (av:=I D6.1) (Ti:=[(bn,.cells [cC v91.2.L,I v91.2.at_])]) (Pi:=[(bn,.cells [cC D6.2.L,I D6.2.at_])]) (fun _=>J) (fun _=>J) (fun _=>J) J J J ?_ ?_
             ·exact aR J (yb e26) cR (.cons .p0 .nil) J J<|ae.nil ⟨_,J,J⟩
             exact AT.am 3 J J<|AM.qv (bq J J J J J) J<|AM.qv (bq J J J J J) J<|AM.a8 (xs:=([(⟨v91.1,(⟨D6.1,false,(0:Int),[]⟩:bg)⟩:eB)]).map eB.av) J J J J J J<|AM.nil<|AT.yF (fun _=>J) fun β=>ax h fun Xk Zy h=>cU (g:=eB.av) J J J J J J J J (.list _) Zy (fun _=>.p4) J fun b94=>rF J J J<|ay J J J J .p2 J J<|rN<|ab.stop<|aj.lq [0,0,0,0,0] ⟨zj,b94,D6.2.L,D6.2.at_,sK,Xk,h,J⟩ J J
           ·rintro aE ⟨b83,ZA,Tv,Pq,Xt,Xu,h,rfl⟩
            unfold r9 at h
            exact ab.stop<|aj.lq [0,0,0,0,0] ⟨b83,ZA,Tv,Pq,v5.1,Xt,Xu,h,J⟩ J J
         ·rintro aE ⟨vH,vI,Ts,Zl,Zm,N4,Xr,h,rfl⟩
          unfold r8 at h
          exact ab.stop<|aj.lq [0,0,0,0,0] ⟨vH,vI,Ts,Zl,ak,v3.1,Zm,N4,Xr,h,J⟩ J J
       ·rintro aE ⟨b67,Tz,FC,Pn,Zj,Po,Zk,Xp,Xq,h,rfl⟩
        unfold r7 at h
        exact ab.bX<|ab.stop<|aj.lq [0,0,0,0,0] ⟨b67,Tz,FC,Pn,Zj,Po,Zk,Xp,Xq,h,J⟩ J J
      ·exact tK<|ab.stop<|aj.lq [0,0,0,0,0] ⟨zj,GG,v51.2.L,v51.2.at_,ak,v3.1,v5.1,sK,we,h,J⟩ J J
     ·rintro aE ⟨b57,b59,K7,Qb,q54,q55,n56,Tu,HW,h,rfl⟩
      unfold oQ at h
      refine az<|ae.qv (aA J J .p2 J) J<|ay J J J J .p1 J J<|rN<|ab.ret<|?_
      cases h
      exact aj.freeze .p3<|aj.BS (j:=6) .p1 J (Co.Ah .p3) J J<|aj.freeze .p4<|aj.BS (j:=7) .p1 J (Co.Ah .p4) J J<|aj.here ⟨_,.cons (.all _ _ _ _ _ _ J .p1 aC.h aU.h J J) .nil,_,.cons .p0 .nil,⟨J,J⟩⟩
theorem Cb [GI:bD] {bn:Bk} {aa:ah} {r:(List aL)×ah} (h:nn aa=some r):aI Tryz.prog 10 [.ptr bn 0] [(bn,.cells [cC aa.L,I aa.at_])] (T1 (fun kK=>[(bn,.cells [cC r.2.L,I r.2.at_]),(kK,aE9 r.1)]) (fun kK=>.sl 8 kK 0 r.1.length)):=by
 unfold nn at h
 refine aI.fD ?_
 refine aI.aZ Tryz.func10 J Tryz.ntmps10 Tryz.results10 J J ?_
 refine az<|rA J J<|rN<|az<|rA J J<|rN<|tS<|az<|aF (xs:=([([100,97]:ai),([100,98]:ai),([100,99]:ai),([100,100]:ai)]).map AV.str) J J J J J J<|ae.qv (bB J) J<|rM J J<|rN<|ab.block<|ab.bO (fun x:(List Int)×Int×(List aL)×Int=>kA x.1 x.2.1 x.2.2.1 x.2.2.2) (fun x aE=>∃ (b8:Bk),aE=⟨23,[(0,.ptr bn 0),(3,.sl 8 b8 0 x.2.2.1.length),(6,gz [([100,97]:ai),([100,98]:ai),([100,99]:ai),([100,100]:ai)]),(7,I ([([100,97]:ai),([100,98]:ai),([100,99]:ai),([100,100]:ai)].length:Int)),(8,I x.2.2.2)],[(bn,.cells [cC x.1,I x.2.1]),(b8,aE9 x.2.2.1)]⟩) h ?_ ?_
 ·exact aj.arr (s:=3) 8 J fun Bg=>aj.lq [1,0] ⟨Bg,J⟩ J J
 ·intro x z1 aE J1 dh h im dN
  obtain ⟨l6,n7,l9,n10⟩:=x
  obtain ⟨b8,rfl⟩:=dh
  replace h:kA l6 n7 l9 n10=some z1:=h
  unfold kA at h
  refine az<|ae.qv (br J J) J<|rN<|tS<|cD h J (fun h=>?_) (fun h=>?_)
  ·refine tK<|tS<|ab.block<|az<|ax h fun v12 e1 h=>ae.qv (aS J J J e1 J J) J<|ae.qv (aJ J J J) J<|rA J J<|rN<|az<|rM J J<|ax h fun ma e2 h=>aR J (dY e2) cR (.cons .p0 .nil) J J<|ae.qv (bF J) J<|rN<|ab.cut (fun aE=>∃ (Oa:Bk) (B5:List Int) (n15:Int) (Bb:List aL),iA n10 B5 n15 Bb=some z1∧aE=⟨23,[(0,.ptr bn 0),(3,.sl 8 Oa 0 Bb.length),(6,gz [([100,97]:ai),([100,98]:ai),([100,99]:ai),([100,100]:ai)]),(7,I ([([100,97]:ai),([100,98]:ai),([100,99]:ai),([100,100]:ai)].length:Int)),(8,I n10)],[(bn,.cells [cC B5,I n15]),(Oa,aE9 Bb)]⟩) ?_ ?_
   ·refine cB h J (fun h=>?_) (fun h=>?_)
    ·exact tR<|rM J J<|rM J J<|rM J J<|ax h fun oH e3 h=>aR J (G7 e3) cR (.cons .p0 .nil) J J<|aF (xs:=([oH.1]:List aL).map aL.av) J J J J J J<|ax h fun CN e4 h=>cU (g:=aL.av) J J J J J J J J (.list _) e4 (fun _=>.p1) J fun Wf=>rA J J<|rN<|ab.stop<|aj.lq [0,0] ⟨Wf,oH.2.L,oH.2.at_,CN,h,J⟩ J J
    ·exact tK<|ab.stop<|aj.lq [0,0] ⟨b8,ma.2.L,ma.2.at_,l9,h,J⟩ J J
   ·rintro aE ⟨Oa,B5,n15,Bb,h,rfl⟩
    unfold iA at h
    refine ab.bX<|tR<|ae.qv (bf J J) J<|rM J J<|rN<|ab.stop<|?_
    cases h
    exact im _ _ J<|aj.lq [0,0] ⟨Oa,J⟩ J J
  ·refine ab.exit J<|have h:=bx h dN;az<|rM J J<|rA J J<|rN<|ab.ret<|?_
   cases h
   exact hH J [0,0] J ⟨b8,J,J⟩
theorem G8 [GI:bD] {bn:Bk} {aa:ah} {r:Int×ah} (h:ur aa=some r):aI Tryz.prog 9 [.ptr bn 0] [(bn,.cells [cC aa.L,I aa.at_])] (T0 ([(bn,.cells [cC r.2.L,I r.2.at_])]) (I r.1)):=by
 unfold ur at h
 refine aI.fD ?_
 refine aI.aZ Tryz.func9 J Tryz.ntmps9 Tryz.results9 J J ?_
 refine az<|rA J J<|rN<|az<|rM J J<|rM J J<|ax h fun v1 e1 h=>aR J (df e1) cR (.cons .p0 .nil) J J<|rM J J<|ax h fun v2 e2 h=>aR J (df e2) cR (.cons .p0 .nil) J J<|rM J J<|aF (xs:=([(345686399999:Int),(-1:Int),(345686400000:Int)]).map I) J J J J J J<|ax h fun v3 e3 h=>aR J (cm e3) cR (.cons .p0 .nil) J J<|aF (xs:=([(0:Int),(5:Int),(20:Int),(40:Int),(60:Int),(80:Int),(120:Int),v1.1,v2.1,v3.1]).map I) J J J J J J<|ax h fun v4 e4 h=>aR J (cm e4) cR (.cons .p0 .nil) J J<|rA J J<|rN<|ab.ret<|?_
 cases h
 exact hH J [0] J ⟨J,J⟩
theorem C7 [GI:bD] {aa:aW} {r:aq} (h:iS aa=some r):aI Tryz.prog 136 [aW.av aa] [] (T6 (fun kK FN FO FP FQ FR=>[(kK,.cells (tt r FN FO FP FQ FR)),(FN,ed r.aT),(FO,il r.bU),(FP,j0 r.at_),(FQ,ja r.cr),(FR,oe r.dw)]) (fun kK FN FO FP FQ FR=>.ptr kK 0)):=by
 unfold iS at h
 refine aI.fD ?_
 refine aI.aZ Tryz.func136 J Tryz.ntmps136 Tryz.results136 J J ?_
 refine az<|cJ J J J J fun b1=>rA J J<|rN<|az<|ae.qv (aA J J .p0 J) J<|vg J fun b2=>vg J fun b3=>Mz (gk:=AV.str) (kp:=(fk 1 I)) (β:=(fun _=>⟨none,0⟩)) J fun b4 b5=>vg J fun b6=>vg J fun b7=>ae.qv (bq J J J J J) J<|cJ J J J J fun b8=>rA J J<|rN<|tS<|az<|rF J J J<|rL J J .p7 J J<|ae.qv (bB J) J<|rM J J<|rN<|ab.block<|ab.bO (fun x:(List (ai×ai))×Int=>cF aa x.1 x.2) (fun x aE=>aE=⟨76,[(1,.ptr b1 0),(3,.ptr b8 0),(19,wa aa.ao),(20,I (aa.ao.length:Int)),(21,I x.2)],[(b1,.cells (wg aa)),(b8,.cells [wa aa.ao,yw aa.bd,w9 aa.aG,tq aa.aK,.bC b2,.bC b3,.bC b4,.bC b6,.bC b7]),(b2,ed x.1),(b3,il []),(b4,.mp (xR AV.str (fk 1 I) (fun _=>⟨none,0⟩) ([]:List (ai×(List Int))))),(b5,.gy (iP (fk 1 I) (fun _=>⟨none,0⟩) ([]:List (ai×(List Int))))),(b6,ja []),(b7,oe [])]⟩) h ?_ ?_
 ·exact aj.lq [7,0,5,4,2,2,1,0] J J J
 ·intro x z1 aE J1 dh h im dN
  obtain ⟨zd,n12⟩:=x
  obtain rfl:=dh
  replace h:cF aa zd n12=some z1:=h
  unfold cF at h
  refine az<|ae.qv (br J J) J<|rN<|tS<|cD h J (fun h=>?_) (fun h=>?_)
  ·refine tK<|tS<|ab.block<|az<|ax h fun ma e1 h=>ae.qv (aS J J J e1 J J) J<|ae.qv (aM J J J) J<|bu J J J J fun zj=>ay J J J J .p0 J J<|rN<|ab.cA (id:=5) (A:=[0,1,3,7,0,16,0,64,255]) 8 mixed J (by kernel_rfl) (by kernel_rfl)<|AM.qv (aO J) J<|AM.qv (ba J) J<|AM.qv (ar J J) J<|AM.qv (aD J J .p2 J) J<|AM.qv (ar J J) J<|AM.qv (aD J J .p0 J) J<|AM.qv (ar J J) J<|AM.qv (aD J J .p0 J) J<|AM.nil<|uk (gk:=AV.str) (gv:=AV.str) (M:=zd) (key:=ma.Key) (v:=ma.fe) J J J J .p3<|rN<|ab.bX<|tR<|ae.qv (bf J J) J<|rM J J<|rN<|ab.stop<|?_
   cases h
   exact im _ _ J<|aj.lq [1,1,1,1,1,1,1,1] J J J
  ·refine ab.exit J<|have h:=bx h dN;tS<|az<|rF J J J<|rL J J .p0 J J<|ae.qv (bB J) J<|rM J J<|rN<|ab.block<|ab.bO (fun x:(List (ai×(List ai)))×Int=>cE aa zd x.1 x.2) (fun x aE=>aE=⟨76,[(1,.ptr b1 0),(3,.ptr b8 0),(35,yw aa.bd),(36,I (aa.bd.length:Int)),(37,I x.2)],[(b1,.cells (wg aa)),(b8,.cells [wa aa.ao,yw aa.bd,w9 aa.aG,tq aa.aK,.bC b2,.bC b3,.bC b4,.bC b6,.bC b7]),(b2,ed zd),(b3,il x.1),(b4,.mp (xR AV.str (fk 1 I) (fun _=>⟨none,0⟩) ([]:List (ai×(List Int))))),(b5,.gy (iP (fk 1 I) (fun _=>⟨none,0⟩) ([]:List (ai×(List Int))))),(b6,ja []),(b7,oe [])]⟩) h ?_ ?_
   ·exact aj.lq [0,0,0,0,0,0,0,0] J J J
   ·intro x z2 aE J2 dh h ya tY
    obtain ⟨Bb,n18⟩:=x
    obtain rfl:=dh
    replace h:cE aa zd Bb n18=some z2:=h
    unfold cE at h
    refine az<|ae.qv (br J J) J<|rN<|tS<|cD h J (fun h=>?_) (fun h=>?_)
    ·refine tK<|tS<|ab.block<|az<|ax h fun ik e2 h=>ae.qv (aS J J J e2 J J) J<|ae.qv (aM J J J) J<|bu J J J J fun Wf=>ay J J J J .p0 J J<|rN<|ab.cA (id:=10) (A:=[0,1,3,7,0,16,0,64,255]) 8 mixed J (by kernel_rfl) (by kernel_rfl)<|AM.qv (aO J) J<|AM.qv (ba J) J<|AM.qv (ar J J) J<|AM.qv (aD J J .p2 J) J<|AM.qv (ar J J) J<|AM.qv (aD J J .p0 J) J<|AM.qv (ar J J) J<|AM.qv (aD J J .p0 J) J<|AM.nil<|uk (gk:=AV.str) (gv:=(A6 1 AV.str)) (M:=Bb) (key:=ik.Key) (v:=ik.lI) J J J J .p4<|rN<|ab.bX<|tR<|ae.qv (bf J J) J<|rM J J<|rN<|ab.stop<|?_
     cases h
     exact ya _ _ J<|aj.lq [1,1,1,1,1,1,1,1] J J J
    ·refine ab.exit J<|have h:=bx h tY;tS<|az<|rF J J J<|rL J J .p0 J J<|ae.qv (bB J) J<|rM J J<|rN<|ab.block<|ab.bO (fun x:(List (ai×(List Int)))×Int=>fE aa zd Bb x.1 x.2) (fun x aE=>∃ (xy:ai→Bk),aE=⟨76,[(3,.ptr b8 0),(51,w9 aa.aG),(52,I (aa.aG.length:Int)),(53,I x.2)],[(b8,.cells [wa aa.ao,yw aa.bd,w9 aa.aG,tq aa.aK,.bC b2,.bC b3,.bC b4,.bC b6,.bC b7]),(b2,ed zd),(b3,il Bb),(b4,.mp (xR AV.str (fk 1 I) xy x.1)),(b5,.gy (iP (fk 1 I) xy x.1)),(b6,ja []),(b7,oe [])]⟩) h ?_ ?_
     ·exact aj.lq [1,1,1,1,1,1,1] ⟨(fun _=>⟨none,0⟩),J⟩ J J
     ·intro x z3 aE J3 dh h N9 Lb
      obtain ⟨wy,n26⟩:=x
      obtain ⟨xy,rfl⟩:=dh
      replace h:fE aa zd Bb wy n26=some z3:=h
      unfold fE at h
      refine az<|ae.qv (br J J) J<|rN<|tS<|cD h J (fun h=>?_) (fun h=>?_)
      ·refine tK<|tS<|ab.block<|az<|rM J J<|ax h fun FF e3 h=>ae.qv (aS J J J e3 J J) J<|ae.qv (aM J J J) J<|bu J J J J fun Zv=>rA J J<|ay J J J J .p0 J J<|rN<|ax h fun FB e4 h=>ax h fun B4 e5 h=>ab.kH (id:=15) (A:=[0,1,3,7,0,16,0,64,192,448,0,1024,4032,0,8192,32704,65535]) (H0:=[(b4,.mp (xR AV.str (fk 1 I) xy wy)),(b5,.gy (iP (fk 1 I) xy wy))]) (HH:=fun β=>[(b4,.mp (xR AV.str (fk 1 I) xy wy)),(b5,.gy (iP (fk 1 I) xy (ui wy FF.au))),((β 15),MU B4),(Zv,.cells [.str FF.ek,.str FF.au,.str FF.bH]),(b8,.cells [wa aa.ao,yw aa.bd,w9 aa.aG,tq aa.aK,.bC b2,.bC b3,.bC b4,.bC b6,.bC b7]),(b2,ed zd),(b3,il Bb),(b6,ja []),(b7,oe [])]) 16 mixed J (by kernel_rfl) (by kernel_rfl) [⟨none,some 12,[],fun _=>(b4,.mp (xR AV.str (fk 1 I) xy wy)),none,[]⟩,⟨none,some 12,[],fun _=>(b5,.gy (iP (fk 1 I) xy wy)),none,[]⟩,⟨some 12,some 15,[],fun b=>(b,MU FB),none,[]⟩,⟨some 12,none,[],fun b=>(b4,.mp (xR AV.str (fk 1 I) xy wy)),none,[]⟩,⟨some 12,none,[],fun b=>(b5,.gy (iP (fk 1 I) xy (ui wy FF.au))),none,[]⟩,⟨some 15,none,[],fun b=>(b,MU B4),none,[]⟩] [12,15] J (by kernel_rfl) J (.cons .p4 (.cons .p4 .nil)) (fun _=>J)<|AT.am 12 J J<|AM.qv (aO J) J<|AM.qv (ba J) J<|AM.qv (ar J J) J<|AM.qv (aD J J .p1 J) J<|AM.qv (ar J J) J<|AM.qv (aD J J .p0 J) J<|AM.qv (aO J) J<|AM.qv (ba J) J<|AM.qv (ar J J) J<|AM.qv (aD J J .p1 J) J<|AM.qv (ar J J) J<|AM.qv (aD J J .p0 J) J<|AM.nil<|AT.Ul (V:=fun b=>.sl 1 b 0 FB.length) (Ti:=[(b4,.mp (xR AV.str (fk 1 I) xy wy)),(b5,.gy (iP (fk 1 I) xy wy))]) (Pi:=fun b=>[(b,MU FB),(b4,.mp (xR AV.str (fk 1 I) xy wy)),(b5,.gy (iP (fk 1 I) xy (ui wy FF.au)))]) (fun _=>J) (fun _=>J) (fun _ _=>J) J (fun _=>J) J J J ?_ ?_
       ·exact Pb (gk:=AV.str) (sz:=1) (g:=I) (β:=xy) (M:=wy) (key:=FF.au) J J .p0 .p1 J e4 J fun Zt aqX=>ae.nil ⟨Zt,_,J,J⟩
       refine AT.am 2 J J<|AM.qv (aO J) J<|AM.a8 (xs:=([n26]:List Int).map I) J J J J J J<|AM.nil<|AT.ad4 (V:=fun b=>.sl 1 b 0 B4.length) (Ti:=fun β=>[((β 12),MU FB)]) (Pi:=fun b=>[(b,MU B4)]) (fun _=>J) (fun _=>J) (fun _ _=>J) (fun _=>J) (fun _=>J) J J J (fun β=>?_) ?_
       ·generalize β 12=Zt
        exact cU (g:=I) J J J J J J J J (.list _) e5 (fun _=>.p0) J fun Ty=>ae.nil ⟨Ty,_,J,J⟩
       refine AT.yF (fun _=>J) fun β=>?_
       generalize β 12=Zt
       generalize β 15=Ty
       clear β
       refine IP (gk:=AV.str) (kp:=(fk 1 I)) (β:=xy) (M:=wy) (key:=FF.au) (v:=B4) (b:=Ty) J J J J .p0<|ae.ghost<|aj.Uz (kp:=(fk 1 I)) (β:=xy) (M:=wy) (key:=FF.au) (v:=B4) J .p2 .p1<|aj.here<|rN<|ab.bX<|tR<|ae.qv (bf J J) J<|rM J J<|rN<|ab.stop<|?_
       cases h
       exact N9 _ _ J<|aj.lq [3,3,3,0,0,1,1] ⟨(CW xy FF.au Ty),J⟩ J J
      ·refine ab.exit J<|have h:=bx h Lb;az<|rM J J<|rA J J<|rN<|ab.ret<|?_
       cases h
       exact aj.Xg (gk:=AV.str) (sz:=1) (g:=I) (β:=xy) (M:=wy) (iZ.inj Tryz.prog 9) .p4 .p3<|aj.here ⟨_,.cons (.tmp _ _ J) .nil,_,.cons .p0 (.cons .p0 (.cons .p0 (.cons .p0 (.cons .p0 (.cons .p0 .nil))))),⟨b8,b2,b3,b4,b6,b7,J,J⟩⟩
theorem lR [GI:bD] {aa:ai} {r:Bool} (h:k7 aa=some r):Pu Tryz.prog 60 [.str aa] (.bool r):=by
 unfold k7 at h
 refine aI.aZ Tryz.func60 J Tryz.ntmps60 Tryz.results60 J J ?_
 refine az<|rA J J<|rN<|tS<|tS<|ab.cut (fun aE=>∃ (c1:Bool),oU aa c1=some r∧aE=⟨54,[(0,.str aa),(21,.bool c1)],[]⟩) ?_ ?_
 ·refine tR<|rM J J<|ae.qv (fC J J) J<|rM J J<|gF h J J J (fun h=>?_) (fun h=>?_)
  ·refine rM J J<|rY J J J<|ae.qv (eS J) J<|rY J J J<|ae.qv (cS J J) J<|rE J J J<|rM J J<|gF h J J J (fun h=>?_) (fun h=>?_)
   ·refine rM J J<|rY J J J<|ax h fun c2 e1 h=>ae.qv (qX J J e1) J<|rY J J J<|ae.qv (br J J) J<|rE J J J<|rM J J<|gF h J J J (fun h=>?_) (fun h=>?_)
    ·exact rM J J<|rY J J J<|ax h fun c3 e2 h=>ae.qv (qX J J e2) J<|rY J J J<|ae.qv (cS J J) J<|rE J J J<|rN<|ab.stop<|aj.lq [] ⟨decide ((122:Int) < (c3.toNat:Int)),h,J⟩ J J
    ·exact rG J J J J<|rG J J J J<|rT J J J<|rN<|ab.stop<|aj.lq [] ⟨true,h,J⟩ J J
   ·exact rG J J J J<|rG J J J J<|rT J J J<|rM J J<|rG J J J J<|rG J J J J<|rG J J J J<|rT J J J<|rN<|ab.stop<|aj.lq [] ⟨true,h,J⟩ J J
  ·exact rG J J J J<|rG J J J J<|rT J J J<|rM J J<|rG J J J J<|rG J J J J<|rG J J J J<|rT J J J<|rM J J<|rG J J J J<|rG J J J J<|rG J J J J<|rT J J J<|rN<|ab.stop<|aj.lq [] ⟨true,h,J⟩ J J
 ·rintro aE ⟨c1,h,rfl⟩
  unfold oU at h
  refine cB h J (fun h=>?_) (fun h=>?_)
  ·refine az<|rA J J<|rN<|ab.ret<|?_
   cases h
   exact hP J J
  ·refine tK<|tS<|az<|rM J J<|ae.qv (eS J) J<|rM J J<|rN<|ab.block<|ab.bO (fun x:Int=>oT aa x) (fun x aE=>aE=⟨54,[(0,.str aa),(23,I (aa.length:Int)),(24,I x)],[]⟩) h ?_ ?_
   ·exact aj.lq [] J J J
   ·intro n5 z1 aE J1 dh h im dN
    obtain rfl:=dh
    replace h:oT aa n5=some z1:=h
    unfold oT at h
    refine az<|ae.qv (br J J) J<|rN<|tS<|cD h J (fun h=>?_) (fun h=>?_)
    ·refine tK<|tS<|ab.block<|az<|rM J J<|rA J J<|rN<|az<|rM J J<|rM J J<|ax h fun c6 e3 h=>ae.qv (qX J J e3) J<|rA J J<|rN<|tS<|ab.cut (fun aE=>∃ (c7:Bool),wz n5 c7=some z1∧aE=⟨54,[(0,.str aa),(23,I (aa.length:Int)),(24,I n5),(52,.bool c7)],[]⟩) ?_ ?_
     ·refine tR<|rM J J<|ae.qv (vn J J) J<|rM J J<|ae.cq J J J (fun hc=>?_) (fun hc=>?_)
      ·rw [if_pos hc] at h
       refine rM J J<|rY J J J<|ae.qv (sS J J) J<|rT J J J<|rM J J<|ae.dC J J J (fun hc=>?_) (fun hc=>?_)
       ·rw [if_neg hc] at h
        refine rM J J<|rY J J J<|ae.qv (vn J J) J<|rY J J J<|rM J J<|ae.cq J J J (fun hc=>?_) (fun hc=>?_)
        ·rw [if_pos hc] at h
         refine rM J J<|rY J J J<|ae.qv (sS J J) J<|rY J J J<|rT J J J<|rE J J J<|rM J J<|ae.dC J J J (fun hc=>?_) (fun hc=>?_)
         ·rw [if_neg hc] at h
          refine rM J J<|rY J J J<|ae.qv (cx J J) J<|rE J J J<|rM J J<|ae.dC J J J (fun hc=>?_) (fun hc=>?_)
          ·rw [if_neg hc] at h
           exact rM J J<|rY J J J<|ae.qv (cx J J) J<|rE J J J<|ae.qv (xN J) J<|rN<|ab.stop<|aj.lq [] ⟨decide (¬ ((c6.toNat:Int)=(95:Int))),h,J⟩ J J
          ·rw [if_pos hc] at h
           exact rG J J J J<|rT J J J<|ae.qv (bF J) J<|rN<|ab.stop<|aj.lq [] ⟨!true,h,J⟩ J J
         ·rw [if_pos hc] at h
          exact rG J J J J<|rT J J J<|rM J J<|rG J J J J<|rG J J J J<|rT J J J<|ae.qv (bF J) J<|rN<|ab.stop<|aj.lq [] ⟨!true,h,J⟩ J J
        ·rw [if_neg hc] at h
         refine rG J J J J<|rY J J J<|rE J J J<|rE J J J<|rM J J<|rY J J J<|rM J J<|rY J J J<|ae.qv (cx J J) J<|rE J J J<|rM J J<|ae.dC J J J (fun hc=>?_) (fun hc=>?_)
         ·rw [if_neg hc] at h
          exact rM J J<|rY J J J<|ae.qv (cx J J) J<|rE J J J<|ae.qv (xN J) J<|rN<|ab.stop<|aj.lq [] ⟨decide (¬ ((c6.toNat:Int)=(95:Int))),h,J⟩ J J
         ·rw [if_pos hc] at h
          exact rG J J J J<|rT J J J<|ae.qv (bF J) J<|rN<|ab.stop<|aj.lq [] ⟨!true,h,J⟩ J J
       ·rw [if_pos hc] at h
        exact rG J J J J<|rG J J J J<|ae.bz J J J<|ae.bz J J J<|rG J J J J<|rT J J J<|rM J J<|rG J J J J<|rG J J J J<|rT J J J<|rM J J<|rG J J J J<|rG J J J J<|rT J J J<|ae.qv (bF J) J<|rN<|ab.stop<|aj.lq [] ⟨!true,h,J⟩ J J
      ·rw [if_neg hc] at h
       refine rG J J J J<|rE J J J<|rM J J<|rY J J J<|rM J J<|rY J J J<|ae.qv (vn J J) J<|rY J J J<|rM J J<|ae.cq J J J (fun hc=>?_) (fun hc=>?_)
       ·rw [if_pos hc] at h
        refine rM J J<|rY J J J<|ae.qv (sS J J) J<|rY J J J<|rT J J J<|rE J J J<|rM J J<|ae.dC J J J (fun hc=>?_) (fun hc=>?_)
        ·rw [if_neg hc] at h
         refine rM J J<|rY J J J<|ae.qv (cx J J) J<|rE J J J<|rM J J<|ae.dC J J J (fun hc=>?_) (fun hc=>?_)
         ·rw [if_neg hc] at h
          exact rM J J<|rY J J J<|ae.qv (cx J J) J<|rE J J J<|ae.qv (xN J) J<|rN<|ab.stop<|aj.lq [] ⟨decide (¬ ((c6.toNat:Int)=(95:Int))),h,J⟩ J J
         ·rw [if_pos hc] at h
          exact rG J J J J<|rT J J J<|ae.qv (bF J) J<|rN<|ab.stop<|aj.lq [] ⟨!true,h,J⟩ J J
        ·rw [if_pos hc] at h
         exact rG J J J J<|rT J J J<|rM J J<|rG J J J J<|rG J J J J<|rT J J J<|ae.qv (bF J) J<|rN<|ab.stop<|aj.lq [] ⟨!true,h,J⟩ J J
       ·rw [if_neg hc] at h
        refine rG J J J J<|rY J J J<|rE J J J<|rE J J J<|rM J J<|rY J J J<|rM J J<|rY J J J<|ae.qv (cx J J) J<|rE J J J<|rM J J<|ae.dC J J J (fun hc=>?_) (fun hc=>?_)
        ·rw [if_neg hc] at h
         exact rM J J<|rY J J J<|ae.qv (cx J J) J<|rE J J J<|ae.qv (xN J) J<|rN<|ab.stop<|aj.lq [] ⟨decide (¬ ((c6.toNat:Int)=(95:Int))),h,J⟩ J J
        ·rw [if_pos hc] at h
         exact rG J J J J<|rT J J J<|ae.qv (bF J) J<|rN<|ab.stop<|aj.lq [] ⟨!true,h,J⟩ J J
     ·rintro aE ⟨c7,h,rfl⟩
      unfold wz at h
      refine cB h J (fun h=>?_) (fun h=>?_)
      ·refine az<|rA J J<|rN<|ab.ret<|have h:=bx h dN;?_
       cases h
       exact hP J J
      ·refine tK<|ab.bX<|tR<|ae.qv (bf J J) J<|rM J J<|rN<|ab.stop<|?_
       cases h
       exact im _ _ J<|aj.lq [] J J J
    ·refine ab.exit J<|have h:=bx h dN;az<|rA J J<|rN<|ab.ret<|?_
     cases h
     exact hP J J
theorem mx [GI:bD] {bn:Bk} {bN:Bk} {cz:Bk} {cM:Bk} {cN:Bk} {dQ:Bk} {aa:aq} {ak:ai} {r:Bool} (h:gB aa ak=some r):aI Tryz.prog 65 [.ptr bn 0,.str ak] [(bn,.cells (tt aa bN cz cM cN dQ)),(bN,ed aa.aT)] (T0 ([(bn,.cells (tt aa bN cz cM cN dQ)),(bN,ed aa.aT)]) (.bool r)):=by
 unfold gB at h
 refine aI.fD ?_
 refine aI.aZ Tryz.func65 J Tryz.ntmps65 Tryz.results65 J J ?_
 refine az<|rA J J<|rN<|az<|rM J J<|ae.qv (ba J) J<|rF J J J<|rL J J .p0 J J<|rM J J<|ax h fun v1 e1 h=>ae.qv (O4 (gk:=AV.str) (gv:=AV.str) (M:=aa.aT) (key:=ak) (Z:=[]) J J .p1 J J J e1 J) J<|rM J J<|rX J J J<|rX J J J<|rA J J<|rA J J<|rN<|az<|rM J J<|rA J J<|rN<|ab.ret<|?_
 cases h
 exact hH J [0,0] J ⟨J,J⟩
theorem mW [GI:bD] {bn:Bk} {bN:Bk} {cz:Bk} {cM:Bk} {cN:Bk} {dQ:Bk} {aa:aq} {ak:ai} {r:(List ai)} (h:gn aa ak=some r):aI Tryz.prog 129 [.ptr bn 0,.str ak] [(bn,.cells (tt aa bN cz cM cN dQ)),(bN,ed aa.aT)] (T1 (fun kK=>[(bn,.cells (tt aa bN cz cM cN dQ)),(bN,ed aa.aT),(kK,vF r)]) (fun kK=>.sl 1 kK 0 r.length)):=by
 unfold gn at h
 refine aI.fD ?_
 refine aI.aZ Tryz.func129 J Tryz.ntmps129 Tryz.results129 J J ?_
 refine az<|rA J J<|rN<|az<|rA J J<|rN<|tS<|ab.block<|ab.bO (fun x:ai×(List ai)=>gW aa x.1 x.2) (fun x aE=>∃ (b5:Bk),aE=⟨30,[(0,.ptr bn 0),(1,.str x.1),(5,.sl 1 b5 0 x.2.length)],[(bn,.cells (tt aa bN cz cM cN dQ)),(bN,ed aa.aT),(b5,vF x.2)]⟩) h ?_ ?_
 ·exact aj.arr (s:=5) 1 J fun b7=>aj.lq [1,1,0] ⟨b7,J⟩ J J
 ·intro x z1 aE J1 dh h im dN
  obtain ⟨q4,l6⟩:=x
  obtain ⟨b5,rfl⟩:=dh
  replace h:gW aa q4 l6=some z1:=h
  unfold gW at h
  refine tS<|tS<|ab.cut (fun aE=>∃ (c8:Bool),jt aa q4 l6 c8=some z1∧aE=⟨30,[(0,.ptr bn 0),(1,.str q4),(5,.sl 1 b5 0 l6.length),(18,.bool c8)],[(bn,.cells (tt aa bN cz cM cN dQ)),(bN,ed aa.aT),(b5,vF l6)]⟩) ?_ ?_
  ·refine tR<|rM J J<|rM J J<|ax h fun v9 e1 h=>aR J (mx e1) cR (.cons .p0 (.cons .p0 .nil)) J J<|rM J J<|ae.guard J J J (fun hc=>?_) (fun hc=>?_)
   ·rw [AD hc] at h
    exact rM J J<|rY J J J<|ae.qv (iu J) J<|rY J J J<|rM J J<|rY J J J<|ae.qv (ba J) J<|rY J J J<|rF J J J<|rY J J J<|rL J J .p0 J J<|rY J J J<|ae.qv (O5 (gk:=AV.str) (gv:=AV.str) (M:=aa.aT) J .p1) J<|rY J J J<|ae.qv (sS J J) J<|rT J J J<|rN<|ab.stop<|aj.lq [0,0,0] ⟨decide ((l6.length:Int)≤(aa.aT.length:Int)),h,J⟩ J J
   ·rw [AE hc] at h
    exact rG J J J J<|rG J J J J<|rG J J J J<|rG J J J J<|rG J J J J<|rG J J J J<|rG J J J J<|rE J J J<|rN<|ab.stop<|aj.lq [0,0,0] ⟨false,h,J⟩ J J
  ·rintro aE ⟨c8,h,rfl⟩
   unfold jt at h
   refine cB h J (fun h=>?_) (fun h=>?_)
   ·refine tK<|ab.block<|az<|rM J J<|rM J J<|aF (xs:=([q4]:List ai).map AV.str) J J J J J J<|ax h fun l10 e2 h=>cU (g:=AV.str) J J J J J J J J (.list _) e2 (fun _=>.p2) J fun Bg=>rA J J<|rN<|tR<|rM J J<|ae.qv (ba J) J<|rF J J J<|rL J J .p0 J J<|rM J J<|ax h fun v12 e3 h=>ae.qv (KA (gk:=AV.str) (gv:=AV.str) (M:=aa.aT) (key:=q4) (Z:=[]) J J .p1 J J J e3 J) J<|rA J J<|rN<|ab.bX<|ab.stop<|?_
    cases h
    exact im _ _ J<|aj.lq [0,0,0] ⟨Bg,J⟩ J J
   ·refine ab.exit J<|have h:=bx h dN;az<|rM J J<|rA J J<|rN<|ab.ret<|?_
    cases h
    exact hH J [0,0,0] J ⟨b5,J,J⟩
theorem uM [GI:bD] {aa:List ai} {ak:ai} {r:Int} (h:gC aa ak=some r):Pu Tryz.prog 110 [gz aa,.str ak] (I r):=by
 unfold gC at h
 refine aI.aZ Tryz.func110 J Tryz.ntmps110 Tryz.results110 J J ?_
 refine az<|rA J J<|rN<|tS<|az<|rM J J<|ae.qv (bB J) J<|rM J J<|rN<|ab.block<|ab.bO (fun x:Int=>dv aa ak x) (fun x aE=>aE=⟨19,[(0,gz aa),(1,.str ak),(7,I (aa.length:Int)),(8,I x)],[]⟩) h ?_ ?_
 ·exact aj.lq [] J J J
 ·intro n2 z1 aE J1 dh h im dN
  obtain rfl:=dh
  replace h:dv aa ak n2=some z1:=h
  unfold dv at h
  refine az<|ae.qv (br J J) J<|rN<|tS<|cD h J (fun h=>?_) (fun h=>?_)
  ·refine tK<|tS<|ab.block<|az<|rM J J<|rA J J<|rN<|az<|rM J J<|rM J J<|rM J J<|ax h fun v3 e1 h=>ae.qv (aS J J J e1 J J) J<|ae.qv (aJ J J J) J<|ae.qv (fC J J) J<|rN<|cD h J (fun h=>?_) (fun h=>?_)
   ·refine az<|rM J J<|rA J J<|rN<|ab.ret<|have h:=bx h dN;?_
    cases h
    exact hP J J
   ·refine tK<|ab.bX<|tR<|ae.qv (bf J J) J<|rM J J<|rN<|ab.stop<|?_
    cases h
    exact im _ _ J<|aj.lq [] J J J
  ·refine ab.exit J<|have h:=bx h dN;az<|rA J J<|rN<|ab.ret<|?_
   cases h
   exact hP J J
theorem bt [GI:bD] {aa:List ai} {ak:ai} {r:Bool} (h:bc aa ak=some r):Pu Tryz.prog 49 [gz aa,.str ak] (.bool r):=by
 unfold bc at h
 refine aI.aZ Tryz.func49 J Tryz.ntmps49 Tryz.results49 J J ?_
 refine az<|rA J J<|rN<|az<|rM J J<|rM J J<|ax h fun v1 e1 h=>aH J (uM e1) cR J<|ae.qv (vn J J) J<|rA J J<|rN<|ab.ret<|?_
 cases h
 exact hP J J
theorem xz [GI:bD] {bn:Bk} {bN:Bk} {cz:Bk} {cM:Bk} {cN:Bk} {dQ:Bk} {aa:aq} {r:Int} (h:fN aa=some r):aI Tryz.prog 137 [.ptr bn 0] [(bn,.cells (tt aa bN cz cM cN dQ)),(bN,ed aa.aT)] (T0 ([(bn,.cells (tt aa bN cz cM cN dQ)),(bN,ed aa.aT)]) (I r)):=by
 unfold fN at h
 refine aI.fD ?_
 refine aI.aZ Tryz.func137 J Tryz.ntmps137 Tryz.results137 J J ?_
 refine az<|rA J J<|rN<|tS<|az<|rM J J<|ae.qv (ba J) J<|rF J J J<|rF J J J<|rL J J .p0 J J<|ae.qv (bB J) J<|ae.qv (cS J J) J<|rN<|cD h J (fun h=>?_) (fun h=>?_)
 ·refine az<|rA J J<|rN<|ab.ret<|?_
  cases h
  exact hH J [0,0] J ⟨J,J⟩
 ·refine tK<|tS<|az<|rM J J<|ae.qv (ba J) J<|rF J J J<|rF J J J<|rL J J .p0 J J<|ae.qv (bB J) J<|rM J J<|rN<|ab.block<|ab.bO (fun x:Int=>fR aa x) (fun x aE=>aE=⟨99,[(0,.ptr bn 0),(22,wa aa.aW.ao),(23,I (aa.aW.ao.length:Int)),(24,I x)],[(bn,.cells (tt aa bN cz cM cN dQ)),(bN,ed aa.aT)]⟩) h ?_ ?_
  ·exact aj.lq [0,0] J J J
  ·intro n2 z1 aE J1 dh h im dN
   obtain rfl:=dh
   replace h:fR aa n2=some z1:=h
   unfold fR at h
   refine az<|ae.qv (br J J) J<|rN<|tS<|cD h J (fun h=>?_) (fun h=>?_)
   ·refine tK<|tS<|ab.block<|az<|rM J J<|ax h fun v3 e1 h=>ae.qv (aS J J J e1 J J) J<|ae.qv (aM J J J) J<|bu J J J J fun b4=>rA J J<|ay J J J J .p0 J J<|rN<|tS<|az<|rF J J J<|rL J J .p0 J J<|ax h fun v5 e2 h=>aH J (lR e2) cR J<|ae.qv (bF J) J<|rN<|cB h J (fun h=>?_) (fun h=>?_)
    ·refine az<|rA J J<|rN<|ab.ret<|have h:=bx h dN;?_
     cases h
     exact hH J [1,1] J ⟨J,J⟩
    ·refine tK<|tS<|ab.cut (fun aE=>∃ (c6:Bool),fO n2 c6=some z1∧aE=⟨99,[(0,.ptr bn 0),(22,wa aa.aW.ao),(23,I (aa.aW.ao.length:Int)),(24,I n2),(49,.bool c6)],[(bn,.cells (tt aa bN cz cM cN dQ)),(bN,ed aa.aT)]⟩) ?_ ?_
     ·refine ab.cA (id:=8) (A:=[0,1,3,7,15,7,39,103,231,487,7,1031,4071,8167,16359,32767,65535]) 17 mixed J (by kernel_rfl) (by kernel_rfl)<|AM.qv (aO J) J<|AM.qv (cS J J) J<|AM.qv (aO J) J<|AM.cq J J J (fun hc=>?_) (fun hc=>?_)
      ·exact have h:=hZ hc h;AM.qv (ar J J) J<|AM.an J J J<|AM.qv (aD J J .p0 J) J<|AM.an J J J<|AM.qv (aO J) J<|AM.an J J J<|AM.qv (ba J) J<|AM.an J J J<|AM.qv (ar J J) J<|AM.an J J J<|AM.qv (ar J J) J<|AM.an J J J<|AM.qv (aD J J .p1 J) J<|AM.an J J J<|AM.qv (aO J) J<|AM.an J J J<|AM.qv (fm J J) J<|AM.an J J J<|ax h fun v7 e3 h=>AM.qv (aS J J J e3 J J) J<|AM.an J J J<|AM.qv (bY J J) J<|AM.an J J J<|AM.qv (aJ J J J) J<|AM.an J J J<|AM.qv (od J J) J<|AM.qv (cQ J J) J<|AM.nil<|rN<|ab.stop<|aj.lq [1,1] ⟨Op.bytesLess v3.Key v7.Key||v3.Key==v7.Key,h,J⟩ J J
      ·exact have h:=wM hc h;AM.al J J J J<|AM.al J J J J<|AM.al J J J J<|AM.al J J J J<|AM.al J J J J<|AM.al J J J J<|AM.al J J J J<|AM.al J J J J<|AM.al J J J J<|AM.al J J J J<|AM.al J J J J<|AM.al J J J J<|AM.qv (eE J J) J<|AM.nil<|rN<|ab.stop<|aj.lq [1,1] ⟨false,h,J⟩ J J
     ·rintro aE ⟨c6,h,rfl⟩
      unfold fO at h
      refine cB h J (fun h=>?_) (fun h=>?_)
      ·refine az<|rA J J<|rN<|ab.ret<|have h:=bx h dN;?_
       cases h
       exact hH J [0,0] J ⟨J,J⟩
      ·refine tK<|ab.bX<|tR<|ae.qv (bf J J) J<|rM J J<|rN<|ab.stop<|?_
       cases h
       exact im _ _ J<|aj.lq [0,0] J J J
   ·refine ab.exit J<|have h:=bx h dN;tS<|az<|rM J J<|ae.qv (ba J) J<|rF J J J<|rF J J J<|rL J J .p0 J J<|ae.qv (bB J) J<|rM J J<|rN<|ab.block<|ab.bO (fun x:Int=>fQ aa x) (fun x aE=>aE=⟨99,[(0,.ptr bn 0),(55,wa aa.aW.ao),(56,I (aa.aW.ao.length:Int)),(57,I x)],[(bn,.cells (tt aa bN cz cM cN dQ)),(bN,ed aa.aT)]⟩) h ?_ ?_
    ·exact aj.lq [0,0] J J J
    ·intro n9 z2 aE J2 dh h ya tY
     obtain rfl:=dh
     replace h:fQ aa n9=some z2:=h
     unfold fQ at h
     refine az<|ae.qv (br J J) J<|rN<|tS<|cD h J (fun h=>?_) (fun h=>?_)
     ·refine tK<|tS<|ab.block<|az<|ax h fun v10 e4 h=>ae.qv (aS J J J e4 J J) J<|ae.qv (aM J J J) J<|bu J J J J fun Bg=>ay J J J J .p0 J J<|rN<|tS<|ab.cut (fun aE=>∃ (c12:Bool),fP n9 c12=some z2∧aE=⟨99,[(0,.ptr bn 0),(55,wa aa.aW.ao),(56,I (aa.aW.ao.length:Int)),(57,I n9),(70,.bool c12)],[(bn,.cells (tt aa bN cz cM cN dQ)),(bN,ed aa.aT)]⟩) ?_ ?_
      ·refine tR<|rF J J J<|rL J J .p0 J J<|ae.qv (ud J J) J<|rM J J<|gT h J J J (fun h=>?_) (fun h=>?_)
       ·exact rM J J<|rY J J J<|rF J J J<|rY J J J<|rL J J .p0 J J<|rY J J J<|ax h fun ma e5 h=>aR J (mx e5) cR (.cons .p1 (.cons .p1 .nil)) J J<|rY J J J<|ae.qv (bF J) J<|rT J J J<|rN<|ab.stop<|aj.lq [0,0] ⟨!ma,h,J⟩ J J
       ·exact rG J J J J<|rG J J J J<|rG J J J J<|rG J J J J<|rE J J J<|rN<|ab.stop<|aj.lq [1,1] ⟨false,h,J⟩ J J
      ·rintro aE ⟨c12,h,rfl⟩
       unfold fP at h
       refine cB h J (fun h=>?_) (fun h=>?_)
       ·refine az<|rA J J<|rN<|ab.ret<|have h:=bx h tY;?_
        cases h
        exact hH J [0,0] J ⟨J,J⟩
       ·refine tK<|ab.bX<|tR<|ae.qv (bf J J) J<|rM J J<|rN<|ab.stop<|?_
        cases h
        exact ya _ _ J<|aj.lq [0,0] J J J
     ·refine ab.exit J<|have h:=bx h tY;az<|rA J J<|rN<|tS<|az<|rM J J<|ae.qv (ba J) J<|rF J J J<|rF J J J<|rL J J .p0 J J<|ae.qv (bB J) J<|rM J J<|rN<|ab.block<|ab.bO (fun x:Bool×Int=>ez aa x.1 x.2) (fun x aE=>aE=⟨99,[(0,.ptr bn 0),(7,.bool x.1),(76,wa aa.aW.ao),(77,I (aa.aW.ao.length:Int)),(78,I x.2)],[(bn,.cells (tt aa bN cz cM cN dQ)),(bN,ed aa.aT)]⟩) h ?_ ?_
      ·exact aj.lq [0,0] J J J
      ·intro x z3 aE J3 dh h N9 Lb
       obtain ⟨MI,n17⟩:=x
       obtain rfl:=dh
       replace h:ez aa MI n17=some z3:=h
       unfold ez at h
       refine az<|ae.qv (br J J) J<|rN<|tS<|cD h J (fun h=>?_) (fun h=>?_)
       ·refine tK<|tS<|ab.block<|az<|ax h fun oH e6 h=>ae.qv (aS J J J e6 J J) J<|ae.qv (aM J J J) J<|bu J J J J fun Qk=>ay J J J J .p0 J J<|rN<|az<|rM J J<|rF J J J<|rL J J .p0 J J<|ax h fun v20 e7 h=>fV J (mW e7) cR (.cons .p1 (.cons .p1 .nil)) (fun _=>J) J fun TA=>rA J J<|rN<|tS<|tS<|ab.cA (id:=22) (A:=[0,1,0,4,15]) 5 mixed J (by kernel_rfl) (by kernel_rfl)<|AM.qv (aO J) J<|ax h fun UU e8 h=>AM.qv (sZ J J (.some _ _ _ J) .none J J e8) J<|AM.qv (ar J J) J<|AM.qv (aD J J .p3 J) J<|ax h fun v23 e9 h=>AM.WN J (bt e9) (.cons (w7.Wa e8 .p2) (.cons (.co (.refl _)) .nil)) J J<|AM.nil<|rN<|cB h J (fun h=>?_) (fun h=>?_)
        ·refine az<|rA J J<|rN<|ab.ret<|have h:=bx h Lb;?_
         cases h
         exact hH J [0,0] J ⟨J,J⟩
        ·refine tK<|ab.cut (fun aE=>∃ (c24:Bool),iI n17 c24=some z3∧aE=⟨99,[(0,.ptr bn 0),(7,.bool c24),(76,wa aa.aW.ao),(77,I (aa.aW.ao.length:Int)),(78,I n17)],[(bn,.cells (tt aa bN cz cM cN dQ)),(bN,ed aa.aT)]⟩) ?_ ?_
         ·refine tR<|rM J J<|rM J J<|ae.guard J J J (fun hc=>?_) (fun hc=>?_)
          ·rw [GR hc] at h
           exact rM J J<|rY J J J<|ae.qv (iu J) J<|rY J J J<|ae.qv (cS J J) J<|rE J J J<|rA J J<|rN<|ab.stop<|aj.lq [0,0] ⟨decide ((11:Int) < (v20.length:Int)),h,J⟩ J J
          ·rw [GQ hc] at h
           exact rG J J J J<|rG J J J J<|rT J J J<|rA J J<|rN<|ab.stop<|aj.lq [0,0] ⟨true,h,J⟩ J J
         ·rintro aE ⟨c24,h,rfl⟩
          unfold iI at h
          refine ab.bX<|tR<|ae.qv (bf J J) J<|rM J J<|rN<|ab.stop<|?_
          cases h
          exact N9 _ _ J<|aj.lq [0,0] J J J
       ·refine ab.exit J<|have h:=bx h Lb;?_
        unfold lJ at h
        refine tS<|az<|rM J J<|rN<|cB h J (fun h=>?_) (fun h=>?_)
        ·refine az<|rA J J<|rN<|ab.ret<|?_
         cases h
         exact hH J [0,0] J ⟨J,J⟩
        ·refine tK<|az<|rA J J<|rN<|ab.ret<|?_
         cases h
         exact hH J [0,0] J ⟨J,J⟩
theorem lz [GI:bD] {aa:ai} {ak:ai} {r:Bool} (h:di aa ak=some r):Pu Tryz.prog 313 [.str aa,.str ak] (.bool r):=by
 unfold di at h
 refine aI.aZ Tryz.func313 J Tryz.ntmps313 Tryz.results313 J J ?_
 refine az<|rA J J<|rN<|tS<|ab.cut (fun aE=>∃ (c1:Bool),dz c1=some r∧aE=⟨21,[(4,.bool c1)],[]⟩) ?_ ?_
 ·refine tR<|rM J J<|ae.qv (eS J) J<|rM J J<|ae.qv (eS J) J<|ae.qv (vn J J) J<|rM J J<|gT h J J J (fun h=>?_) (fun h=>?_)
  ·exact rM J J<|rY J J J<|rM J J<|rY J J J<|ae.qv (eS J) J<|rY J J J<|rM J J<|rY J J J<|ae.qv (eS J) J<|rY J J J<|ae.qv (fm J J) J<|rY J J J<|ax h fun l2 e1 h=>ae.qv (wq J (.some _ _ _ J) .none J J e1) J<|rY J J J<|rM J J<|rY J J J<|ae.qv (fC J J) J<|rT J J J<|rA J J<|rN<|ab.stop<|aj.lq [] ⟨decide (l2=ak),h,J⟩ J J
  ·exact rG J J J J<|rG J J J J<|rG J J J J<|rG J J J J<|rG J J J J<|rG J J J J<|rG J J J J<|rG J J J J<|rE J J J<|rA J J<|rN<|ab.stop<|aj.lq [] ⟨false,h,J⟩ J J
 ·rintro aE ⟨c1,h,rfl⟩
  unfold dz at h
  refine ab.ret<|?_
  cases h
  exact hP J J
theorem sC [GI:bD] {aa:ai} {ak:ai} {r:ai×Bool} (h:fo aa ak=some r):Pu Tryz.prog 299 [.str aa,.str ak] (.pT [.str r.1,.bool r.2]):=by
 unfold fo at h
 refine aI.aZ Tryz.func299 J Tryz.ntmps299 Tryz.results299 J J ?_
 refine az<|rA J J<|rA J J<|rN<|tS<|az<|rM J J<|rM J J<|ax h fun v1 e1 h=>aH J (lz e1) cR J<|ae.qv (bF J) J<|rN<|cB h J (fun h=>?_) (fun h=>?_)
 ·refine az<|rM J J<|rA J J<|rA J J<|rN<|ab.ret<|?_
  cases h
  exact hQ J J J
 ·refine tK<|az<|rM J J<|rM J J<|ae.qv (eS J) J<|rM J J<|ae.qv (eS J) J<|ae.qv (fm J J) J<|ax h fun l2 e2 h=>ae.qv (wq J .none (.some _ _ _ J) J J e2) J<|rA J J<|rA J J<|rN<|ab.ret<|?_
  cases h
  exact hQ J J J
theorem lX [GI:bD] {aa:ai} {ak:ai} {r:ai×Bool} (h:strings_CutSuffix aa ak=some r):Pu Tryz.prog 238 [.str aa,.str ak] (.pT [.str r.1,.bool r.2]):=by
 unfold strings_CutSuffix at h
 refine aI.aZ Tryz.func238 J Tryz.ntmps238 Tryz.results238 J J ?_
 refine az<|rA J J<|rA J J<|rN<|az<|rM J J<|rM J J<|ax h fun v1 e1 h=>aH J (sC e1) cR J<|rX J J J<|rX J J J<|rA J J<|rA J J<|rN<|ab.ret<|?_
 cases h
 exact hQ J J J
theorem wT {aa:ai} {ak:Int} {r:Bool} (h:mI aa ak=some r):Pu Tryz.prog 141 [.str aa,I ak] (.bool r):=by
 unfold mI at h
 refine aI.aZ Tryz.func141 J Tryz.ntmps141 Tryz.results141 J J ?_
 refine az<|rA J J<|rN<|tS<|az<|rA J J<|rN<|ab.block<|ab.bO (fun x:ai×Int=>iT ak x.1 x.2) (fun x aE=>aE=⟨26,[(0,.str x.1),(1,I ak),(5,I x.2)],[]⟩) h ?_ ?_
 ·exact aj.lq [] J J J
 ·intro x z1 aE J1 dh h im dN
  obtain ⟨q3,n4⟩:=x
  obtain rfl:=dh
  replace h:iT ak q3 n4=some z1:=h
  unfold iT at h
  refine tS<|az<|rM J J<|rM J J<|ae.qv (br J J) J<|rN<|cD h J (fun h=>?_) (fun h=>?_)
  ·refine tK<|tS<|ab.block<|az<|rM J J<|ax h fun v5 e1 h=>aH J (GV e1) cR J<|rM J J<|rX J J J<|rX J J J<|rX J J J<|rA J J<|rA J J<|rA J J<|rN<|tS<|az<|rM J J<|ax h fun v6 e2 h=>aH J (lR e2) cR J<|ae.qv (bF J) J<|rN<|cB h J (fun h=>?_) (fun h=>?_)
   ·refine az<|rA J J<|rN<|ab.ret<|have h:=bx h dN;?_
    cases h
    exact hP J J
   ·refine tK<|tS<|az<|rM J J<|ae.qv (bF J) J<|rN<|cB h J (fun h=>?_) (fun h=>?_)
    ·refine az<|rA J J<|rN<|ab.ret<|have h:=bx h dN;?_
     cases h
     exact hP J J
    ·refine tK<|tR<|rM J J<|rA J J<|rN<|ab.bX<|tR<|rM J J<|ae.qv (bf J J) J<|rA J J<|rN<|ab.stop<|?_
     cases h
     exact im _ _ J<|aj.lq [] J J J
  ·refine ab.exit J<|have h:=bx h dN;az<|rA J J<|rN<|ab.ret<|?_
   cases h
   exact hP J J
theorem mz {aa:ai} {r:Bool} (h:gD aa=some r):Pu Tryz.prog 61 [.str aa] (.bool r):=by
 unfold gD at h
 refine aI.aZ Tryz.func61 J Tryz.ntmps61 Tryz.results61 J J ?_
 refine az<|rA J J<|rN<|az<|rM J J<|ax h fun v1 e1 h=>aH J (wT e1) cR J<|rA J J<|rN<|ab.ret<|?_
 cases h
 exact hP J J
theorem zk {aa:ai} {r:Bool} (h:ph aa=some r):Pu Tryz.prog 171 [.str aa] (.bool r):=by
 unfold ph at h
 refine aI.aZ Tryz.func171 J Tryz.ntmps171 Tryz.results171 J J ?_
 refine az<|rA J J<|rN<|az<|rM J J<|ax h fun v1 e1 h=>aH J (lX e1) cR J<|rM J J<|rX J J J<|rX J J J<|rA J J<|rA J J<|rN<|tS<|ab.block<|az<|rM J J<|ae.qv (bF J) J<|rA J J<|rN<|cB h J (fun h=>?_) (fun h=>?_)
 ·refine az<|rM J J<|ax h fun v2 e2 h=>aH J (mz e2) cR J<|rA J J<|rN<|ab.ret<|?_
  cases h
  exact hP J J
 ·refine az<|rM J J<|ae.qv (fC J J) J<|rA J J<|rN<|cD h J (fun h=>?_) (fun h=>?_)
  ·refine az<|rA J J<|rN<|ab.ret<|?_
   cases h
   exact hP J J
  ·refine tK<|ab.bX<|az<|rM J J<|ax h fun v3 e3 h=>aH J (lX e3) cR J<|rM J J<|rX J J J<|rX J J J<|rA J J<|rA J J<|rN<|tS<|ab.cut (fun aE=>∃ (c4:Bool),np c4=some r∧aE=⟨29,[(2,.bool c4)],[]⟩) ?_ ?_
   ·refine tR<|rM J J<|rM J J<|ae.guard J J J (fun hc=>?_) (fun hc=>?_)
    ·exact have h:=hZ hc h;rM J J<|rY J J J<|ax h fun v5 e4 h=>aH J (wT e4) cR J<|rT J J J<|rA J J<|rN<|ab.stop<|aj.lq [] ⟨v5,h,J⟩ J J
    ·exact have h:=ir hc h;rG J J J J<|rE J J J<|rA J J<|rN<|ab.stop<|aj.lq [] ⟨false,h,J⟩ J J
   ·rintro aE ⟨c4,h,rfl⟩
    unfold np at h
    refine ab.ret<|?_
    cases h
    exact hP J J
theorem vJ {aa:List ai} {r:Int} (h:jS aa=some r):Pu Tryz.prog 213 [gz aa] (I r):=by
 unfold jS at h
 refine aI.aZ Tryz.func213 J Tryz.ntmps213 Tryz.results213 J J ?_
 refine az<|rA J J<|rN<|tS<|ab.block<|az<|rM J J<|ae.qv (bB J) J<|ae.qv (cx J J) J<|rA J J<|rN<|cD h J (fun h=>?_) (fun h=>?_)
 ·refine az<|rA J J<|rN<|ab.ret<|?_
  cases h
  exact hP J J
 ·refine az<|rM J J<|ae.qv (bB J) J<|ae.qv (cS J J) J<|rA J J<|rN<|cD h J (fun h=>?_) (fun h=>?_)
  ·refine az<|rA J J<|rN<|ab.ret<|?_
   cases h
   exact hP J J
  ·refine tK<|ab.bX<|tS<|az<|rM J J<|ae.qv (bB J) J<|rM J J<|rN<|ab.block<|ab.bO (fun x:Int=>gY aa x) (fun x aE=>aE=⟨35,[(0,gz aa),(13,gz aa),(14,I (aa.length:Int)),(15,I x)],[]⟩) h ?_ ?_
   ·exact aj.lq [] J J J
   ·intro n2 z1 aE J1 dh h im dN
    obtain rfl:=dh
    replace h:gY aa n2=some z1:=h
    unfold gY at h
    refine az<|ae.qv (br J J) J<|rN<|tS<|cD h J (fun h=>?_) (fun h=>?_)
    ·refine tK<|tS<|ab.block<|az<|rM J J<|ax h fun v3 e1 h=>ae.qv (aS J J J e1 J J) J<|ae.qv (aJ J J J) J<|rA J J<|rA J J<|rN<|tS<|az<|rM J J<|ax h fun v4 e2 h=>aH J (zk e2) cR J<|ae.qv (bF J) J<|rN<|cB h J (fun h=>?_) (fun h=>?_)
     ·refine az<|rA J J<|rN<|ab.ret<|have h:=bx h dN;?_
      cases h
      exact hP J J
     ·refine tK<|tS<|ab.cut (fun aE=>∃ (c5:Bool),jv n2 c5=some z1∧aE=⟨35,[(0,gz aa),(13,gz aa),(14,I (aa.length:Int)),(15,I n2),(33,.bool c5)],[]⟩) ?_ ?_
      ·refine tR<|rM J J<|ae.qv (cS J J) J<|rM J J<|gT h J J J (fun h=>?_) (fun h=>?_)
       ·exact rM J J<|rY J J J<|rM J J<|rY J J J<|rM J J<|rY J J J<|ae.qv (fm J J) J<|rY J J J<|ax h fun v6 e3 h=>ae.qv (aS J J J e3 J J) J<|rY J J J<|ae.qv (aJ J J J) J<|rY J J J<|ae.qv (od J J) J<|rT J J J<|rN<|ab.stop<|aj.lq [] ⟨Op.bytesLess v3 v6||v3==v6,h,J⟩ J J
       ·exact rG J J J J<|rG J J J J<|rG J J J J<|rG J J J J<|rG J J J J<|rG J J J J<|rE J J J<|rN<|ab.stop<|aj.lq [] ⟨false,h,J⟩ J J
      ·rintro aE ⟨c5,h,rfl⟩
       unfold jv at h
       refine cB h J (fun h=>?_) (fun h=>?_)
       ·refine az<|rA J J<|rN<|ab.ret<|have h:=bx h dN;?_
        cases h
        exact hP J J
       ·refine tK<|ab.bX<|tR<|ae.qv (bf J J) J<|rM J J<|rN<|ab.stop<|?_
        cases h
        exact im _ _ J<|aj.lq [] J J J
    ·refine ab.exit J<|have h:=bx h dN;az<|rA J J<|rN<|ab.ret<|?_
     cases h
     exact hP J J
theorem wU {bn:Bk} {bN:Bk} {cz:Bk} {cM:Bk} {cN:Bk} {dQ:Bk} {aa:aq} {r:Int} (h:gE aa=some r):aI Tryz.prog 138 [.ptr bn 0] [(bn,.cells (tt aa bN cz cM cN dQ))] (T0 ([(bn,.cells (tt aa bN cz cM cN dQ))]) (I r)):=by
 unfold gE at h
 refine aI.fD ?_
 refine aI.aZ Tryz.func138 J Tryz.ntmps138 Tryz.results138 J J ?_
 refine az<|rA J J<|rN<|tS<|az<|rM J J<|ae.qv (ba J) J<|rF J J J<|rF J J J<|rL J J .p0 J J<|ae.qv (bB J) J<|ae.qv (cS J J) J<|rN<|cD h J (fun h=>?_) (fun h=>?_)
 ·refine az<|rA J J<|rN<|ab.ret<|?_
  cases h
  exact hH J [0] J ⟨J,J⟩
 ·refine tK<|tS<|az<|rM J J<|ae.qv (ba J) J<|rF J J J<|rF J J J<|rL J J .p0 J J<|ae.qv (bB J) J<|rM J J<|rN<|ab.block<|ab.bO (fun x:Int=>cP aa x) (fun x aE=>aE=⟨52,[(0,.ptr bn 0),(17,yw aa.aW.bd),(18,I (aa.aW.bd.length:Int)),(19,I x)],[(bn,.cells (tt aa bN cz cM cN dQ))]⟩) h ?_ ?_
  ·exact aj.lq [0] J J J
  ·intro n2 z1 aE J1 dh h im dN
   obtain rfl:=dh
   replace h:cP aa n2=some z1:=h
   unfold cP at h
   refine az<|ae.qv (br J J) J<|rN<|tS<|cD h J (fun h=>?_) (fun h=>?_)
   ·refine tK<|tS<|ab.block<|az<|rM J J<|ax h fun v3 e1 h=>ae.qv (aS J J J e1 J J) J<|ae.qv (aM J J J) J<|bu J J J J fun b4=>rA J J<|ay J J J J .p0 J J<|rN<|tS<|az<|rF J J J<|rL J J .p0 J J<|ax h fun v5 e2 h=>aH J (lR e2) cR J<|ae.qv (bF J) J<|rN<|cB h J (fun h=>?_) (fun h=>?_)
    ·refine az<|rA J J<|rN<|ab.ret<|have h:=bx h dN;?_
     cases h
     exact hH J [1] J ⟨J,J⟩
    ·refine tK<|tS<|tS<|ab.cut (fun aE=>∃ (c6:Bool),ee n2 v3 c6=some z1∧aE=⟨52,[(0,.ptr bn 0),(4,.ptr b4 0),(17,yw aa.aW.bd),(18,I (aa.aW.bd.length:Int)),(19,I n2),(44,.bool c6)],[(bn,.cells (tt aa bN cz cM cN dQ)),(b4,.cells [.str v3.Key,gz v3.lI])]⟩) ?_ ?_
     ·refine ab.cA (id:=8) (A:=[0,1,3,7,15,7,39,103,231,487,7,1031,4071,8167,16359,32767,65535]) 17 mixed J (by kernel_rfl) (by kernel_rfl)<|AM.qv (aO J) J<|AM.qv (cS J J) J<|AM.qv (aO J) J<|AM.cq J J J (fun hc=>?_) (fun hc=>?_)
      ·exact have h:=hZ hc h;AM.qv (ar J J) J<|AM.an J J J<|AM.qv (aD J J .p0 J) J<|AM.an J J J<|AM.qv (aO J) J<|AM.an J J J<|AM.qv (ba J) J<|AM.an J J J<|AM.qv (ar J J) J<|AM.an J J J<|AM.qv (ar J J) J<|AM.an J J J<|AM.qv (aD J J .p1 J) J<|AM.an J J J<|AM.qv (aO J) J<|AM.an J J J<|AM.qv (fm J J) J<|AM.an J J J<|ax h fun v7 e3 h=>AM.qv (aS J J J e3 J J) J<|AM.an J J J<|AM.qv (bY J J) J<|AM.an J J J<|AM.qv (aJ J J J) J<|AM.an J J J<|AM.qv (od J J) J<|AM.qv (cQ J J) J<|AM.nil<|rN<|ab.stop<|aj.lq [1,0] ⟨Op.bytesLess v3.Key v7.Key||v3.Key==v7.Key,h,J⟩ J J
      ·exact have h:=wM hc h;AM.al J J J J<|AM.al J J J J<|AM.al J J J J<|AM.al J J J J<|AM.al J J J J<|AM.al J J J J<|AM.al J J J J<|AM.al J J J J<|AM.al J J J J<|AM.al J J J J<|AM.al J J J J<|AM.al J J J J<|AM.qv (eE J J) J<|AM.nil<|rN<|ab.stop<|aj.lq [1,0] ⟨false,h,J⟩ J J
     ·rintro aE ⟨c6,h,rfl⟩
      unfold ee at h
      refine cB h J (fun h=>?_) (fun h=>?_)
      ·refine az<|rA J J<|rN<|ab.ret<|have h:=bx h dN;?_
       cases h
       exact hH J [0] J ⟨J,J⟩
      ·refine tK<|az<|rF J J J<|rL J J .p1 J J<|ax h fun v8 e4 h=>aH J (vJ e4) cR J<|rA J J<|rN<|az<|rM J J<|ae.qv (ei J J) J<|rN<|cD h J (fun h=>?_) (fun h=>?_)
       ·refine az<|rM J J<|rA J J<|rN<|ab.ret<|have h:=bx h dN;?_
        cases h
        exact hH J [0] J ⟨J,J⟩
       ·refine tK<|ab.bX<|tR<|ae.qv (bf J J) J<|rM J J<|rN<|ab.stop<|?_
        cases h
        exact im _ _ J<|aj.lq [0] J J J
   ·refine ab.exit J<|have h:=bx h dN;az<|rA J J<|rN<|ab.ret<|?_
    cases h
    exact hH J [0] J ⟨J,J⟩
theorem mX [GI:bD] {aa:List Int} {r:Int} (h:gh aa=some r):Pu Tryz.prog 56 [cC aa] (I r):=by
 unfold gh at h
 refine aI.aZ Tryz.func56 J Tryz.ntmps56 Tryz.results56 J J ?_
 refine az<|rA J J<|rN<|az<|rA J J<|rN<|tS<|az<|rM J J<|ae.qv (bB J) J<|rM J J<|rN<|ab.block<|ab.bO (fun x:Int=>tL aa x) (fun x aE=>aE=⟨18,[(3,I (0:Int)),(6,cC aa),(7,I (aa.length:Int)),(8,I x)],[]⟩) h ?_ ?_
 ·exact aj.lq [] J J J
 ·intro n2 z1 aE J1 dh h im dN
  obtain rfl:=dh
  replace h:tL aa n2=some z1:=h
  unfold tL at h
  refine az<|ae.qv (br J J) J<|rN<|tS<|cD h J (fun h=>?_) (fun h=>?_)
  ·refine tK<|tS<|ab.block<|az<|ax h fun v3 e1 h=>ae.qv (aS J J J e1 J J) J<|ae.qv (aJ J J J) J<|rA J J<|rN<|az<|rM J J<|rM J J<|ae.qv (ei J J) J<|rN<|cD h J (fun h=>?_) (fun h=>?_)
   ·refine az<|rM J J<|rA J J<|rN<|ab.ret<|have h:=bx h dN;?_
    cases h
    exact hP J J
   ·refine tK<|ab.bX<|tR<|ae.qv (bf J J) J<|rM J J<|rN<|ab.stop<|?_
    cases h
    exact im _ _ J<|aj.lq [] J J J
  ·refine ab.exit J<|have h:=bx h dN;az<|rM J J<|rA J J<|rN<|ab.ret<|?_
   cases h
   exact hP J J
theorem Cc [GI:bD] {aa:aQ} {ak:aQ} {r:Int} (h:nq aa ak=some r):Pu Tryz.prog 214 [aQ.av aa,aQ.av ak] (I r):=by
 unfold nq at h
 refine aI.aZ Tryz.func214 J Tryz.ntmps214 Tryz.results214 J J ?_
 refine az<|cJ J J J J fun b1=>cJ J J J J fun b2=>rA J J<|rN<|tS<|ab.cA (id:=1) (A:=[0,1,0,4,15,0,32,0,128,511,0,1024,0,4096,16383,32767,65535,131071]) 18 mixed J (by kernel_rfl) (by kernel_rfl)<|AM.qv (ar J J) J<|AM.qv (aD J J .p1 J) J<|AM.qv (ar J J) J<|AM.qv (aD J J .p0 J) J<|AM.cT J (dD J) cR J<|AM.qv (ar J J) J<|AM.qv (aD J J .p1 J) J<|AM.qv (ar J J) J<|AM.qv (aD J J .p0 J) J<|AM.cT J (dD J) cR J<|AM.qv (ar J J) J<|AM.qv (aD J J .p1 J) J<|AM.qv (ar J J) J<|AM.qv (aD J J .p0 J) J<|AM.cT J (dD J) cR J<|AM.a8 (xs:=([(Lib.compareBytes aa.ek ak.ek),(Lib.compareBytes aa.au ak.au),(Lib.compareBytes aa.bH ak.bH)]:List Int).map I) J J J J J J<|ax h fun v3 e1 h=>AM.cT J (mX e1) cR J<|AM.qv (bR J) J<|AM.nil<|rN<|ab.ret<|?_
 cases h
 exact hP J J
theorem vK [GI:bD] {bn:Bk} {bN:Bk} {cz:Bk} {cM:Bk} {cN:Bk} {dQ:Bk} {aa:aq} {r:Int} (h:eA aa=some r):aI Tryz.prog 139 [.ptr bn 0] [(bn,.cells (tt aa bN cz cM cN dQ)),(bN,ed aa.aT),(cz,il aa.bU)] (T0 ([(bn,.cells (tt aa bN cz cM cN dQ)),(bN,ed aa.aT),(cz,il aa.bU)]) (I r)):=by
 unfold eA at h
 refine aI.fD ?_
 refine aI.aZ Tryz.func139 J Tryz.ntmps139 Tryz.results139 J J ?_
 refine az<|rA J J<|rN<|tS<|az<|rM J J<|ae.qv (ba J) J<|rF J J J<|rF J J J<|rL J J .p0 J J<|ae.qv (bB J) J<|ae.qv (cS J J) J<|rN<|cD h J (fun h=>?_) (fun h=>?_)
 ·refine az<|rA J J<|rN<|ab.ret<|?_
  cases h
  exact hH J [0,0,0] J ⟨J,J⟩
 ·refine tK<|tS<|az<|rM J J<|ae.qv (ba J) J<|rF J J J<|rF J J J<|rL J J .p0 J J<|ae.qv (bB J) J<|rM J J<|rN<|ab.block<|ab.bO (fun x:Int=>eJ aa x) (fun x aE=>aE=⟨68,[(0,.ptr bn 0),(18,w9 aa.aW.aG),(19,I (aa.aW.aG.length:Int)),(20,I x)],[(bn,.cells (tt aa bN cz cM cN dQ)),(bN,ed aa.aT),(cz,il aa.bU)]⟩) h ?_ ?_
  ·exact aj.lq [0,0,0] J J J
  ·intro n2 z1 aE J1 dh h im dN
   obtain rfl:=dh
   replace h:eJ aa n2=some z1:=h
   unfold eJ at h
   refine az<|ae.qv (br J J) J<|rN<|tS<|cD h J (fun h=>?_) (fun h=>?_)
   ·refine tK<|tS<|ab.block<|az<|rM J J<|ax h fun v3 e1 h=>ae.qv (aS J J J e1 J J) J<|ae.qv (aM J J J) J<|bu J J J J fun b4=>rA J J<|ay J J J J .p0 J J<|rN<|tS<|ab.cA (id:=6) (A:=[0,1,3,7,0,16,63,127,255,255,511,2047]) 12 mixed J (by kernel_rfl) (by kernel_rfl)<|AM.qv (aO J) J<|AM.qv (ba J) J<|AM.qv (ar J J) J<|AM.qv (aD J J .p1 J) J<|AM.qv (ar J J) J<|AM.qv (aD J J .p0 J) J<|ax h fun v5 e2 h=>AM.qv (Fy (gk:=AV.str) (gv:=(A6 1 AV.str)) (M:=aa.bU) (key:=v3.bH) (Z:=[]) J J .p3 J J e2 J) J<|AM.qv (aO J) J<|AM.qv (CQ J J) J<|AM.qv (CQ J J) J<|AM.qv (bR J) J<|AM.qv (bR J) J<|AM.nil<|rN<|ab.block<|az<|rF J J J<|rL J J .p0 J J<|ax h fun v6 e3 h=>aH J (lR e3) cR J<|ae.qv (bF J) J<|rA J J<|rN<|cB h J (fun h=>?_) (fun h=>?_)
    ·refine az<|rA J J<|rN<|ab.ret<|have h:=bx h dN;?_
     cases h
     exact hH J [1,1,1] J ⟨J,J⟩
    ·refine tS<|ab.cut (fun aE=>∃ (c7:Bool),cH aa n2 v3 c7=some z1∧aE=⟨68,[(0,.ptr bn 0),(3,I n2),(4,.ptr b4 0),(18,w9 aa.aW.aG),(19,I (aa.aW.aG.length:Int)),(20,I n2),(40,.bool c7)],[(bn,.cells (tt aa bN cz cM cN dQ)),(bN,ed aa.aT),(cz,il aa.bU),(b4,.cells [.str v3.ek,.str v3.au,.str v3.bH])]⟩) ?_ ?_
     ·refine tR<|rM J J<|rF J J J<|rL J J .p0 J J<|ax h fun v8 e4 h=>aR J (mx e4) cR (.cons .p1 (.cons .p1 .nil)) J J<|ae.qv (bF J) J<|rM J J<|ae.guard J J J (fun hc=>?_) (fun hc=>?_)
      ·rw [GR hc] at h
       exact rM J J<|rY J J J<|ae.qv (bF J) J<|rE J J J<|rA J J<|rN<|ab.stop<|aj.lq [0,0,1,0] ⟨!v5.2,h,J⟩ J J
      ·rw [GQ hc] at h
       exact rG J J J J<|rT J J J<|rA J J<|rN<|ab.stop<|aj.lq [0,0,1,0] ⟨true,h,J⟩ J J
     ·rintro aE ⟨c7,h,rfl⟩
      unfold cH at h
      refine cB h J (fun h=>?_) (fun h=>?_)
      ·refine az<|rA J J<|rN<|ab.ret<|have h:=bx h dN;?_
       cases h
       exact hH J [0,0,0] J ⟨J,J⟩
      ·refine tS<|ab.cut (fun aE=>∃ (c9:Bool),cG n2 c9=some z1∧aE=⟨68,[(0,.ptr bn 0),(18,w9 aa.aW.aG),(19,I (aa.aW.aG.length:Int)),(20,I n2),(50,.bool c9)],[(bn,.cells (tt aa bN cz cM cN dQ)),(bN,ed aa.aT),(cz,il aa.bU)]⟩) ?_ ?_
       ·refine ab.cA (id:=11) (A:=[0,1,3,7,7,23,55,119,247,7,519,2039,4087,8191,16383,32767,65535]) 17 mixed J (by kernel_rfl) (by kernel_rfl)<|AM.qv (aO J) J<|AM.qv (cS J J) J<|AM.qv (aO J) J<|AM.cq J J J (fun hc=>?_) (fun hc=>?_)
        ·exact have h:=hZ hc h;AM.qv (aA J J .p3 J) J<|AM.an J J J<|AM.qv (aO J) J<|AM.an J J J<|AM.qv (ba J) J<|AM.an J J J<|AM.qv (ar J J) J<|AM.an J J J<|AM.qv (ar J J) J<|AM.an J J J<|AM.qv (aD J J .p0 J) J<|AM.an J J J<|AM.qv (aO J) J<|AM.an J J J<|AM.qv (fm J J) J<|AM.an J J J<|ax h fun v10 e5 h=>AM.qv (aS J J J e5 J J) J<|AM.an J J J<|AM.qv (aM J J J) J<|AM.an J J J<|ax h fun v11 e6 h=>AM.cT J (Cc e6) cR J<|AM.an J J J<|AM.qv (sS J J) J<|AM.qv (cQ J J) J<|AM.qv (bR J) J<|AM.nil<|rN<|ab.stop<|aj.lq [0,0,0] ⟨decide (v11≤(0:Int)),h,J⟩ J J
        ·exact have h:=wM hc h;AM.al J J J J<|AM.al J J J J<|AM.al J J J J<|AM.al J J J J<|AM.al J J J J<|AM.al J J J J<|AM.al J J J J<|AM.al J J J J<|AM.al J J J J<|AM.al J J J J<|AM.al J J J J<|AM.qv (eE J J) J<|AM.qv (bR J) J<|AM.nil<|rN<|ab.stop<|aj.lq [0,0,0] ⟨false,h,J⟩ J J
       ·rintro aE ⟨c9,h,rfl⟩
        unfold cG at h
        refine cB h J (fun h=>?_) (fun h=>?_)
        ·refine az<|rA J J<|rN<|ab.ret<|have h:=bx h dN;?_
         cases h
         exact hH J [0,0,0] J ⟨J,J⟩
        ·refine tK<|ab.bX<|ab.bX<|tR<|ae.qv (bf J J) J<|rM J J<|rN<|ab.stop<|?_
         cases h
         exact im _ _ J<|aj.lq [0,0,0] J J J
   ·refine ab.exit J<|have h:=bx h dN;az<|rA J J<|rN<|ab.ret<|?_
    cases h
    exact hH J [0,0,0] J ⟨J,J⟩
end Go.Proofs.YtnchkajkgjkpmaaGreatDoor
