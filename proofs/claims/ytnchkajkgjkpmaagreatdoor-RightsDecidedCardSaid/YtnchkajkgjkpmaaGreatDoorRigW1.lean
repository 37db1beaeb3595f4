/- The code computes the plain functions: proofs written by shal.py. -/
import Derived.Test.YtnchkajkgjkpmaaGreatDoorRigP
import Derived.Test.YtnchkajkgjkpmaaGreatDoorLib
set_option maxHeartbeats 4000000
set_option maxRecDepth 100000
set_option linter.unusedVariables false
set_option linter.unusedSimpArgs false
namespace Go.Proofs.YtnchkajkgjkpmaaGreatDoor
open Go Go.Eng Go.Proofs Go.Beacon
attribute [local irreducible] ARun ATodo AQ QV ACall ImpX AWp AM
instance aiL:KZ Tryz.prog 35:=⟨by kernel_rfl⟩
instance aiM:ug Tryz.prog 35 2 Version.av:=⟨fun x y w S v u hv hu=>by
 obtain ⟨vs,rfl,hl,ha⟩:=At.kY hv
 obtain ⟨us,rfl,Cf,KM⟩:=At.kY hu
 obtain ⟨v0,p0,q0⟩:=nX.get hl ha (off:=0) rfl
 obtain ⟨u0,Vw,Vx⟩:=nX.get Cf KM (off:=0) rfl
 obtain ⟨v1,p1,q1⟩:=nX.get hl ha (off:=1) rfl
 obtain ⟨u1,Vy,Vz⟩:=nX.get Cf KM (off:=1) rfl
 obtain ⟨v2,p2,q2⟩:=nX.get hl ha (off:=2) rfl
 obtain ⟨u2,p2',q2'⟩:=nX.get Cf KM (off:=2) rfl
 refine Be.cast (Be.struct Tryz.underlying35 (by kernel_rfl) (.cons (by decide) (fh J p0) (fh J Vw) (Be.up (ug.h (g:=I) x.bH y.bH w S _ _ q0 Vx) 0) (.cons (by decide) (fh J p1) (fh J Vy) (Be.up (ug.h (g:=I) x.bI y.bI w S _ _ q1 Vz) 0) (.cons (by decide) (fh J p2) (fh J p2') (Be.up (ug.h (g:=I) x.bF y.bF w S _ _ q2 q2') 0) .nil)))) ?_
 obtain ⟨_,_,_⟩:=x
 obtain ⟨_,_,_⟩:=y
 rw [Bool.eq_iff_iff];simp [and_assoc]⟩
instance aiN:KZ Tryz.prog 65:=⟨by kernel_rfl⟩
instance aiO:ug Tryz.prog 65 2 Reason.av:=⟨fun x y w S v u hv hu=>by
 obtain ⟨vs,rfl,hl,ha⟩:=At.kY hv
 obtain ⟨us,rfl,Cf,KM⟩:=At.kY hu
 obtain ⟨v0,p0,q0⟩:=nX.get hl ha (off:=0) rfl
 obtain ⟨u0,Vw,Vx⟩:=nX.get Cf KM (off:=0) rfl
 obtain ⟨v1,p1,q1⟩:=nX.get hl ha (off:=1) rfl
 obtain ⟨u1,Vy,Vz⟩:=nX.get Cf KM (off:=1) rfl
 refine Be.cast (Be.struct Tryz.underlying65 (by kernel_rfl) (.cons (by decide) (fh J p0) (fh J Vw) (Be.up (ug.h (g:=I) x.aK y.aK w S _ _ q0 Vx) 0) (.cons (by decide) (fh J p1) (fh J Vy) (Be.up (ug.h (g:=AV.str) x.bA y.bA w S _ _ q1 Vz) 0) .nil))) ?_
 obtain ⟨_,_⟩:=x
 obtain ⟨_,_⟩:=y
 rw [Bool.eq_iff_iff];simp [and_assoc]⟩
instance abA:KZ Tryz.prog 101:=⟨by kernel_rfl⟩
instance abB:ug Tryz.prog 101 2 a8.av:=⟨fun x y w S v u hv hu=>by
 obtain ⟨vs,rfl,hl,ha⟩:=At.kY hv
 obtain ⟨us,rfl,Cf,KM⟩:=At.kY hu
 obtain ⟨v0,p0,q0⟩:=nX.get hl ha (off:=0) rfl
 obtain ⟨u0,Vw,Vx⟩:=nX.get Cf KM (off:=0) rfl
 obtain ⟨v1,p1,q1⟩:=nX.get hl ha (off:=1) rfl
 obtain ⟨u1,Vy,Vz⟩:=nX.get Cf KM (off:=1) rfl
 obtain ⟨v2,p2,q2⟩:=nX.get hl ha (off:=2) rfl
 obtain ⟨u2,p2',q2'⟩:=nX.get Cf KM (off:=2) rfl
 obtain ⟨v3,p3,q3⟩:=nX.get hl ha (off:=3) rfl
 obtain ⟨u3,p3',q3'⟩:=nX.get Cf KM (off:=3) rfl
 refine Be.cast (Be.struct Tryz.underlying101 (by kernel_rfl) (.cons (by decide) (fh J p0) (fh J Vw) (Be.up (ug.h (g:=I) x.Kind y.Kind w S _ _ q0 Vx) 0) (.cons (by decide) (fh J p1) (fh J Vy) (Be.up (ug.h (g:=AV.bool) x.bV y.bV w S _ _ q1 Vz) 0) (.cons (by decide) (fh J p2) (fh J p2') (Be.up (ug.h (g:=I) x.Number y.Number w S _ _ q2 q2') 0) (.cons (by decide) (fh J p3) (fh J p3') (Be.up (ug.h (g:=AV.str) x.Words y.Words w S _ _ q3 q3') 0) .nil))))) ?_
 obtain ⟨_,_,_,_⟩:=x
 obtain ⟨_,_,_,_⟩:=y
 rw [Bool.eq_iff_iff];simp [and_assoc]⟩
instance abC:ug Tryz.prog 241 2 aX.av:=⟨fun x y w S v u hv hu=>by
 obtain ⟨vs,rfl,hl,ha⟩:=At.kY hv
 obtain ⟨us,rfl,Cf,KM⟩:=At.kY hu
 obtain ⟨v0,p0,q0⟩:=nX.get hl ha (off:=0) rfl
 obtain ⟨u0,Vw,Vx⟩:=nX.get Cf KM (off:=0) rfl
 obtain ⟨v1,p1,q1⟩:=nX.get hl ha (off:=1) rfl
 obtain ⟨u1,Vy,Vz⟩:=nX.get Cf KM (off:=1) rfl
 refine Be.cast (Be.struct Tryz.underlying241 (by kernel_rfl) (.cons (by decide) (fh J p0) (fh J Vw) (Be.up (ug.h (g:=AV.str) x.a_ y.a_ w S _ _ q0 Vx) 0) (.cons (by decide) (fh J p1) (fh J Vy) (Be.up (ug.h (g:=AV.str) x.b_ y.b_ w S _ _ q1 Vz) 0) .nil))) ?_
 obtain ⟨_,_⟩:=x
 obtain ⟨_,_⟩:=y
 rw [Bool.eq_iff_iff];simp [and_assoc]⟩
instance abD:iX Tryz.prog 241 aX.av:=iX.struct (n:=2) J Tryz.underlying241 (fun f hf=>by
 simp only [List.mem_cons,List.not_mem_nil,or_false] at hf
 rcases hf with rfl | rfl
 ·exact ⟨_,ay.h (P:=Tryz.prog) (t:=9),J,by decide⟩
 ·exact ⟨_,ay.h (P:=Tryz.prog) (t:=9),J,by decide⟩) (fun x=>⟨_,J,J,fun c hc=>by
 simp only [List.mem_cons,List.not_mem_nil,or_false] at hc
 rcases hc with rfl | rfl<;>rfl⟩) (fun a b h=>by
 obtain ⟨_,_⟩:=a
 obtain ⟨_,_⟩:=b
 simpa [aX.av] using h)
abbrev cz (xs:List Int):AV:=.list 1 (xs.map I)
abbrev ph (xs:List ae):AV:=.list 1 (xs.map AV.str)
abbrev yg (xs:List ar):AV:=.list 2 (xs.map ar.av)
abbrev By (xs:List bN):AV:=.list 2 (xs.map bN.av)
abbrev FU (xs:List aK):Ob:=.arr 3 (xs.map aK.av)
abbrev oX (xs:List Query):AV:=.list 11 (xs.map Query.av)
abbrev SG (xs:List Query):Ob:=.arr 11 (xs.map Query.av)
abbrev xi (x:Query):List AV:=[I x.Kind,.str x.Field,.str x.Op,I x.Value.Kind,.bool x.Value.bV,I x.Value.Number,.str x.Value.Words,I x.Version.bH,I x.Version.bI,I x.Version.bF,oX x.Kids]
abbrev JK (xs:List bA):Ob:=.arr 17 (xs.map bA.av)
abbrev FV (xs:List ar):Ob:=.arr 2 (xs.map ar.av)
abbrev FW (xs:List bN):Ob:=.arr 2 (xs.map bN.av)
abbrev W6 (x:bb) (b0 b1 b2 b3:Bk):List AV:=[.sl 2 b0 0 x.al.length,.sl 2 b1 0 x.bj.length,.sl 3 b2 0 x.aD.length,.sl 17 b3 0 x.aI.length]
abbrev OK (xs:List jk):Ob:=.arr 2 (xs.map jk.av)
abbrev SH (xs:List ew):Ob:=.arr 5 (xs.map ew.av)
abbrev Lw (xs:List aE):Ob:=.arr 8 (xs.map aE.av)
abbrev zK (xs:List aK):AV:=.list 3 (xs.map aK.av)
abbrev xZ (xs:List bA):AV:=.list 17 (xs.map bA.av)
abbrev xj (x:bb):List AV:=[yg x.al,By x.bj,zK x.aD,xZ x.aI]
abbrev eU (xs:List (ae×ae)):Ob:=.mp (xs.map (fun e=>(AV.str e.1,AV.str e.2)))
abbrev nA (xs:List (ae×(List ae))):Ob:=.mp (xs.map (fun e=>(AV.str e.1,(Ba 1 AV.str) e.2)))
abbrev pq (xs:List (aX×(List Int))):Ob:=.mp (xs.map (fun e=>(aX.av e.1,(Ba 1 I) e.2)))
abbrev yh (xs:List (aX×Bool)):Ob:=.mp (xs.map (fun e=>(aX.av e.1,AV.bool e.2)))
abbrev Lx (xs:List Int):Ob:=.arr 1 (xs.map I)
abbrev sq (x:ak) (b4 b5 b6 b7 b8:Bk):List AV:=[yg x.bb.al,By x.bb.bj,zK x.bb.aD,xZ x.bb.aI,.bZ b4,.bZ b5,.bZ b6,.bZ b7,.bZ b8]
abbrev sd (xs:List (ae×(List Int))):Ob:=.mp (xs.map (fun e=>(AV.str e.1,(Ba 1 I) e.2)))
abbrev pw (xs:List ae):Ob:=.arr 1 (xs.map AV.str)
abbrev Rv (x:bA):List AV:=[.str x.Key,.str x.jj,.str x.To,I x.Query.Kind,.str x.Query.Field,.str x.Query.Op,I x.Query.Value.Kind,.bool x.Query.Value.bV,I x.Query.Value.Number,.str x.Query.Value.Words,I x.Query.Version.bH,I x.Query.Version.bI,I x.Query.Version.bF,oX x.Query.Kids,ph x.lI,I x.Time.jj,I x.Time.To]
abbrev N0 (xs:List jk):AV:=.list 2 (xs.map jk.av)
abbrev N1 (xs:List ew):AV:=.list 5 (xs.map ew.av)
abbrev zL (x:aE):List AV:=[.str x.Device.Key,.str x.Device.Model,.str x.Device.ar,I x.Device.dO.bH,I x.Device.dO.bI,I x.Device.dO.bF,N0 x.Device.kO,N1 x.ey]
abbrev VA (x:HI):List AV:=[.str x.Key,.str x.Model,.str x.ar,I x.dO.bH,I x.dO.bI,I x.dO.bF,N0 x.kO]
abbrev cE7 (x:ew):List AV:=[.str x.Name,I x.Value.Kind,.bool x.Value.bV,I x.Value.Number,.str x.Value.Words]
abbrev wX (xs:List Reason):Ob:=.arr 2 (xs.map Reason.av)
abbrev Ly (xs:List Reason):AV:=.list 2 (xs.map Reason.av)
abbrev IK (xs:List aE):AV:=.list 8 (xs.map aE.av)
abbrev Yp (xs:List Bool):AV:=.list 1 (xs.map AV.bool)
abbrev Yq (xs:List Int):AV:=.list 1 (xs.map (AV.int .u8))
abbrev VB (xs:List bb):AV:=.list 4 (xs.map bb.av)
abbrev SI (xs:List (List ae)):AV:=.list 1 (xs.map (Ba 1 AV.str))
theorem HN [GI:bc] {aa:Int} {ah:Int} {r:Int} (h:Below aa ah=some r):Pu Tryz.prog 120 [I aa,I ah] (I r):=by
 unfold Below at h
 refine ACall.aQ Tryz.func120 J Tryz.ntmps120 Tryz.results120 J J ?_
 refine ax<|rA J J<|rN<|tS<|ax<|rM J J<|ARun.qv (bu J J) J<|rN<|cD h J (fun h=>?_) (fun h=>?_)
 ·refine ax<|rA J J<|rN<|ATodo.ret<|?_
  cases h
  exact hP J J
 ·refine tK<|ax<|rM J J<|rM J J<|aq h fun n1 e1 h=>ARun.qv (Pf J J e1) J<|rA J J<|rN<|tS<|ax<|rM J J<|ARun.qv (bu J J) J<|rN<|ATodo.cut (fun aB=>∃ (n2:Int),yE n2=some r∧aB=⟨16,[(0,I n2)],[]⟩) ?_ ?_
  ·refine cD h J (fun h=>?_) (fun h=>?_)
   ·exact tR<|rM J J<|rM J J<|ARun.qv (bh J J) J<|rA J J<|rN<|ATodo.stop<|ImpX.lq [] ⟨cr (n1+ah),h,J⟩ J J
   ·exact tK<|ATodo.stop<|ImpX.lq [] ⟨n1,h,J⟩ J J
  ·rintro aB ⟨n2,h,rfl⟩
   unfold yE at h
   refine ax<|rM J J<|rA J J<|rN<|ATodo.ret<|?_
   cases h
   exact hP J J
theorem cU [GI:bc] {bd:Bk} {aa:ab} {ah:Int} {r:Int×ab} (h:cH aa ah=some r):ACall Tryz.prog 43 [.ptr bd 0,I ah] [(bd,.cells [cz aa.L,I aa.at_])] (T0 ([(bd,.cells [cz r.2.L,I r.2.at_])]) (I r.1)):=by
 unfold cH at h
 refine ACall.dN ?_
 refine ACall.aQ Tryz.func43 J Tryz.ntmps43 Tryz.results43 J J ?_
 refine ax<|rA J J<|rN<|ax<|rM J J<|ARun.qv (aV J) J<|rF J J J<|rL J J .p0 J J<|ARun.qv (bh J J) J<|ARun.qv (aV J) J<|rF J J J<|au J J J J .p0 J J<|rN<|tS<|ax<|rM J J<|ARun.qv (aV J) J<|rF J J J<|rL J J .p0 J J<|ARun.qv (bD J) J<|ARun.qv (bS J J) J<|rN<|cD h J (fun h=>?_) (fun h=>?_)
 ·refine ax<|rM J J<|ARun.qv (aV J) J<|rF J J J<|rL J J .p0 J J<|ARun.qv (OT J J) J<|rM J J<|aq h fun v1 e1 h=>aA J (HN e1) cR J<|rA J J<|rN<|ATodo.ret<|?_
  cases h
  exact hH J [0] J ⟨J,J⟩
 ·refine tK<|tS<|ATodo.ck (id:=4) (A:=[0,1,3,7,15,0,32,96,224,480,1023,2047]) 12 mixed J (by kernel_rfl) (by kernel_rfl)<|AM.qv (aL J) J<|AM.qv (aV J) J<|AM.qv (an J J) J<|AM.qv (az J J .p0 J) J<|AM.qv (gq J J) J<|AM.qv (aL J) J<|AM.qv (aV J) J<|AM.qv (an J J) J<|AM.qv (az J J .p0 J) J<|AM.qv (bD J) J<|aq h fun n2 e2 h=>AM.qv (Pf J J e2) J<|AM.qv (bM J) J<|AM.nil<|rN<|tS<|ATodo.ck (id:=5) (A:=[0,1,3,7,15,0,32,96,224,480,1023,2047]) 12 mixed J (by kernel_rfl) (by kernel_rfl)<|AM.qv (aL J) J<|AM.qv (aV J) J<|AM.qv (an J J) J<|AM.qv (az J J .p0 J) J<|AM.qv (gq J J) J<|AM.qv (aL J) J<|AM.qv (aV J) J<|AM.qv (an J J) J<|AM.qv (az J J .p0 J) J<|AM.qv (bD J) J<|aq h fun n3 e3 h=>AM.qv (UO J J e3) J<|AM.qv (bM J) J<|AM.nil<|rN<|ax<|rM J J<|ARun.qv (aV J) J<|rF J J J<|rL J J .p0 J J<|rM J J<|aq h fun v4 e4 h=>ARun.qv (aP J J J e4 J J) J<|ARun.qv (aG J J J) J<|aq h fun v5 e5 h=>aA J (HN e5) cR J<|rM J J<|rM J J<|ARun.qv (bh J J) J<|ARun.qv (OT J J) J<|ARun.qv (bh J J) J<|rM J J<|aq h fun v6 e6 h=>aA J (HN e6) cR J<|rA J J<|rN<|ATodo.ret<|?_
  cases h
  exact hH J [0] J ⟨J,J⟩
theorem br [GI:bc] {bd:Bk} {aa:ab} {ah:List ae} {r:ae×ab} (h:bx aa ah=some r):ACall Tryz.prog 7 [.ptr bd 0,ph ah] [(bd,.cells [cz aa.L,I aa.at_])] (T0 ([(bd,.cells [cz r.2.L,I r.2.at_])]) (.str r.1)):=by
 unfold bx at h
 refine ACall.dN ?_
 refine ACall.aQ Tryz.func7 J Tryz.ntmps7 Tryz.results7 J J ?_
 refine ax<|rA J J<|rN<|ax<|rM J J<|rM J J<|rM J J<|ARun.qv (bD J) J<|aq h fun v1 e1 h=>aJ J (cU e1) cR (.cons .p0 .nil) J J<|aq h fun v2 e2 h=>ARun.qv (aP J J J e2 J J) J<|ARun.qv (aG J J J) J<|rA J J<|rN<|ATodo.ret<|?_
 cases h
 exact hH J [0] J ⟨J,J⟩
theorem wy [GI:bc] {bd:Bk} {aa:ab} {r:(List ae)×ab} (h:oD aa=some r):ACall Tryz.prog 45 [.ptr bd 0] [(bd,.cells [cz aa.L,I aa.at_])] (T0 ([(bd,.cells [cz r.2.L,I r.2.at_])]) (ph r.1)):=by
 unfold oD at h
 refine ACall.dN ?_
 refine ACall.aQ Tryz.func45 J Tryz.ntmps45 Tryz.results45 J J ?_
 refine ax<|rA J J<|rN<|ax<|aC (xs:=([([42]:ae)]).map AV.str) J J J J J J<|aC (xs:=([([100,101,118,105,99,101,46,42]:ae)]).map AV.str) J J J J J J<|aC (xs:=([([100,101,118,105,99,101,46,114,101,97,100]:ae)]).map AV.str) J J J J J J<|aC (xs:=([([100,101,118,105,99,101,46,114,101,97,100]:ae),([111,114,103,46,42]:ae)]).map AV.str) J J J J J J<|aC (xs:=([([100,101,118,105,99,101,46,114,101,97,100]:ae),([100,101,118,105,99,101,46,119,114,105,116,101]:ae)]).map AV.str) J J J J J J<|aC (xs:=([[([42]:ae)],[([100,101,118,105,99,101,46,42]:ae)],[([100,101,118,105,99,101,46,114,101,97,100]:ae)],[([100,101,118,105,99,101,46,114,101,97,100]:ae),([111,114,103,46,42]:ae)],[([100,101,118,105,99,101,46,114,101,97,100]:ae),([100,101,118,105,99,101,46,119,114,105,116,101]:ae)]]).map (Ba 1 AV.str)) J J J J J J<|rM J J<|aq h fun v1 e1 h=>aJ J (cU e1) cR (.cons .p0 .nil) J J<|aq h fun v2 e2 h=>ARun.qv (aP J J J e2 J J) J<|ARun.qv (aG J J J) J<|rA J J<|rN<|ATodo.ret<|?_
 cases h
 exact hH J [0] J ⟨J,J⟩
theorem dK [GI:bc] {bd:Bk} {aa:ab} {ah:Int} {r:Bool×ab} (h:dp aa ah=some r):ACall Tryz.prog 42 [.ptr bd 0,I ah] [(bd,.cells [cz aa.L,I aa.at_])] (T0 ([(bd,.cells [cz r.2.L,I r.2.at_])]) (.bool r.1)):=by
 unfold dp at h
 refine ACall.dN ?_
 refine ACall.aQ Tryz.func42 J Tryz.ntmps42 Tryz.results42 J J ?_
 refine ax<|rA J J<|rN<|ax<|rM J J<|rM J J<|aq h fun v1 e1 h=>aJ J (cU e1) cR (.cons .p0 .nil) J J<|ARun.qv (bS J J) J<|rA J J<|rN<|ATodo.ret<|?_
 cases h
 exact hH J [0] J ⟨J,J⟩
theorem cj [GI:bc] {bd:Bk} {aa:ab} {ah:List Int} {r:Int×ab} (h:ch aa ah=some r):ACall Tryz.prog 28 [.ptr bd 0,cz ah] [(bd,.cells [cz aa.L,I aa.at_])] (T0 ([(bd,.cells [cz r.2.L,I r.2.at_])]) (I r.1)):=by
 unfold ch at h
 refine ACall.dN ?_
 refine ACall.aQ Tryz.func28 J Tryz.ntmps28 Tryz.results28 J J ?_
 refine ax<|rA J J<|rN<|ax<|rM J J<|rM J J<|rM J J<|ARun.qv (bD J) J<|aq h fun v1 e1 h=>aJ J (cU e1) cR (.cons .p0 .nil) J J<|aq h fun v2 e2 h=>ARun.qv (aP J J J e2 J J) J<|ARun.qv (aG J J J) J<|rA J J<|rN<|ATodo.ret<|?_
 cases h
 exact hH J [0] J ⟨J,J⟩
theorem mz [GI:bc] {VC:Bk} {aa:ab} {r:ae×ab} (h:gz aa=some r):ACall Tryz.prog 193 [.ik [.ptr VC 0]] [(VC,.cells [cz aa.L,I aa.at_])] (T0 ([(VC,.cells [cz r.2.L,I r.2.at_])]) (.str r.1)):=by
 unfold gz at h
 refine ACall.dN ?_
 refine ACall.aQ Tryz.func193 J Tryz.ntmps193 Tryz.results193 J J ?_
 refine ax<|rA J J<|rN<|ax<|ARun.qv (aG J J J) J<|aC (xs:=([([61,61]:ae),([61,61]:ae),([33,61]:ae)]).map AV.str) J J J J J J<|aq h fun v1 e1 h=>aJ J (br e1) cR (.cons .p0 .nil) J J<|rA J J<|rN<|ATodo.ret<|?_
 cases h
 exact hH J [0] J ⟨J,J⟩
theorem pe [GI:bc] {JL:Bk} {aa:List ae} {ah:ab} {r:a8×ab} (h:iR aa ah=some r):ACall Tryz.prog 194 [ph aa,.ik [.ptr JL 0]] [(JL,.cells [cz ah.L,I ah.at_])] (T0 ([(JL,.cells [cz r.2.L,I r.2.at_])]) (a8.av r.1)):=by
 unfold iR at h
 refine ACall.dN ?_
 refine ACall.aQ Tryz.func194 J Tryz.ntmps194 Tryz.results194 J J ?_
 refine ax<|bn J J J J fun b1=>rN<|ax<|ARun.qv (aG J J J) J<|rM J J<|aq h fun v2 e1 h=>aJ J (br e1) cR (.cons .p1 .nil) J J<|ARun.qv (bl J J J J J) J<|au J J J J .p1 J J<|rN<|ATodo.ret<|?_
 cases h
 exact ImpX.here ⟨_,.cons (.all _ _ _ _ _ _ J .p1 ay.h aO.h J J) .nil,_,.cons .p0 .nil,⟨J,J⟩⟩
theorem HO [GI:bc] {r:(List ae)} (h:wQ=r):Pu Tryz.prog 195 [] (ph r):=by
 unfold wQ at h
 refine ACall.aQ Tryz.func195 J Tryz.ntmps195 Tryz.results195 J J ?_
 refine ax<|rA J J<|rN<|ax<|aC (xs:=([([61,61]:ae),([33,61]:ae),([60,61]:ae),([62,61]:ae),([60]:ae),([62]:ae)]).map AV.str) J J J J J J<|rA J J<|rN<|ATodo.ret<|?_
 obtain rfl:=h
 exact hP J J
theorem Ae [GI:bc] {bd:Bk} {aa:ab} {r:Query×ab} (h:qG aa=some r):ACall Tryz.prog 122 [.ptr bd 0] [(bd,.cells [cz aa.L,I aa.at_])] (T0 ([(bd,.cells [cz r.2.L,I r.2.at_])]) (.agg [I r.1.Kind,.str r.1.Field,.str r.1.Op,I r.1.Value.Kind,.bool r.1.Value.bV,I r.1.Value.Number,.str r.1.Value.Words,I r.1.Version.bH,I r.1.Version.bI,I r.1.Version.bF,oX r.1.Kids])):=by
 unfold qG at h
 refine ACall.dN ?_
 refine ACall.aQ Tryz.func122 J Tryz.ntmps122 Tryz.results122 J J ?_
 refine ax<|bO J J J J fun b1=>ARun.ghost<|ImpX.PU (s:=1) J .p0<|ImpX.here<|bn J J J J fun b2=>rN<|ax<|ARun.qv (fI J) J<|rA J J<|rN<|ax<|ARun.qv (fI J) J<|rA J J<|rN<|tS<|ax<|ARun.qv (aG J J J) J<|aq h fun v3 e1 h=>aJ J (cU e1) cR (.cons .p1 .nil) J J<|rN<|ATodo.block<|ax<|ARun.qv (bS J J) J<|rA J J<|rN<|cD h J (fun h=>?_) (fun h=>?_)
 ·refine ax<|ARun.qv (aG J J J) J<|aC (xs:=([([116,97,103,46,115,105,116,101]:ae),([116,97,103,46,111,112,101,110]:ae),([112,114,111,112,46,97]:ae),([112,114,111,112,46,102,97,110,46,111,110]:ae)]).map AV.str) J J J J J J<|aq h fun v4 e2 h=>aJ J (br e2) cR (.cons .p0 .nil) J J<|ARun.qv (bl J J J J J) J<|au J J J J .p1 J J<|rN<|ATodo.ret<|?_
  cases h
  exact ImpX.yy (j:=10) 11 .p1 J J J<|ImpX.here ⟨_,.cons (.all _ _ _ _ _ _ J .p1 ay.h aO.h J J) .nil,_,.cons .p0 .nil,⟨J,J⟩⟩
 ·refine ax<|ARun.qv (bS J J) J<|rA J J<|rN<|cD h J (fun h=>?_) (fun h=>?_)
  ·refine ax<|rM J J<|aq h fun v5 e3 h=>pC J J J (mz e3) cR (.cons .p0 .nil) J J<|rM J J<|aC (xs:=([([100,97]:ae),([100,98]:ae),([102,114,101,115,104]:ae)]).map AV.str) J J J J J J<|aq h fun v6 e4 h=>pC J J J (pe e4) cR (.cons .p0 .nil) J J<|ARun.qv (bl J J J J J) J<|au J J J J .p1 J J<|rN<|ATodo.ret<|?_
   cases h
   exact ImpX.yy (j:=10) 11 .p1 J J J<|ImpX.here ⟨_,.cons (.all _ _ _ _ _ _ J .p1 ay.h aO.h J J) .nil,_,.cons .p0 .nil,⟨J,J⟩⟩
  ·refine ax<|ARun.qv (bS J J) J<|rA J J<|rN<|cD h J (fun h=>?_) (fun h=>?_)
   ·refine ax<|ARun.qv (aG J J J) J<|aC (xs:=([([109,111,100,101,108]:ae),([116,101,110,97,110,116]:ae)]).map AV.str) J J J J J J<|aq h fun v7 e5 h=>aJ J (br e5) cR (.cons .p0 .nil) J J<|rM J J<|aq h fun v8 e6 h=>pC J J J (mz e6) cR (.cons .p0 .nil) J J<|rM J J<|aC (xs:=([([109,97]:ae),([116,97]:ae),([]:ae),([81]:ae)]).map AV.str) J J J J J J<|aq h fun v9 e7 h=>pC J J J (pe e7) cR (.cons .p0 .nil) J J<|ARun.qv (bl J J J J J) J<|au J J J J .p1 J J<|rN<|ATodo.ret<|?_
    cases h
    exact ImpX.yy (j:=10) 11 .p1 J J J<|ImpX.here ⟨_,.cons (.all _ _ _ _ _ _ J .p1 ay.h aO.h J J) .nil,_,.cons .p0 .nil,⟨J,J⟩⟩
   ·refine ax<|ARun.qv (bS J J) J<|rA J J<|rN<|cD h J (fun h=>?_) (fun h=>?_)
    ·refine tS<|aq h fun v10 e8 h=>aq h fun v11 e9 h=>aq h fun v12 zM h=>ATodo.kZ (id:=11) (A:=[0,0,3,0,15,0,0,127,0,0,1023,2047,4095,8191]) (H0:=[(bd,.cells [cz v3.2.L,I v3.2.at_])]) (HH:=fun β=>[(bd,.cells [cz v12.2.L,I v12.2.at_]),(b2,.cells [I (0:Int),.str [],.str [],I (0:Int),.bool false,I (0:Int),.str [],I (0:Int),I (0:Int),I (0:Int),.nil])]) 10 mixed J (by kernel_rfl) (by kernel_rfl) [⟨none,some 2,[],fun _=>(bd,.cells [cz v3.2.L,I v3.2.at_]),none,[]⟩,⟨some 2,some 4,[],fun _=>(bd,.cells [cz v10.2.L,I v10.2.at_]),none,[]⟩,⟨some 4,some 7,[],fun _=>(bd,.cells [cz v11.2.L,I v11.2.at_]),none,[]⟩,⟨some 7,none,[],fun _=>(bd,.cells [cz v12.2.L,I v12.2.at_]),none,[]⟩] [] J (by kernel_rfl) J (.cons .p0 .nil) (fun _=>J)<|AT.am 2 J J<|AM.qv (aG J J J) J<|AM.dv J (HO J) cR J<|AM.nil<|AT.qN (av:=.str v10.1) (Ti:=[(bd,.cells [cz v3.2.L,I v3.2.at_])]) (Pi:=[(bd,.cells [cz v10.2.L,I v10.2.at_])]) (fun _=>J) (fun _=>J) (fun _=>J) J J J ?_ ?_
     ·exact aJ J (br e8) cR (.cons .p0 .nil) J J<|ARun.nil ⟨_,J,J⟩
     refine AT.am 1 J J<|AM.qv (aG J J J) J<|AM.nil<|AT.qN (av:=I v11.1) (Ti:=[(bd,.cells [cz v10.2.L,I v10.2.at_])]) (Pi:=[(bd,.cells [cz v11.2.L,I v11.2.at_])]) (fun _=>J) (fun _=>J) (fun _=>J) J J J ?_ ?_
     ·exact aJ J (cU e9) cR (.cons .p0 .nil) J J<|ARun.nil ⟨_,J,J⟩
     refine AT.am 2 J J<|AM.qv (aG J J J) J<|AM.aY (xs:=([(0:Int),(2:Int)]).map I) J J J J J J<|AM.nil<|AT.qN (av:=I v12.1) (Ti:=[(bd,.cells [cz v11.2.L,I v11.2.at_])]) (Pi:=[(bd,.cells [cz v12.2.L,I v12.2.at_])]) (fun _=>J) (fun _=>J) (fun _=>J) J J J ?_ ?_
     ·exact aJ J (cj zM) cR (.cons .p0 .nil) J J<|ARun.nil ⟨_,J,J⟩
     refine AT.am 2 J J<|AM.qv (aG J J J) J<|AM.aY (xs:=([(0:Int),(0:Int),(9999:Int)]).map I) J J J J J J<|AM.nil<|AT.yx (fun _=>J) fun β=>aq h fun mb AZ h=>aJ J (cj AZ) cR (.cons .p0 .nil) J J<|ARun.qv (bl J J J J J) J<|ARun.qv (bl J J J J J) J<|au J J J J .p1 J J<|rN<|ATodo.ret<|?_
     cases h
     exact ImpX.yy (j:=10) 11 .p1 J J J<|ImpX.here ⟨_,.cons (.all _ _ _ _ _ _ J .p1 ay.h aO.h J J) .nil,_,.cons .p0 .nil,⟨J,J⟩⟩
    ·refine ax<|ARun.qv (bS J J) J<|rA J J<|rN<|cD h J (fun h=>?_) (fun h=>?_)
     ·refine ax<|rM J J<|aq h fun lW FX h=>pC J J J (mz FX) cR (.cons .p0 .nil) J J<|rM J J<|aC (xs:=([([120]:ae),([121]:ae),([97,34,98,92,99]:ae),([]:ae)]).map AV.str) J J J J J J<|aq h fun FO FY h=>pC J J J (pe FY) cR (.cons .p0 .nil) J J<|ARun.qv (bl J J J J J) J<|au J J J J .p1 J J<|rN<|ATodo.ret<|?_
      cases h
      exact ImpX.yy (j:=10) 11 .p1 J J J<|ImpX.here ⟨_,.cons (.all _ _ _ _ _ _ J .p1 ay.h aO.h J J) .nil,_,.cons .p0 .nil,⟨J,J⟩⟩
     ·refine ax<|ARun.qv (bS J J) J<|rA J J<|rN<|cD h J (fun h=>?_) (fun h=>?_)
      ·refine tS<|aq h fun dU P6 h=>ATodo.kZ (id:=15) (A:=[0,1,0,7,15,31,63]) (H0:=[(bd,.cells [cz v3.2.L,I v3.2.at_])]) (HH:=fun β=>[(bd,.cells [cz dU.2.L,I dU.2.at_]),(b2,.cells [I (0:Int),.str [],.str [],I (0:Int),.bool false,I (0:Int),.str [],I (0:Int),I (0:Int),I (0:Int),.nil])]) 3 mixed J (by kernel_rfl) (by kernel_rfl) [⟨none,some 1,[],fun _=>(bd,.cells [cz v3.2.L,I v3.2.at_]),none,[]⟩,⟨some 1,none,[],fun _=>(bd,.cells [cz dU.2.L,I dU.2.at_]),none,[]⟩] [] J (by kernel_rfl) J (.cons .p0 .nil) (fun _=>J)<|AT.am 1 J J<|AM.qv (aL J) J<|AM.nil<|AT.qN (av:=.str dU.1) (Ti:=[(bd,.cells [cz v3.2.L,I v3.2.at_])]) (Pi:=[(bd,.cells [cz dU.2.L,I dU.2.at_])]) (fun _=>J) (fun _=>J) (fun _=>J) J J J ?_ ?_
       ·exact pC J J J (mz P6) cR (.cons .p0 .nil) J J<|ARun.nil ⟨_,J,J⟩
       refine AT.am 1 J J<|AM.qv (aG J J J) J<|AM.nil<|AT.yx (fun _=>J) fun β=>aq h fun v17 SJ h=>aJ J (dK SJ) cR (.cons .p0 .nil) J J<|ARun.qv (bl J J J J J) J<|ARun.qv (bl J J J J J) J<|au J J J J .p1 J J<|rN<|ATodo.ret<|?_
       cases h
       exact ImpX.yy (j:=10) 11 .p1 J J J<|ImpX.here ⟨_,.cons (.all _ _ _ _ _ _ J .p1 ay.h aO.h J J) .nil,_,.cons .p0 .nil,⟨J,J⟩⟩
      ·refine ax<|ARun.qv (bS J J) J<|rA J J<|rN<|cD h J (fun h=>?_) (fun h=>?_)
       ·refine ax<|rM J J<|aq h fun fH SK h=>pC J J J (mz SK) cR (.cons .p0 .nil) J J<|rM J J<|aC (xs:=([([120]:ae),([]:ae)]).map AV.str) J J J J J J<|aq h fun dI SL h=>pC J J J (pe SL) cR (.cons .p0 .nil) J J<|ARun.qv (bl J J J J J) J<|au J J J J .p1 J J<|rN<|ATodo.ret<|?_
        cases h
        exact ImpX.yy (j:=10) 11 .p1 J J J<|ImpX.here ⟨_,.cons (.all _ _ _ _ _ _ J .p1 ay.h aO.h J J) .nil,_,.cons .p0 .nil,⟨J,J⟩⟩
       ·refine tK<|ATodo.bU<|tS<|aq h fun v20 VD h=>ATodo.kZ (id:=18) (A:=[0,0,3,0,0,31,63,127,255]) (H0:=[(bd,.cells [cz v3.2.L,I v3.2.at_])]) (HH:=fun β=>[(bd,.cells [cz v20.2.L,I v20.2.at_]),(b2,.cells [I (0:Int),.str [],.str [],I (0:Int),.bool false,I (0:Int),.str [],I (0:Int),I (0:Int),I (0:Int),.nil])]) 5 mixed J (by kernel_rfl) (by kernel_rfl) [⟨none,some 2,[],fun _=>(bd,.cells [cz v3.2.L,I v3.2.at_]),none,[]⟩,⟨some 2,none,[],fun _=>(bd,.cells [cz v20.2.L,I v20.2.at_]),none,[]⟩] [] J (by kernel_rfl) J (.cons .p0 .nil) (fun _=>J)<|AT.am 2 J J<|AM.qv (aG J J J) J<|AM.dv J (HO J) cR J<|AM.nil<|AT.qN (av:=.str v20.1) (Ti:=[(bd,.cells [cz v3.2.L,I v3.2.at_])]) (Pi:=[(bd,.cells [cz v20.2.L,I v20.2.at_])]) (fun _=>J) (fun _=>J) (fun _=>J) J J J ?_ ?_
        ·exact aJ J (br VD) cR (.cons .p0 .nil) J J<|ARun.nil ⟨_,J,J⟩
        refine AT.am 2 J J<|AM.qv (aG J J J) J<|AM.aY (xs:=([(0:Int),(5:Int),(6:Int),(-5:Int)]).map I) J J J J J J<|AM.nil<|AT.yx (fun _=>J) fun β=>aq h fun v21 VE h=>aJ J (cj VE) cR (.cons .p0 .nil) J J<|ARun.qv (bl J J J J J) J<|ARun.qv (bl J J J J J) J<|au J J J J .p1 J J<|rN<|ATodo.ret<|?_
        cases h
        exact ImpX.yy (j:=10) 11 .p1 J J J<|ImpX.here ⟨_,.cons (.all _ _ _ _ _ _ J .p1 ay.h aO.h J J) .nil,_,.cons .p0 .nil,⟨J,J⟩⟩
theorem xJ [GI:bc] {bd:Bk} {self:ab→Int→Option (Query×ab)} (kP:∀ {bd:Bk} {aa:ab} {ah:Int} {r:Query×ab},self aa ah=some r→ACall Tryz.prog 119 [.ptr bd 0,I ah] [(bd,.cells [cz aa.L,I aa.at_])] (T0 ([(bd,.cells [cz r.2.L,I r.2.at_])]) (.agg [I r.1.Kind,.str r.1.Field,.str r.1.Op,I r.1.Value.Kind,.bool r.1.Value.bV,I r.1.Value.Number,.str r.1.Value.Words,I r.1.Version.bH,I r.1.Version.bI,I r.1.Version.bF,oX r.1.Kids]))) {aa:ab} {ah:Int} {r:Query×ab} (h:fj self aa ah=some r):ACall Tryz.prog 119 [.ptr bd 0,I ah] [(bd,.cells [cz aa.L,I aa.at_])] (T0 ([(bd,.cells [cz r.2.L,I r.2.at_])]) (.agg [I r.1.Kind,.str r.1.Field,.str r.1.Op,I r.1.Value.Kind,.bool r.1.Value.bV,I r.1.Value.Number,.str r.1.Value.Words,I r.1.Version.bH,I r.1.Version.bI,I r.1.Version.bF,oX r.1.Kids])):=by
 unfold fj at h
 refine ACall.dN ?_
 refine ACall.aQ Tryz.func119 J Tryz.ntmps119 Tryz.results119 J J ?_
 refine ax<|bn J J J J fun b1=>rN<|tS<|tS<|ATodo.cut (fun aB=>∃ (l2:List Int) (n3:Int) (c4:Bool),gm self ah l2 n3 c4=some r∧aB=⟨57,[(0,.ptr bd 0),(1,I ah),(4,.ptr b1 0),(13,.bool c4)],[(bd,.cells [cz l2,I n3]),(b1,.cells [I (0:Int),.str [],.str [],I (0:Int),.bool false,I (0:Int),.str [],I (0:Int),I (0:Int),I (0:Int),.nil])]⟩) ?_ ?_
 ·refine tR<|rM J J<|ARun.qv (bS J J) J<|rM J J<|gF h J J J (fun h=>?_) (fun h=>?_)
  ·exact rM J J<|rY J J J<|aq h fun v5 e1 h=>aJ J (dK e1) cR (.cons .p1 .nil) J J<|rE J J J<|rN<|ATodo.stop<|ImpX.lq [0,0] ⟨v5.2.L,v5.2.at_,v5.1,h,J⟩ J J
  ·exact rG J J J J<|rT J J J<|rN<|ATodo.stop<|ImpX.lq [1,0] ⟨aa.L,aa.at_,true,h,J⟩ J J
 ·rintro aB ⟨l2,n3,c4,h,rfl⟩
  unfold gm at h
  refine cB h J (fun h=>?_) (fun h=>?_)
  ·refine ax<|rM J J<|aq h fun v6 e2 h=>aJ J (Ae e2) cR (.cons .p0 .nil) J J<|au J J J J .p1 J J<|rN<|ATodo.ret<|?_
   cases h
   exact ImpX.here ⟨_,.cons (.all _ _ _ _ _ _ J .p1 ay.h aO.h J J) .nil,_,.cons .p0 .nil,⟨J,J⟩⟩
  ·refine tK<|ax<|rM J J<|aC (xs:=([(3:Int),(4:Int),(5:Int)]).map I) J J J J J J<|aq h fun v7 e3 h=>aJ J (cj e3) cR (.cons .p0 .nil) J J<|ARun.qv (bl J J J J J) J<|bn J J J J fun b8=>au J J J J .p0 J J<|rN<|ax<|rA J J<|rN<|tS<|ax<|rF J J J<|rL J J .p0 J J<|ARun.qv (du J J) J<|rN<|ATodo.cut (fun aB=>∃ (l9:List Int) (n10:Int) (n11:Int),gj self ah v7 l9 n10 n11=some r∧aB=⟨57,[(0,.ptr bd 0),(1,I ah),(4,.ptr b1 0),(5,.ptr b8 0),(6,I n11)],[(bd,.cells [cz l9,I n10]),(b1,.cells [I (0:Int),.str [],.str [],I (0:Int),.bool false,I (0:Int),.str [],I (0:Int),I (0:Int),I (0:Int),.nil]),(b8,.cells [I v7.1,.str [],.str [],I (0:Int),.bool false,I (0:Int),.str [],I (0:Int),I (0:Int),I (0:Int),.nil])]⟩) ?_ ?_
   ·refine cD h J (fun h=>?_) (fun h=>?_)
    ·exact tR<|rM J J<|aC (xs:=([(2:Int),(2:Int),(3:Int)]).map I) J J J J J J<|aq h fun v12 e4 h=>aJ J (cj e4) cR (.cons .p1 .nil) J J<|rA J J<|rN<|ATodo.stop<|ImpX.lq [0,1,0] ⟨v12.2.L,v12.2.at_,v12.1,h,J⟩ J J
    ·exact tK<|ATodo.stop<|ImpX.lq [1,1,0] ⟨v7.2.L,v7.2.at_,(1:Int),h,J⟩ J J
   ·rintro aB ⟨l9,n10,n11,h,rfl⟩
    unfold gj at h
    refine tS<|ax<|rM J J<|rM J J<|rN<|ATodo.block<|ATodo.bT (fun x:(List Int)×Int×(List Query)×Int=>iS self ah v7 n11 x.1 x.2.1 x.2.2.1 x.2.2.2) (fun x aB=>∃ (Uf:Bk),aB=⟨57,[(0,.ptr bd 0),(1,I ah),(4,.ptr b1 0),(5,.ptr b8 0),(26,I n11),(27,I x.2.2.2)],[(bd,.cells [cz x.1,I x.2.1]),(b1,.cells [I (0:Int),.str [],.str [],I (0:Int),.bool false,I (0:Int),.str [],I (0:Int),I (0:Int),I (0:Int),.nil]),(b8,.cells [I v7.1,.str [],.str [],I (0:Int),.bool false,I (0:Int),.str [],I (0:Int),I (0:Int),I (0:Int),.sl 11 Uf 0 x.2.2.1.length]),(Uf,SG x.2.2.1)]⟩) h ?_ ?_
    ·exact ImpX.Eo (j:=10) 11 (fun _=>.p2) J (fun _=>J) (fun _=>J) fun Ug=>ImpX.lq [1,1,1,0] ⟨Ug,J⟩ J J
    ·intro x z1 aB J1 dB h ic dm
     obtain ⟨AY,n19,IJ,n22⟩:=x
     obtain ⟨Uf,rfl⟩:=dB
     replace h:iS self ah v7 n11 AY n19 IJ n22=some z1:=h
     unfold iS at h
     refine ax<|ARun.qv (bu J J) J<|rN<|tS<|cD h J (fun h=>?_) (fun h=>?_)
     ·refine tK<|tS<|ATodo.block<|ax<|rM J J<|rM J J<|ARun.qv (gq J J) J<|aq h fun v24 e5 h=>aJ J (kP e5) cR (.cons .p0 .nil) J J<|bn J J J J fun Z3=>au J J J J .p0 J J<|rN<|tS<|ATodo.cut (fun aB=>∃ (OE:Bool),k6 IJ n22 v24 OE=some z1∧aB=⟨57,[(0,.ptr bd 0),(1,I ah),(4,.ptr b1 0),(5,.ptr b8 0),(7,.ptr Z3 0),(26,I n11),(27,I n22),(42,.bool OE)],[(bd,.cells [cz v24.2.L,I v24.2.at_]),(b1,.cells [I (0:Int),.str [],.str [],I (0:Int),.bool false,I (0:Int),.str [],I (0:Int),I (0:Int),I (0:Int),.nil]),(b8,.cells [I v7.1,.str [],.str [],I (0:Int),.bool false,I (0:Int),.str [],I (0:Int),I (0:Int),I (0:Int),.sl 11 Uf 0 IJ.length]),(Uf,SG IJ),(Z3,.cells (xi v24.1))]⟩) ?_ ?_
      ·refine tR<|rF J J J<|rL J J .p0 J J<|rF J J J<|rL J J .p3 J J<|ARun.qv (bS J J) J<|rM J J<|ARun.cA J J J (fun hc=>?_) (fun hc=>?_)
       ·rw [ux hc] at h
        exact rF J J J<|rY J J J<|rL J J .p3 J J<|rY J J J<|ARun.qv (du J J) J<|rT J J J<|rN<|ATodo.stop<|ImpX.lq [1,1,1,1,0] ⟨decide (v7.1≠(3:Int)),h,J⟩ J J
       ·rw [uy hc] at h
        exact rG J J J J<|rG J J J J<|rE J J J<|rN<|ATodo.stop<|ImpX.lq [1,1,1,1,0] ⟨false,h,J⟩ J J
      ·rintro aB ⟨OE,h,rfl⟩
       unfold k6 at h
       refine ATodo.cut (fun aB=>∃ (W7:Bk) (EE:List Query),gi n22 v24 EE=some z1∧aB=⟨57,[(0,.ptr bd 0),(1,I ah),(4,.ptr b1 0),(5,.ptr b8 0),(26,I n11),(27,I n22)],[(bd,.cells [cz v24.2.L,I v24.2.at_]),(b1,.cells [I (0:Int),.str [],.str [],I (0:Int),.bool false,I (0:Int),.str [],I (0:Int),I (0:Int),I (0:Int),.nil]),(b8,.cells [I v7.1,.str [],.str [],I (0:Int),.bool false,I (0:Int),.str [],I (0:Int),I (0:Int),I (0:Int),.sl 11 W7 0 EE.length]),(W7,SG EE)]⟩) ?_ ?_
       ·refine cB h J (fun h=>?_) (fun h=>?_)
        ·exact tR<|rF J J J<|rL J J .p2 J J<|rF J J J<|rL J J .p4 J J<|aq h fun B7 e6 h=>cS (g:=Query.av) J J J J J J J J (.list _) e6 (fun _=>.p3) J fun Yr=>rF J J J<|au J J J J .p2 J J<|rN<|ATodo.stop<|ImpX.lq [0,0,0,0] ⟨Yr,B7,h,J⟩ J J
        ·exact tR<|rF J J J<|rL J J .p2 J J<|ARun.qv (ao J J .p4 J) J<|aC (xs:=([v24.1]:List Query).map Query.av) J (by simp only [List.map_cons,List.map_nil,Query.tN];rfl) J (by simp only [List.map_cons,List.map_nil,Query.tN];rfl) J J<|aq h fun Bs e7 h=>cS (g:=Query.av) J J J J J J J J (.list _) e7 (fun _=>.p3) J fun SM=>rF J J J<|au J J J J .p2 J J<|rN<|ATodo.stop<|ImpX.lq [0,0,0,0] ⟨SM,Bs,h,J⟩ J J
       ·rintro aB ⟨W7,EE,h,rfl⟩
        unfold gi at h
        refine ATodo.bU<|tR<|ARun.qv (bh J J) J<|rM J J<|rN<|ATodo.stop<|?_
        cases h
        exact ic _ _ J<|ImpX.lq [0,0,0,0] ⟨W7,J⟩ J J
     ·refine ATodo.exit J<|have h:=bz h dm;ax<|ARun.qv (ao J J .p2 J) J<|au J J J J .p1 J J<|rN<|ATodo.ret<|?_
      cases h
      exact ImpX.freeze .p3<|ImpX.Bi (j:=10) .p1 J (Co.Ck .p3) J J<|ImpX.here ⟨_,.cons (.all _ _ _ _ _ _ J .p1 ay.h aO.h J J) .nil,_,.cons .p0 .nil,⟨J,J⟩⟩
theorem yi [GI:bc]:∀ (k:Nat) {bd:Bk} {aa:ab} {ah:Int} {r:Query×ab},ez k aa ah=some r→ACall Tryz.prog 119 [.ptr bd 0,I ah] [(bd,.cells [cz aa.L,I aa.at_])] (T0 ([(bd,.cells [cz r.2.L,I r.2.at_])]) (.agg [I r.1.Kind,.str r.1.Field,.str r.1.Op,I r.1.Value.Kind,.bool r.1.Value.bV,I r.1.Value.Number,.str r.1.Value.Words,I r.1.Version.bH,I r.1.Version.bI,I r.1.Version.bF,oX r.1.Kids])):=by
 intro k
 induction k with
 | zero=>intro bd aa ah r h;cases h
 | succ k ih=>intro bd aa ah r h;exact xJ ih h
theorem uB [GI:bc] {bd:Bk} {aa:ab} {ah:Int} {r:Query×ab} (h:rn aa ah=some r):ACall Tryz.prog 119 [.ptr bd 0,I ah] [(bd,.cells [cz aa.L,I aa.at_])] (T0 ([(bd,.cells [cz r.2.L,I r.2.at_])]) (.agg [I r.1.Kind,.str r.1.Field,.str r.1.Op,I r.1.Value.Kind,.bool r.1.Value.bV,I r.1.Value.Number,.str r.1.Value.Words,I r.1.Version.bH,I r.1.Version.bI,I r.1.Version.bF,oX r.1.Kids])):=yi depth h
theorem Bz [GI:bc] {bd:Bk} {aa:ab} {r:bb×ab} (h:nf aa=some r):ACall Tryz.prog 41 [.ptr bd 0] [(bd,.cells [cz aa.L,I aa.at_])] (T4 (fun P7 P8 P9 Qa=>[(bd,.cells [cz r.2.L,I r.2.at_]),(P7,FV r.1.al),(P8,FW r.1.bj),(P9,FU r.1.aD),(Qa,JK r.1.aI)]) (fun P7 P8 P9 Qa=>.agg [.sl 2 P7 0 r.1.al.length,.sl 2 P8 0 r.1.bj.length,.sl 3 P9 0 r.1.aD.length,.sl 17 Qa 0 r.1.aI.length])):=by
 unfold nf at h
 refine ACall.dN ?_
 refine ACall.aQ Tryz.func41 J Tryz.ntmps41 Tryz.results41 J J ?_
 refine ax<|bn J J J J fun b1=>rN<|ax<|ARun.qv (bl J J J J J) J<|ARun.qv (bl J J J J J) J<|rM J J<|aC (xs:=([([116,98]:ae),([116,97]:ae),([]:ae)]).map AV.str) J J J J J J<|aq h fun v2 e1 h=>aJ J (br e1) cR (.cons .p1 .nil) J J<|ARun.qv (bl J J J J J) J<|ARun.qv (bl J J J J J) J<|rf J J J J J J fun b3=>ARun.qv (bl J J J J J) J<|bn J J J J fun b4=>au J J J J .p0 J J<|rN<|ax<|aC (xs:=([([42]:ae)]).map AV.str) J J J J J J<|ARun.qv (bl J J J J J) J<|rM J J<|aq h fun v5 e2 h=>aJ J (wy e2) cR (.cons .p2 .nil) J J<|ARun.qv (bl J J J J J) J<|aC (xs:=([([100,101,118,105,99,101,46,114,101,97,100]:ae)]).map AV.str) J J J J J J<|ARun.qv (bl J J J J J) J<|rf J J J J J J fun b6=>rF J J J<|au J J J J .p2 J J<|rN<|tS<|ax<|aC (xs:=([([97,110,110]:ae),([98,111,98]:ae)]).map AV.str) J J J J J J<|ARun.qv (bD J) J<|rM J J<|rN<|ATodo.block<|ATodo.bT (fun x:(List Int)×Int×(List aK)×Int=>kj v2 v5 x.1 x.2.1 x.2.2.1 x.2.2.2) (fun x aB=>∃ (vK:Bk),aB=⟨110,[(0,.ptr bd 0),(2,.ptr b1 0),(3,.ptr b4 0),(32,ph [([97,110,110]:ae),([98,111,98]:ae)]),(33,I ([([97,110,110]:ae),([98,111,98]:ae)].length:Int)),(34,I x.2.2.2)],[(bd,.cells [cz x.1,I x.2.1]),(b1,.cells [.nil,.nil,.nil,.nil]),(b4,.cells [.sl 2 b3 0 [(⟨([116,97]:ae),[]⟩:ar),(⟨([116,98]:ae),([116,97]:ae)⟩:ar),(⟨([116,99]:ae),v2.1⟩:ar),(⟨([116,100]:ae),[]⟩:ar)].length,.sl 2 b6 0 [(⟨([97,100,109,105,110]:ae),[([42]:ae)]⟩:bN),(⟨([101,100,105,116]:ae),v5.1⟩:bN),(⟨([114,101,97,100]:ae),[([100,101,118,105,99,101,46,114,101,97,100]:ae)]⟩:bN)].length,.sl 3 vK 0 x.2.2.1.length,.nil]),(b3,FV [(⟨([116,97]:ae),[]⟩:ar),(⟨([116,98]:ae),([116,97]:ae)⟩:ar),(⟨([116,99]:ae),v2.1⟩:ar),(⟨([116,100]:ae),[]⟩:ar)]),(b6,FW [(⟨([97,100,109,105,110]:ae),[([42]:ae)]⟩:bN),(⟨([101,100,105,116]:ae),v5.1⟩:bN),(⟨([114,101,97,100]:ae),[([100,101,118,105,99,101,46,114,101,97,100]:ae)]⟩:bN)]),(vK,FU x.2.2.1)]⟩) h ?_ ?_
 ·exact ImpX.Eo (j:=2) 3 (fun _=>.p2) J (fun _=>J) (fun _=>J) fun wz=>ImpX.lq [2,4,2,2,1,0] ⟨wz,J⟩ J J
 ·intro x z1 aB J1 dB h ic dm
  obtain ⟨ye,n13,qq,n16⟩:=x
  obtain ⟨vK,rfl⟩:=dB
  replace h:kj v2 v5 ye n13 qq n16=some z1:=h
  unfold kj at h
  refine ax<|ARun.qv (bu J J) J<|rN<|tS<|cD h J (fun h=>?_) (fun h=>?_)
  ·refine tK<|tS<|ATodo.block<|ax<|aq h fun fH e3 h=>ARun.qv (aP J J J e3 J J) J<|ARun.qv (aG J J J) J<|rA J J<|rN<|ax<|aC (xs:=([([116,97]:ae),([116,98]:ae),([116,99]:ae),([116,100]:ae)]).map AV.str) J J J J J J<|ARun.qv (bD J) J<|rM J J<|rN<|ATodo.block<|ATodo.bT (fun x:(List Int)×Int×(List aK)×Int=>kf n16 fH x.1 x.2.1 x.2.2.1 x.2.2.2) (fun x aB=>∃ (Lz:Bk),aB=⟨110,[(0,.ptr bd 0),(2,.ptr b1 0),(3,.ptr b4 0),(5,.str fH),(32,ph [([97,110,110]:ae),([98,111,98]:ae)]),(33,I ([([97,110,110]:ae),([98,111,98]:ae)].length:Int)),(34,I n16),(38,ph [([116,97]:ae),([116,98]:ae),([116,99]:ae),([116,100]:ae)]),(39,I ([([116,97]:ae),([116,98]:ae),([116,99]:ae),([116,100]:ae)].length:Int)),(40,I x.2.2.2)],[(bd,.cells [cz x.1,I x.2.1]),(b1,.cells [.nil,.nil,.nil,.nil]),(b4,.cells [.sl 2 b3 0 [(⟨([116,97]:ae),[]⟩:ar),(⟨([116,98]:ae),([116,97]:ae)⟩:ar),(⟨([116,99]:ae),v2.1⟩:ar),(⟨([116,100]:ae),[]⟩:ar)].length,.sl 2 b6 0 [(⟨([97,100,109,105,110]:ae),[([42]:ae)]⟩:bN),(⟨([101,100,105,116]:ae),v5.1⟩:bN),(⟨([114,101,97,100]:ae),[([100,101,118,105,99,101,46,114,101,97,100]:ae)]⟩:bN)].length,.sl 3 Lz 0 x.2.2.1.length,.nil]),(b3,FV [(⟨([116,97]:ae),[]⟩:ar),(⟨([116,98]:ae),([116,97]:ae)⟩:ar),(⟨([116,99]:ae),v2.1⟩:ar),(⟨([116,100]:ae),[]⟩:ar)]),(b6,FW [(⟨([97,100,109,105,110]:ae),[([42]:ae)]⟩:bN),(⟨([101,100,105,116]:ae),v5.1⟩:bN),(⟨([114,101,97,100]:ae),[([100,101,118,105,99,101,46,114,101,97,100]:ae)]⟩:bN)]),(Lz,FU x.2.2.1)]⟩) h ?_ ?_
   ·exact ImpX.lq [0,0,0,0,0,0] ⟨vK,J⟩ J J
   ·intro x z2 aB J2 dB h zN uS
    obtain ⟨yd,n25,AF,n28⟩:=x
    obtain ⟨Lz,rfl⟩:=dB
    replace h:kf n16 fH yd n25 AF n28=some z2:=h
    unfold kf at h
    refine ax<|ARun.qv (bu J J) J<|rN<|tS<|cD h J (fun h=>?_) (fun h=>?_)
    ·refine tK<|tS<|ATodo.block<|ax<|aq h fun EF e4 h=>ARun.qv (aP J J J e4 J J) J<|ARun.qv (aG J J J) J<|rA J J<|rN<|ax<|aC (xs:=([([97,100,109,105,110]:ae),([101,100,105,116]:ae),([114,101,97,100]:ae)]).map AV.str) J J J J J J<|ARun.qv (bD J) J<|rM J J<|rN<|ATodo.block<|ATodo.bT (fun x:(List Int)×Int×(List aK)×Int=>ke fH n28 EF x.1 x.2.1 x.2.2.1 x.2.2.2) (fun x aB=>∃ (OL:Bk),aB=⟨110,[(0,.ptr bd 0),(2,.ptr b1 0),(3,.ptr b4 0),(5,.str fH),(7,.str EF),(32,ph [([97,110,110]:ae),([98,111,98]:ae)]),(33,I ([([97,110,110]:ae),([98,111,98]:ae)].length:Int)),(34,I n16),(38,ph [([116,97]:ae),([116,98]:ae),([116,99]:ae),([116,100]:ae)]),(39,I ([([116,97]:ae),([116,98]:ae),([116,99]:ae),([116,100]:ae)].length:Int)),(40,I n28),(44,ph [([97,100,109,105,110]:ae),([101,100,105,116]:ae),([114,101,97,100]:ae)]),(45,I ([([97,100,109,105,110]:ae),([101,100,105,116]:ae),([114,101,97,100]:ae)].length:Int)),(46,I x.2.2.2)],[(bd,.cells [cz x.1,I x.2.1]),(b1,.cells [.nil,.nil,.nil,.nil]),(b4,.cells [.sl 2 b3 0 [(⟨([116,97]:ae),[]⟩:ar),(⟨([116,98]:ae),([116,97]:ae)⟩:ar),(⟨([116,99]:ae),v2.1⟩:ar),(⟨([116,100]:ae),[]⟩:ar)].length,.sl 2 b6 0 [(⟨([97,100,109,105,110]:ae),[([42]:ae)]⟩:bN),(⟨([101,100,105,116]:ae),v5.1⟩:bN),(⟨([114,101,97,100]:ae),[([100,101,118,105,99,101,46,114,101,97,100]:ae)]⟩:bN)].length,.sl 3 OL 0 x.2.2.1.length,.nil]),(b3,FV [(⟨([116,97]:ae),[]⟩:ar),(⟨([116,98]:ae),([116,97]:ae)⟩:ar),(⟨([116,99]:ae),v2.1⟩:ar),(⟨([116,100]:ae),[]⟩:ar)]),(b6,FW [(⟨([97,100,109,105,110]:ae),[([42]:ae)]⟩:bN),(⟨([101,100,105,116]:ae),v5.1⟩:bN),(⟨([114,101,97,100]:ae),[([100,101,118,105,99,101,46,114,101,97,100]:ae)]⟩:bN)]),(OL,FU x.2.2.1)]⟩) h ?_ ?_
     ·exact ImpX.lq [0,0,0,0,0,0] ⟨Lz,J⟩ J J
     ·intro x z3 aB J3 dB h Qb N2
      obtain ⟨AE,n36,Fx,n39⟩:=x
      obtain ⟨OL,rfl⟩:=dB
      replace h:ke fH n28 EF AE n36 Fx n39=some z3:=h
      unfold ke at h
      refine ax<|ARun.qv (bu J J) J<|rN<|tS<|cD h J (fun h=>?_) (fun h=>?_)
      ·refine tK<|tS<|ATodo.block<|ax<|aq h fun v40 e5 h=>ARun.qv (aP J J J e5 J J) J<|ARun.qv (aG J J J) J<|rA J J<|rN<|ax<|rM J J<|aq h fun v41 e6 h=>aJ J (dK e6) cR (.cons .p0 .nil) J J<|rN<|ATodo.cut (fun aB=>∃ (SN:Bk) (Dm:List aK),j9 n39 v41 Dm=some z3∧aB=⟨110,[(0,.ptr bd 0),(2,.ptr b1 0),(3,.ptr b4 0),(5,.str fH),(7,.str EF),(32,ph [([97,110,110]:ae),([98,111,98]:ae)]),(33,I ([([97,110,110]:ae),([98,111,98]:ae)].length:Int)),(34,I n16),(38,ph [([116,97]:ae),([116,98]:ae),([116,99]:ae),([116,100]:ae)]),(39,I ([([116,97]:ae),([116,98]:ae),([116,99]:ae),([116,100]:ae)].length:Int)),(40,I n28),(44,ph [([97,100,109,105,110]:ae),([101,100,105,116]:ae),([114,101,97,100]:ae)]),(45,I ([([97,100,109,105,110]:ae),([101,100,105,116]:ae),([114,101,97,100]:ae)].length:Int)),(46,I n39)],[(bd,.cells [cz v41.2.L,I v41.2.at_]),(b1,.cells [.nil,.nil,.nil,.nil]),(b4,.cells [.sl 2 b3 0 [(⟨([116,97]:ae),[]⟩:ar),(⟨([116,98]:ae),([116,97]:ae)⟩:ar),(⟨([116,99]:ae),v2.1⟩:ar),(⟨([116,100]:ae),[]⟩:ar)].length,.sl 2 b6 0 [(⟨([97,100,109,105,110]:ae),[([42]:ae)]⟩:bN),(⟨([101,100,105,116]:ae),v5.1⟩:bN),(⟨([114,101,97,100]:ae),[([100,101,118,105,99,101,46,114,101,97,100]:ae)]⟩:bN)].length,.sl 3 SN 0 Dm.length,.nil]),(b3,FV [(⟨([116,97]:ae),[]⟩:ar),(⟨([116,98]:ae),([116,97]:ae)⟩:ar),(⟨([116,99]:ae),v2.1⟩:ar),(⟨([116,100]:ae),[]⟩:ar)]),(b6,FW [(⟨([97,100,109,105,110]:ae),[([42]:ae)]⟩:bN),(⟨([101,100,105,116]:ae),v5.1⟩:bN),(⟨([114,101,97,100]:ae),[([100,101,118,105,99,101,46,114,101,97,100]:ae)]⟩:bN)]),(SN,FU Dm)]⟩) ?_ ?_
       ·refine cB h J (fun h=>?_) (fun h=>?_)
        ·exact tR<|rF J J J<|rL J J .p2 J J<|rM J J<|rM J J<|rM J J<|ARun.qv (bl J J J J J) J<|aC (xs:=([(⟨fH,EF,v40⟩:aK)]).map aK.av) J J J J J J<|aq h fun Lp e7 h=>cS (g:=aK.av) J J J J J J J J (.list _) e7 (fun _=>.p5) J fun b45=>rF J J J<|au J J J J .p2 J J<|rN<|ATodo.stop<|ImpX.lq [0,0,0,0,0,0] ⟨b45,Lp,h,J⟩ J J
        ·exact tK<|ATodo.stop<|ImpX.lq [0,0,0,0,0,0] ⟨OL,Fx,h,J⟩ J J
       ·rintro aB ⟨SN,Dm,h,rfl⟩
        unfold j9 at h
        refine ATodo.bU<|tR<|ARun.qv (bh J J) J<|rM J J<|rN<|ATodo.stop<|?_
        cases h
        exact Qb _ _ J<|ImpX.lq [0,0,0,0,0,0] ⟨SN,J⟩ J J
      ·refine ATodo.exit J<|have h:=bz h N2;ATodo.bU<|tR<|ARun.qv (bh J J) J<|rM J J<|rN<|ATodo.stop<|?_
       cases h
       exact zN _ _ J<|ImpX.lq [0,0,0,0,0,0] ⟨OL,J⟩ J J
    ·refine ATodo.exit J<|have h:=bz h uS;ATodo.bU<|tR<|ARun.qv (bh J J) J<|rM J J<|rN<|ATodo.stop<|?_
     cases h
     exact ic _ _ J<|ImpX.lq [0,0,0,0,0,0] ⟨Lz,J⟩ J J
  ·refine ATodo.exit J<|have h:=bz h dm;tS<|ax<|aC (xs:=([([115,97]:ae),([115,98]:ae)]).map AV.str) J J J J J J<|ARun.qv (bD J) J<|rM J J<|rN<|ATodo.block<|ATodo.bT (fun x:(List Int)×Int×(List bA)×Int=>kh v2 v5 qq x.1 x.2.1 x.2.2.1 x.2.2.2) (fun x aB=>∃ (LA:Bk),aB=⟨110,[(0,.ptr bd 0),(2,.ptr b1 0),(3,.ptr b4 0),(64,ph [([115,97]:ae),([115,98]:ae)]),(65,I ([([115,97]:ae),([115,98]:ae)].length:Int)),(66,I x.2.2.2)],[(bd,.cells [cz x.1,I x.2.1]),(b1,.cells [.nil,.nil,.nil,.nil]),(b4,.cells [.sl 2 b3 0 [(⟨([116,97]:ae),[]⟩:ar),(⟨([116,98]:ae),([116,97]:ae)⟩:ar),(⟨([116,99]:ae),v2.1⟩:ar),(⟨([116,100]:ae),[]⟩:ar)].length,.sl 2 b6 0 [(⟨([97,100,109,105,110]:ae),[([42]:ae)]⟩:bN),(⟨([101,100,105,116]:ae),v5.1⟩:bN),(⟨([114,101,97,100]:ae),[([100,101,118,105,99,101,46,114,101,97,100]:ae)]⟩:bN)].length,.sl 3 vK 0 qq.length,.sl 17 LA 0 x.2.2.1.length]),(b3,FV [(⟨([116,97]:ae),[]⟩:ar),(⟨([116,98]:ae),([116,97]:ae)⟩:ar),(⟨([116,99]:ae),v2.1⟩:ar),(⟨([116,100]:ae),[]⟩:ar)]),(b6,FW [(⟨([97,100,109,105,110]:ae),[([42]:ae)]⟩:bN),(⟨([101,100,105,116]:ae),v5.1⟩:bN),(⟨([114,101,97,100]:ae),[([100,101,118,105,99,101,46,114,101,97,100]:ae)]⟩:bN)]),(vK,FU qq),(LA,JK x.2.2.1)]⟩) h ?_ ?_
   ·exact ImpX.Eo (j:=3) 17 (fun _=>.p2) J (fun _=>J) (fun _=>J) fun b56=>ImpX.lq [1,1,1,1,1,1,0] ⟨b56,J⟩ J J
   ·intro x z4 aB J4 dB h hJ4 Z4
    obtain ⟨EH,n52,Fy,DR⟩:=x
    obtain ⟨LA,rfl⟩:=dB
    replace h:kh v2 v5 qq EH n52 Fy DR=some z4:=h
    unfold kh at h
    refine ax<|ARun.qv (bu J J) J<|rN<|tS<|cD h J (fun h=>?_) (fun h=>?_)
    ·refine tK<|tS<|ATodo.block<|ax<|aq h fun KN e8 h=>ARun.qv (aP J J J e8 J J) J<|ARun.qv (aG J J J) J<|rA J J<|rN<|ax<|rM J J<|aq h fun v58 e9 h=>aJ J (dK e9) cR (.cons .p0 .nil) J J<|rN<|ATodo.cut (fun aB=>∃ (W8:Bk) (DS:List Int) (n60:Int) (EG:List bA),iq DR DS n60 EG=some z4∧aB=⟨110,[(0,.ptr bd 0),(2,.ptr b1 0),(3,.ptr b4 0),(64,ph [([115,97]:ae),([115,98]:ae)]),(65,I ([([115,97]:ae),([115,98]:ae)].length:Int)),(66,I DR)],[(bd,.cells [cz DS,I n60]),(b1,.cells [.nil,.nil,.nil,.nil]),(b4,.cells [.sl 2 b3 0 [(⟨([116,97]:ae),[]⟩:ar),(⟨([116,98]:ae),([116,97]:ae)⟩:ar),(⟨([116,99]:ae),v2.1⟩:ar),(⟨([116,100]:ae),[]⟩:ar)].length,.sl 2 b6 0 [(⟨([97,100,109,105,110]:ae),[([42]:ae)]⟩:bN),(⟨([101,100,105,116]:ae),v5.1⟩:bN),(⟨([114,101,97,100]:ae),[([100,101,118,105,99,101,46,114,101,97,100]:ae)]⟩:bN)].length,.sl 3 vK 0 qq.length,.sl 17 W8 0 EG.length]),(b3,FV [(⟨([116,97]:ae),[]⟩:ar),(⟨([116,98]:ae),([116,97]:ae)⟩:ar),(⟨([116,99]:ae),v2.1⟩:ar),(⟨([116,100]:ae),[]⟩:ar)]),(b6,FW [(⟨([97,100,109,105,110]:ae),[([42]:ae)]⟩:bN),(⟨([101,100,105,116]:ae),v5.1⟩:bN),(⟨([114,101,97,100]:ae),[([100,101,118,105,99,101,46,114,101,97,100]:ae)]⟩:bN)]),(vK,FU qq),(W8,JK EG)]⟩) ?_ ?_
     ·refine cB h J (fun h=>?_) (fun h=>?_)
      ·refine ax<|rM J J<|aC (xs:=([(0:Int),(20:Int),(50:Int)]).map I) J J J J J J<|aq h fun Lq zM h=>aJ J (cj zM) cR (.cons .p0 .nil) J J<|rA J J<|rN<|ax<|rM J J<|rM J J<|aC (xs:=([([116,97]:ae),([116,98]:ae)]).map AV.str) J J J J J J<|aq h fun v64 AZ h=>aJ J (br AZ) cR (.cons .p0 .nil) J J<|rM J J<|rM J J<|aC (xs:=([(0:Int),(1:Int)]).map I) J J J J J J<|aq h fun v65 FX h=>aJ J (cj FX) cR (.cons .p0 .nil) J J<|aq h fun v66 FY h=>aJ J (uB FY) cR (.cons .p0 .nil) J J<|rM J J<|aq h fun v67 P6 h=>aJ J (wy P6) cR (.cons .p0 .nil) J J<|rM J J<|rM J J<|rM J J<|aC (xs:=([(0:Int),(30:Int),(100:Int)]).map I) J J J J J J<|aq h fun DT SJ h=>aJ J (cj SJ) cR (.cons .p0 .nil) J J<|ARun.qv (bh J J) J<|ARun.qv (bl J J J J J) J<|ARun.qv (bl J J J J J) J<|bn J J J J fun VG=>au J J J J .p0 J J<|rN<|tS<|ax<|rM J J<|aq h fun v70 SK h=>aJ J (dK SK) cR (.cons .p1 .nil) J J<|rN<|ATodo.cut (fun aB=>∃ (Wv:ae) (Ww:ae),ir Fy DR KN Lq v66 v67 DT v70 Wv Ww=some z4∧aB=⟨110,[(0,.ptr bd 0),(2,.ptr b1 0),(3,.ptr b4 0),(13,.ptr VG 0),(64,ph [([115,97]:ae),([115,98]:ae)]),(65,I ([([115,97]:ae),([115,98]:ae)].length:Int)),(66,I DR)],[(bd,.cells [cz v70.2.L,I v70.2.at_]),(b1,.cells [.nil,.nil,.nil,.nil]),(b4,.cells [.sl 2 b3 0 [(⟨([116,97]:ae),[]⟩:ar),(⟨([116,98]:ae),([116,97]:ae)⟩:ar),(⟨([116,99]:ae),v2.1⟩:ar),(⟨([116,100]:ae),[]⟩:ar)].length,.sl 2 b6 0 [(⟨([97,100,109,105,110]:ae),[([42]:ae)]⟩:bN),(⟨([101,100,105,116]:ae),v5.1⟩:bN),(⟨([114,101,97,100]:ae),[([100,101,118,105,99,101,46,114,101,97,100]:ae)]⟩:bN)].length,.sl 3 vK 0 qq.length,.sl 17 LA 0 Fy.length]),(b3,FV [(⟨([116,97]:ae),[]⟩:ar),(⟨([116,98]:ae),([116,97]:ae)⟩:ar),(⟨([116,99]:ae),v2.1⟩:ar),(⟨([116,100]:ae),[]⟩:ar)]),(b6,FW [(⟨([97,100,109,105,110]:ae),[([42]:ae)]⟩:bN),(⟨([101,100,105,116]:ae),v5.1⟩:bN),(⟨([114,101,97,100]:ae),[([100,101,118,105,99,101,46,114,101,97,100]:ae)]⟩:bN)]),(vK,FU qq),(LA,JK Fy),(VG,.cells [.str KN,.str Wv,.str Ww,I v66.1.Kind,.str v66.1.Field,.str v66.1.Op,I v66.1.Value.Kind,.bool v66.1.Value.bV,I v66.1.Value.Number,.str v66.1.Value.Words,I v66.1.Version.bH,I v66.1.Version.bI,I v66.1.Version.bF,oX v66.1.Kids,ph v67.1,I Lq.1,I (cr (Lq.1+DT.1))])]⟩) ?_ ?_
       ·refine cB h J (fun h=>?_) (fun h=>?_)
        ·exact tR<|rF J J J<|rL J J .p1 J J<|rF J J J<|rL J J .p1 J J<|rF J J J<|au J J J J .p1 J J<|rF J J J<|au J J J J .p1 J J<|rN<|ATodo.stop<|ImpX.lq [0,1,1,1,1,1,1,0] ⟨([116,100]:ae),v64.1,h,J⟩ J J
        ·exact tK<|ATodo.stop<|ImpX.lq [0,1,1,1,1,1,1,0] ⟨v64.1,([116,100]:ae),h,J⟩ J J
       ·rintro aB ⟨Wv,Ww,h,rfl⟩
        unfold ir at h
        exact tR<|rF J J J<|rL J J .p2 J J<|ARun.qv (ao J J .p7 J) J<|aC (xs:=([(⟨KN,Wv,Ww,v66.1,v67.1,(⟨Lq.1,cr (Lq.1+DT.1)⟩:oC)⟩:bA)]).map bA.av) J J J J J J<|aq h fun Rr SL h=>cS (g:=bA.av) J J J J J J J J (.list _) SL (fun _=>.p6) J fun b74=>rF J J J<|au J J J J .p2 J J<|rN<|ATodo.stop<|ImpX.lq [0,0,0,0,0,0,0] ⟨b74,v70.2.L,v70.2.at_,Rr,h,J⟩ J J
      ·exact tK<|ATodo.stop<|ImpX.lq [0,0,0,0,0,0,0] ⟨LA,v58.2.L,v58.2.at_,Fy,h,J⟩ J J
     ·rintro aB ⟨W8,DS,n60,EG,h,rfl⟩
      unfold iq at h
      refine ATodo.bU<|tR<|ARun.qv (bh J J) J<|rM J J<|rN<|ATodo.stop<|?_
      cases h
      exact hJ4 _ _ J<|ImpX.lq [0,0,0,0,0,0,0] ⟨W8,J⟩ J J
    ·refine ATodo.exit J<|have h:=bz h Z4;ax<|ARun.qv (ao J J .p2 J) J<|au J J J J .p1 J J<|rN<|ATodo.ret<|?_
     cases h
     exact ImpX.here ⟨_,.cons (.all _ _ _ _ _ _ J .p1 ay.h aO.h J J) .nil,_,.cons .p0 (.cons .p2 (.cons .p2 (.cons .p2 (.cons .p2 .nil)))),⟨b3,b6,vK,LA,J,J⟩⟩
theorem EP [GI:bc] {bd:Bk} {aa:ab} {ah:Int} {aT:Int} {r:Int×ab} (h:ru aa ah aT=some r):ACall Tryz.prog 123 [.ptr bd 0,I ah,I aT] [(bd,.cells [cz aa.L,I aa.at_])] (T0 ([(bd,.cells [cz r.2.L,I r.2.at_])]) (I r.1)):=by
 unfold ru at h
 refine ACall.dN ?_
 refine ACall.aQ Tryz.func123 J Tryz.ntmps123 Tryz.results123 J J ?_
 refine ax<|rA J J<|rN<|tS<|ax<|rM J J<|rM J J<|ARun.qv (bu J J) J<|rN<|cD h J (fun h=>?_) (fun h=>?_)
 ·refine ax<|rM J J<|rA J J<|rN<|ATodo.ret<|?_
  cases h
  exact hH J [0] J ⟨J,J⟩
 ·refine tK<|ax<|rM J J<|rM J J<|rM J J<|rM J J<|ARun.qv (gq J J) J<|ARun.qv (bh J J) J<|aq h fun v1 e1 h=>aJ J (cU e1) cR (.cons .p0 .nil) J J<|ARun.qv (bh J J) J<|rA J J<|rN<|ATodo.ret<|?_
  cases h
  exact hH J [0] J ⟨J,J⟩
theorem xK [GI:bc] {bd:Bk} {aa:ab} {ah:Int} {aT:Int} {r:Int×ab} (h:oF aa ah aT=some r):ACall Tryz.prog 47 [.ptr bd 0,I ah,I aT] [(bd,.cells [cz aa.L,I aa.at_])] (T0 ([(bd,.cells [cz r.2.L,I r.2.at_])]) (I r.1)):=by
 unfold oF at h
 refine ACall.dN ?_
 refine ACall.aQ Tryz.func47 J Tryz.ntmps47 Tryz.results47 J J ?_
 refine ax<|rA J J<|rN<|tS<|ax<|rM J J<|aq h fun v1 e1 h=>aJ J (dK e1) cR (.cons .p0 .nil) J J<|rN<|cB h J (fun h=>?_) (fun h=>?_)
 ·refine ax<|rM J J<|rM J J<|ARun.qv (gq J J) J<|rM J J<|ARun.qv (bh J J) J<|rM J J<|rM J J<|aC (xs:=([cr (ah - (1:Int)),cr (aT+(1:Int)),ah,aT,(-1099511627776:Int),(1099511627776:Int)]).map I) J J J J J J<|aq h fun v2 e2 h=>aJ J (cj e2) cR (.cons .p0 .nil) J J<|rA J J<|rN<|ATodo.ret<|?_
  cases h
  exact hH J [0] J ⟨J,J⟩
 ·refine tK<|ax<|rM J J<|rM J J<|rM J J<|aq h fun v3 e3 h=>aJ J (EP e3) cR (.cons .p0 .nil) J J<|rA J J<|rN<|ATodo.ret<|?_
  cases h
  exact hH J [0] J ⟨J,J⟩
theorem vk [GI:bc] {aa:List Query} {r:(List Query)} (h:iG aa=some r):ACall Tryz.prog 121 [.list 11 (aa.map Query.av)] [] (T1 (fun iC=>[(iC,.arr 11 (r.map Query.av))]) (fun iC=>.sl 11 iC 0 r.length)):=by
 unfold iG at h
 refine ACall.dN ?_
 refine ACall.aQ Tryz.func121 J Tryz.ntmps121 Tryz.results121 J J ?_
 refine ATodo.seq ?_
 refine ATodo.region ?_
 refine ARun.qv (bM J) J ?_
 refine ARun.nil ?_
 refine ATodo.seq ?_
 refine ATodo.seq ?_
 refine ATodo.region ?_
 refine ARun.qv (aL J) J ?_
 refine Mq J J J J (fun c hc=>?_)
 refine ARun.nil ?_
 refine ATodo.cond J (fun hT=>?_) (fun hF=>?_)
 ·obtain rfl:=Bj h (List.map_eq_nil_iff.1 (hc hT))
  refine ATodo.seq ?_
  refine ATodo.region ?_
  refine ARun.qv (bM J) J ?_
  refine ARun.nil ?_
  refine ATodo.ret ?_
  refine ImpX.arr (s:=2) 11 J (fun b1=>?_)
  exact ImpX.here ⟨_,.cons (.tmp _ _ J) .nil,_,.cons .here .nil,⟨b1,J,J⟩⟩
 ·refine ATodo.skip ?_
  refine ATodo.seq ?_
  refine ATodo.region ?_
  refine rf (xs:=([]:List Query).map Query.av) J J J J J J (fun b2=>?_)
  refine ARun.qv (aL J) J ?_
  refine cS (g:=Query.av) (Xs:=[]) J J J J J J J J (.list _) h (fun _=>.here) J (fun b3=>?_)
  refine ARun.qv (bM J) J ?_
  refine ARun.nil ?_
  refine ATodo.ret ?_
  exact ImpX.here ⟨_,.cons (.tmp _ _ J) .nil,_,.cons .here .nil,⟨b3,J,J⟩⟩
theorem ER [GI:bc] {bd:Bk} {aa:ab} {r:Query×ab} (h:ry aa=some r):ACall Tryz.prog 44 [.ptr bd 0] [(bd,.cells [cz aa.L,I aa.at_])] (T0 ([(bd,.cells [cz r.2.L,I r.2.at_])]) (.agg [I r.1.Kind,.str r.1.Field,.str r.1.Op,I r.1.Value.Kind,.bool r.1.Value.bV,I r.1.Value.Number,.str r.1.Value.Words,I r.1.Version.bH,I r.1.Version.bI,I r.1.Version.bF,oX r.1.Kids])):=by
 unfold ry at h
 refine ACall.dN ?_
 refine ACall.aQ Tryz.func44 J Tryz.ntmps44 Tryz.results44 J J ?_
 refine ax<|bn J J J J fun b1=>rN<|ax<|rM J J<|rM J J<|aC (xs:=([(0:Int),(1:Int),(1:Int),(2:Int)]).map I) J J J J J J<|aq h fun v2 e1 h=>aJ J (cj e1) cR (.cons .p1 .nil) J J<|aq h fun v3 e2 h=>aJ J (uB e2) cR (.cons .p0 .nil) J J<|bn J J J J fun b4=>au J J J J .p0 J J<|rN<|tS<|ax<|rM J J<|aq h fun v5 e3 h=>aJ J (dK e3) cR (.cons .p1 .nil) J J<|rN<|ATodo.cut (fun aB=>∃ (l6:List Int) (n7:Int) (n8:Int) (q9:ae) (MG:ae) (n11:Int) (c12:Bool) (n13:Int) (OF:ae) (n15:Int) (n16:Int) (n17:Int) (AY:List Query),ng l6 n7 n8 q9 MG n11 c12 n13 OF n15 n16 n17 AY=some r∧aB=⟨63,[(2,.ptr b1 0),(3,.ptr b4 0)],[(bd,.cells [cz l6,I n7]),(b1,.cells [I (0:Int),.str [],.str [],I (0:Int),.bool false,I (0:Int),.str [],I (0:Int),I (0:Int),I (0:Int),.nil]),(b4,.cells [I n8,.str q9,.str MG,I n11,.bool c12,I n13,.str OF,I n15,I n16,I n17,oX AY])]⟩) ?_ ?_
 ·refine cB h J (fun h=>?_) (fun h=>?_)
  ·refine ax<|rM J J<|aq h fun dI e4 h=>aJ J (cU e4) cR (.cons .p0 .nil) J J<|rN<|ATodo.block<|ax<|ARun.qv (bS J J) J<|rA J J<|rN<|ATodo.cut (fun aB=>∃ (B8:List Int) (n21:Int) (n22:Int) (Wx:ae) (Wy:ae) (n25:Int) (OE:Bool) (n27:Int) (Uc:ae) (n29:Int) (n30:Int) (n31:Int) (Ac:List Query),pY B8 n21 n22 Wx Wy n25 OE n27 Uc n29 n30 n31 Ac=some r∧aB=⟨63,[(2,.ptr b1 0),(3,.ptr b4 0)],[(bd,.cells [cz B8,I n21]),(b1,.cells [I (0:Int),.str [],.str [],I (0:Int),.bool false,I (0:Int),.str [],I (0:Int),I (0:Int),I (0:Int),.nil]),(b4,.cells [I n22,.str Wx,.str Wy,I n25,.bool OE,I n27,.str Uc,I n29,I n30,I n31,oX Ac])]⟩) ?_ ?_
   ·refine cD h J (fun h=>?_) (fun h=>?_)
    ·exact tR<|rM J J<|aq h fun v33 e5 h=>aJ J (xK e5) cR (.cons .p0 .nil) J J<|rF J J J<|au J J J J .p1 J J<|rN<|ATodo.stop<|ImpX.lq [0,1,0] ⟨v33.2.L,v33.2.at_,v33.1,v3.1.Field,v3.1.Op,v3.1.Value.Kind,v3.1.Value.bV,v3.1.Value.Number,v3.1.Value.Words,v3.1.Version.bH,v3.1.Version.bI,v3.1.Version.bF,v3.1.Kids,h,J⟩ J J
    ·refine ax<|ARun.qv (bS J J) J<|rA J J<|rN<|ATodo.cut (fun aB=>∃ (EI:List Int) (n35:Int) (n36:Int) (Wz:ae) (WA:ae) (n39:Int) (c40:Bool) (n41:Int) (WB:ae) (n43:Int) (n44:Int) (n45:Int) (OG:List Query),pZ EI n35 n36 Wz WA n39 c40 n41 WB n43 n44 n45 OG=some r∧aB=⟨63,[(2,.ptr b1 0),(3,.ptr b4 0)],[(bd,.cells [cz EI,I n35]),(b1,.cells [I (0:Int),.str [],.str [],I (0:Int),.bool false,I (0:Int),.str [],I (0:Int),I (0:Int),I (0:Int),.nil]),(b4,.cells [I n36,.str Wz,.str WA,I n39,.bool c40,I n41,.str WB,I n43,I n44,I n45,oX OG])]⟩) ?_ ?_
     ·refine cD h J (fun h=>?_) (fun h=>?_)
      ·exact tR<|rM J J<|aC (xs:=([([]:ae),([110,111,112,101]:ae),([116,97,103,46]:ae),([116,97,103,46,65]:ae),([112,114,111,112,46,97,46]:ae),([107,101,121]:ae),([102,105,114,109,119,97,114,101]:ae)]).map AV.str) J J J J J J<|aq h fun FP e6 h=>aJ J (br e6) cR (.cons .p0 .nil) J J<|rF J J J<|au J J J J .p1 J J<|rN<|ATodo.stop<|ImpX.lq [0,1,0] ⟨FP.2.L,FP.2.at_,v3.1.Kind,FP.1,v3.1.Op,v3.1.Value.Kind,v3.1.Value.bV,v3.1.Value.Number,v3.1.Value.Words,v3.1.Version.bH,v3.1.Version.bI,v3.1.Version.bF,v3.1.Kids,h,J⟩ J J
      ·refine ax<|ARun.qv (bS J J) J<|rA J J<|rN<|ATodo.cut (fun aB=>∃ (WC:List Int) (n49:Int) (n50:Int) (WD:ae) (WE:ae) (OH:Int) (WG:Bool) (DR:Int) (WH:ae) (n57:Int) (WI:Int) (n59:Int) (DU:List Query),p9 WC n49 n50 WD WE OH WG DR WH n57 WI n59 DU=some r∧aB=⟨63,[(2,.ptr b1 0),(3,.ptr b4 0)],[(bd,.cells [cz WC,I n49]),(b1,.cells [I (0:Int),.str [],.str [],I (0:Int),.bool false,I (0:Int),.str [],I (0:Int),I (0:Int),I (0:Int),.nil]),(b4,.cells [I n50,.str WD,.str WE,I OH,.bool WG,I DR,.str WH,I n57,I WI,I n59,oX DU])]⟩) ?_ ?_
       ·refine cD h J (fun h=>?_) (fun h=>?_)
        ·exact tR<|rM J J<|aC (xs:=([([]:ae),([61]:ae),([60]:ae),([61,61]:ae)]).map AV.str) J J J J J J<|aq h fun Ad e7 h=>aJ J (br e7) cR (.cons .p0 .nil) J J<|rF J J J<|au J J J J .p1 J J<|rN<|ATodo.stop<|ImpX.lq [0,1,0] ⟨Ad.2.L,Ad.2.at_,v3.1.Kind,v3.1.Field,Ad.1,v3.1.Value.Kind,v3.1.Value.bV,v3.1.Value.Number,v3.1.Value.Words,v3.1.Version.bH,v3.1.Version.bI,v3.1.Version.bF,v3.1.Kids,h,J⟩ J J
        ·refine ax<|ARun.qv (bS J J) J<|rA J J<|rN<|ATodo.cut (fun aB=>∃ (EG:List Int) (NT:Int) (WJ:Int) (NU:ae) (WK:ae) (WL:Int) (WM:Bool) (n69:Int) (WN:ae) (WO:Int) (NV:Int) (WQ:Int) (MH:List Query),qa EG NT WJ NU WK WL WM n69 WN WO NV WQ MH=some r∧aB=⟨63,[(2,.ptr b1 0),(3,.ptr b4 0)],[(bd,.cells [cz EG,I NT]),(b1,.cells [I (0:Int),.str [],.str [],I (0:Int),.bool false,I (0:Int),.str [],I (0:Int),I (0:Int),I (0:Int),.nil]),(b4,.cells [I WJ,.str NU,.str WK,I WL,.bool WM,I n69,.str WN,I WO,I NV,I WQ,oX MH])]⟩) ?_ ?_
         ·refine cD h J (fun h=>?_) (fun h=>?_)
          ·exact tR<|ARun.qv (bl J J J J J) J<|ARun.qv (bl J J J J J) J<|ARun.qv (bl J J J J J) J<|ARun.qv (bl J J J J J) J<|ARun.qv (bl J J J J J) J<|aC (xs:=([(⟨(0:Int),false,(0:Int),[]⟩:a8),(⟨(9:Int),false,(0:Int),[]⟩:a8),(⟨(1:Int),false,(1:Int),[]⟩:a8),(⟨(3:Int),false,(0:Int),([255]:ae)⟩:a8),(⟨(2:Int),false,(1000000001:Int),[]⟩:a8)]).map a8.av) J J J J J J<|rM J J<|aq h fun v75 e8 h=>aJ J (cU e8) cR (.cons .p0 .nil) J J<|aq h fun v76 e9 h=>ARun.qv (aP J J J e9 J J) J<|ARun.qv (aH J J J) J<|rF J J J<|au J J J J .p1 J J<|rN<|ATodo.stop<|ImpX.lq [0,1,0] ⟨v75.2.L,v75.2.at_,v3.1.Kind,v3.1.Field,v3.1.Op,v76.Kind,v76.bV,v76.Number,v76.Words,v3.1.Version.bH,v3.1.Version.bI,v3.1.Version.bF,v3.1.Kids,h,J⟩ J J
          ·refine ax<|ARun.qv (bS J J) J<|rA J J<|rN<|ATodo.cut (fun aB=>∃ (MI:List Int) (WR:Int) (WS:Int) (WT:ae) (WU:ae) (NW:Int) (WV:Bool) (NX:Int) (WW:ae) (WX:Int) (WY:Int) (WZ:Int) (Rt:List Query),qd MI WR WS WT WU NW WV NX WW WX WY WZ Rt=some r∧aB=⟨63,[(2,.ptr b1 0),(3,.ptr b4 0)],[(bd,.cells [cz MI,I WR]),(b1,.cells [I (0:Int),.str [],.str [],I (0:Int),.bool false,I (0:Int),.str [],I (0:Int),I (0:Int),I (0:Int),.nil]),(b4,.cells [I WS,.str WT,.str WU,I NW,.bool WV,I NX,.str WW,I WX,I WY,I WZ,oX Rt])]⟩) ?_ ?_
           ·refine cD h J (fun h=>?_) (fun h=>?_)
            ·exact tR<|rF J J J<|rL J J .p1 J J<|aq h fun v90 zM h=>eE J (vk zM) cR .nil (fun _=>J) J fun b91=>rM J J<|aq h fun Fz AZ h=>aJ J (Ae AZ) cR (.cons .p1 .nil) J J<|aC (xs:=([Fz.1]:List Query).map Query.av) J (by simp only [List.map_cons,List.map_nil,Query.tN];rfl) J (by simp only [List.map_cons,List.map_nil,Query.tN];rfl) J J<|aq h fun Vi FX h=>cS (g:=Query.av) J J J J J J J J (.list _) FX (fun _=>.p1) J fun b94=>rF J J J<|au J J J J .p2 J J<|rN<|ATodo.stop<|ImpX.freeze .p1<|ImpX.Bi (j:=10) .p2 J (Co.Ck .p1) J J<|ImpX.lq [0,2,1] ⟨Fz.2.L,Fz.2.at_,v3.1.Kind,v3.1.Field,v3.1.Op,v3.1.Value.Kind,v3.1.Value.bV,v3.1.Value.Number,v3.1.Value.Words,v3.1.Version.bH,v3.1.Version.bI,v3.1.Version.bF,Vi,h,J⟩ J J
            ·refine ax<|rM J J<|aC (xs:=([(18:Int),(19:Int),(20:Int)]).map I) J J J J J J<|aq h fun Lr FY h=>aJ J (cj FY) cR (.cons .p0 .nil) J J<|rM J J<|rN<|ATodo.block<|ATodo.bT (fun x:Int×ae×ae×Int×Bool×Int×ae×Int×Int×Int×(List Query)×Int=>nh Lr x.1 x.2.1 x.2.2.1 x.2.2.2.1 x.2.2.2.2.1 x.2.2.2.2.2.1 x.2.2.2.2.2.2.1 x.2.2.2.2.2.2.2.1 x.2.2.2.2.2.2.2.2.1 x.2.2.2.2.2.2.2.2.2.1 x.2.2.2.2.2.2.2.2.2.2.1 x.2.2.2.2.2.2.2.2.2.2.2) (fun x aB=>aB=⟨63,[(2,.ptr b1 0),(3,.ptr b4 0),(15,I Lr.1),(16,I x.2.2.2.2.2.2.2.2.2.2.2)],[(bd,.cells [cz Lr.2.L,I Lr.2.at_]),(b1,.cells [I (0:Int),.str [],.str [],I (0:Int),.bool false,I (0:Int),.str [],I (0:Int),I (0:Int),I (0:Int),.nil]),(b4,.cells [I x.1,.str x.2.1,.str x.2.2.1,I x.2.2.2.1,.bool x.2.2.2.2.1,I x.2.2.2.2.2.1,.str x.2.2.2.2.2.2.1,I x.2.2.2.2.2.2.2.1,I x.2.2.2.2.2.2.2.2.1,I x.2.2.2.2.2.2.2.2.2.1,oX x.2.2.2.2.2.2.2.2.2.2.1])]⟩) h ?_ ?_
             ·exact ImpX.lq [0,1,0] J J J
             ·intro x z1 aB J1 dB h ic dm
              obtain ⟨n108,JE,JF,n111,JG,n113,JH,n115,n116,n117,JI,n119⟩:=x
              obtain rfl:=dB
              replace h:nh Lr n108 JE JF n111 JG n113 JH n115 n116 n117 JI n119=some z1:=h
              unfold nh at h
              refine ax<|ARun.qv (bu J J) J<|rN<|tS<|cD h J (fun h=>?_) (fun h=>?_)
              ·refine tK<|tS<|ATodo.block<|tR<|ARun.qv (ao J J .p2 J) J<|aC (xs:=([(⟨n108,JE,JF,(⟨n111,JG,n113,JH⟩:a8),(⟨n115,n116,n117⟩:Version),JI⟩:Query)]).map Query.av) J (by simp only [List.map_cons,List.map_nil,Query.tN];rfl) J (by simp only [List.map_cons,List.map_nil,Query.tN];rfl) J J<|ARun.qv (bl J J J J J) J<|au J J J J .p2 J J<|rN<|ATodo.bU<|tR<|ARun.qv (bh J J) J<|rM J J<|rN<|ATodo.stop<|?_
               cases h
               exact ic _ _ J<|ImpX.lq [0,0,0] J J J
              ·exact ATodo.exit J<|have h:=bz h dm;ATodo.stop<|ImpX.lq [0,0,0] ⟨Lr.2.L,Lr.2.at_,n108,JE,JF,n111,JG,n113,JH,n115,n116,n117,JI,h,J⟩ J J
           ·rintro aB ⟨MI,WR,WS,WT,WU,NW,WV,NX,WW,WX,WY,WZ,Rt,h,rfl⟩
            unfold qd at h
            exact ATodo.stop<|ImpX.lq [0,0,0] ⟨MI,WR,WS,WT,WU,NW,WV,NX,WW,WX,WY,WZ,Rt,h,J⟩ J J
         ·rintro aB ⟨EG,NT,WJ,NU,WK,WL,WM,n69,WN,WO,NV,WQ,MH,h,rfl⟩
          unfold qa at h
          exact ATodo.stop<|ImpX.lq [0,0,0] ⟨EG,NT,WJ,NU,WK,WL,WM,n69,WN,WO,NV,WQ,MH,h,J⟩ J J
       ·rintro aB ⟨WC,n49,n50,WD,WE,OH,WG,DR,WH,n57,WI,n59,DU,h,rfl⟩
        unfold p9 at h
        exact ATodo.stop<|ImpX.lq [0,0,0] ⟨WC,n49,n50,WD,WE,OH,WG,DR,WH,n57,WI,n59,DU,h,J⟩ J J
     ·rintro aB ⟨EI,n35,n36,Wz,WA,n39,c40,n41,WB,n43,n44,n45,OG,h,rfl⟩
      unfold pZ at h
      exact ATodo.stop<|ImpX.lq [0,0,0] ⟨EI,n35,n36,Wz,WA,n39,c40,n41,WB,n43,n44,n45,OG,h,J⟩ J J
   ·rintro aB ⟨B8,n21,n22,Wx,Wy,n25,OE,n27,Uc,n29,n30,n31,Ac,h,rfl⟩
    unfold pY at h
    exact ATodo.bU<|ATodo.stop<|ImpX.lq [0,0,0] ⟨B8,n21,n22,Wx,Wy,n25,OE,n27,Uc,n29,n30,n31,Ac,h,J⟩ J J
  ·exact tK<|ATodo.stop<|ImpX.lq [0,1,0] ⟨v5.2.L,v5.2.at_,v3.1.Kind,v3.1.Field,v3.1.Op,v3.1.Value.Kind,v3.1.Value.bV,v3.1.Value.Number,v3.1.Value.Words,v3.1.Version.bH,v3.1.Version.bI,v3.1.Version.bF,v3.1.Kids,h,J⟩ J J
 ·rintro aB ⟨l6,n7,n8,q9,MG,n11,c12,n13,OF,n15,n16,n17,AY,h,rfl⟩
  unfold ng at h
  refine ax<|ARun.qv (ao J J .p2 J) J<|au J J J J .p1 J J<|rN<|ATodo.ret<|?_
  cases h
  exact ImpX.here ⟨_,.cons (.all _ _ _ _ _ _ J .p1 ay.h aO.h J J) .nil,_,.cons .p0 .nil,⟨J,J⟩⟩
theorem FZ [GI:bc] {bd:Bk} {aa:ab} {r:oC×ab} (h:tO aa=some r):ACall Tryz.prog 46 [.ptr bd 0] [(bd,.cells [cz aa.L,I aa.at_])] (T0 ([(bd,.cells [cz r.2.L,I r.2.at_])]) (oC.av r.1)):=by
 unfold tO at h
 refine ACall.dN ?_
 refine ACall.aQ Tryz.func46 J Tryz.ntmps46 Tryz.results46 J J ?_
 refine ax<|bn J J J J fun b1=>rN<|ax<|rM J J<|aC (xs:=([(0:Int),(5:Int),(30:Int),(100:Int)]).map I) J J J J J J<|aq h fun v2 e1 h=>aJ J (cj e1) cR (.cons .p1 .nil) J J<|rM J J<|aC (xs:=([(30:Int),(100:Int),(250:Int),(1000:Int),(345686400000:Int)]).map I) J J J J J J<|aq h fun v3 e2 h=>aJ J (cj e2) cR (.cons .p0 .nil) J J<|ARun.qv (bl J J J J J) J<|bn J J J J fun b4=>au J J J J .p0 J J<|rN<|tS<|ax<|rM J J<|aq h fun v5 e3 h=>aJ J (dK e3) cR (.cons .p1 .nil) J J<|rN<|ATodo.cut (fun aB=>∃ (l6:List Int) (n7:Int) (n8:Int) (n9:Int),rz l6 n7 n8 n9=some r∧aB=⟨21,[(2,.ptr b1 0),(3,.ptr b4 0)],[(bd,.cells [cz l6,I n7]),(b1,.cells [I (0:Int),I (0:Int)]),(b4,.cells [I n8,I n9])]⟩) ?_ ?_
 ·refine cB h J (fun h=>?_) (fun h=>?_)
  ·exact tR<|rM J J<|aC (xs:=([(-1:Int),(10:Int)]).map I) J J J J J J<|aq h fun v10 e4 h=>aJ J (cj e4) cR (.cons .p0 .nil) J J<|rM J J<|aC (xs:=([(9:Int),(345686400001:Int)]).map I) J J J J J J<|aq h fun v11 e5 h=>aJ J (cj e5) cR (.cons .p0 .nil) J J<|ARun.qv (bl J J J J J) J<|au J J J J .p1 J J<|rN<|ATodo.stop<|ImpX.lq [0,1,0] ⟨v11.2.L,v11.2.at_,v10.1,v11.1,h,J⟩ J J
  ·exact tK<|ATodo.stop<|ImpX.lq [0,1,0] ⟨v5.2.L,v5.2.at_,v2.1,v3.1,h,J⟩ J J
 ·rintro aB ⟨l6,n7,n8,n9,h,rfl⟩
  unfold rz at h
  refine ax<|ARun.qv (ao J J .p2 J) J<|au J J J J .p1 J J<|rN<|ATodo.ret<|?_
  cases h
  exact ImpX.here ⟨_,.cons (.all _ _ _ _ _ _ J .p1 ay.h aO.h J J) .nil,_,.cons .p0 .nil,⟨J,J⟩⟩
theorem HP [GI:bc] {bd:Bk} {aa:ab} {r:bb×ab} (h:u9 aa=some r):ACall Tryz.prog 6 [.ptr bd 0] [(bd,.cells [cz aa.L,I aa.at_])] (T0 ([(bd,.cells [cz r.2.L,I r.2.at_])]) (bb.av r.1)):=by
 unfold u9 at h
 refine ACall.dN ?_
 refine ACall.aQ Tryz.func6 J Tryz.ntmps6 Tryz.results6 J J ?_
 refine ax<|bn J J J J fun b1=>rN<|ax<|rM J J<|aq h fun v2 e1 h=>Sh J (Bz e1) cR (.cons .p1 .nil) (fun _ _ _ _=>J) J fun b3 b4 b5 b6=>bn J J J J fun b7=>au J J J J .p0 J J<|rN<|tS<|ax<|rM J J<|aq h fun v8 e2 h=>aJ J (dK e2) cR (.cons .p1 .nil) J J<|rN<|ATodo.cut (fun aB=>∃ (ud:Bk) (yK:Bk) (yL:Bk) (wz:Bk) (l9:List Int) (n10:Int) (ye:List ar) (xh:List bN) (Ud:List aK) (AY:List bA),pG l9 n10 ye xh Ud AY=some r∧aB=⟨112,[(2,.ptr b1 0),(3,.ptr b7 0)],[(bd,.cells [cz l9,I n10]),(b1,.cells [.nil,.nil,.nil,.nil]),(b7,.cells [.sl 2 ud 0 ye.length,.sl 2 yK 0 xh.length,.sl 3 yL 0 Ud.length,.sl 17 wz 0 AY.length]),(ud,FV ye),(yK,FW xh),(yL,FU Ud),(wz,JK AY)]⟩) ?_ ?_
 ·refine cB h J (fun h=>?_) (fun h=>?_)
  ·refine ax<|rM J J<|aq h fun dI e3 h=>aJ J (cU e3) cR (.cons .p0 .nil) J J<|rN<|ATodo.block<|ax<|ARun.qv (bS J J) J<|rA J J<|rN<|ATodo.cut (fun aB=>∃ (Qd:Bk) (SO:Bk) (Lz:Bk) (Uh:Bk) (B8:List Int) (n21:Int) (MJ:List ar) (Ls:List bN) (AF:List aK) (B7:List bA),ta B8 n21 MJ Ls AF B7=some r∧aB=⟨112,[(2,.ptr b1 0),(3,.ptr b7 0)],[(bd,.cells [cz B8,I n21]),(b1,.cells [.nil,.nil,.nil,.nil]),(b7,.cells [.sl 2 Qd 0 MJ.length,.sl 2 SO 0 Ls.length,.sl 3 Lz 0 AF.length,.sl 17 Uh 0 B7.length]),(Qd,FV MJ),(SO,FW Ls),(Lz,FU AF),(Uh,JK B7)]⟩) ?_ ?_
   ·refine cD h J (fun h=>?_) (fun h=>?_)
    ·refine aq h fun v30 e4 h=>aq h fun v31 e5 h=>ATodo.kZ (id:=7) (A:=[0,1,0,4,0,0,60,127,255,511]) (H0:=[(bd,.cells [cz dI.2.L,I dI.2.at_])]) (HH:=fun β=>[(bd,.cells [cz v31.2.L,I v31.2.at_]),(b7,.cells (W6 v2.1 b3 b4 b5 b6)),(b3,FV v2.1.al),(b4,FW v2.1.bj),(b5,FU v2.1.aD),(b6,JK v2.1.aI),(b1,.cells [.nil,.nil,.nil,.nil])]) 7 mixed J (by kernel_rfl) (by kernel_rfl) [⟨none,some 3,[],fun _=>(bd,.cells [cz dI.2.L,I dI.2.at_]),none,[]⟩,⟨some 3,some 6,[],fun _=>(bd,.cells [cz v30.2.L,I v30.2.at_]),none,[]⟩,⟨some 6,none,[],fun _=>(bd,.cells [cz v31.2.L,I v31.2.at_]),none,[]⟩] [] J (by kernel_rfl) J (.cons .p0 .nil) (fun _=>J)<|AT.am 3 J J<|AM.qv (an J J) J<|AM.qv (az J J .p0 J) J<|AM.qv (aL J) J<|AM.nil<|AT.qN (av:=I v30.1) (Ti:=[(bd,.cells [cz dI.2.L,I dI.2.at_])]) (Pi:=[(bd,.cells [cz v30.2.L,I v30.2.at_])]) (fun _=>J) (fun _=>J) (fun _=>J) J J J ?_ ?_
     ·exact aJ J (cU e4) cR (.cons .p0 .nil) J J<|ARun.nil ⟨_,J,J⟩
     refine AT.am 2 J J<|AM.qv (aL J) J<|AM.aY (xs:=([([116,99]:ae),([116,97]:ae),([110,111,110,101]:ae),([116,98]:ae)]).map AV.str) J J J J J J<|AM.nil<|AT.qN (av:=.str v31.1) (Ti:=[(bd,.cells [cz v30.2.L,I v30.2.at_])]) (Pi:=[(bd,.cells [cz v31.2.L,I v31.2.at_])]) (fun _=>J) (fun _=>J) (fun _=>J) J J J ?_ ?_
     ·exact aJ J (br e5) cR (.cons .p0 .nil) J J<|ARun.nil ⟨_,J,J⟩
     exact AT.yx (fun _=>J) fun β=>aq h fun v32 e6 h=>ARun.qv (fg J J J e6) J<|ARun.qv (Bb J J) J<|pD (g:=ar.av) (Mm:=(⟨v32.Key,v31.1⟩:ar)) J J J J e6 J .p2 J<|ARun.ghost<|ImpX.eqs (s:=28) (pz:=.sl 2 b3 0 (v2.1.al.set v30.1.toNat (⟨v32.Key,v31.1⟩:ar)).length) J (by rw [List.length_set])<|ImpX.here<|ARun.ghost<|ImpX.TS (j:=0) (pz:=.sl 2 b3 0 (v2.1.al.set v30.1.toNat (⟨v32.Key,v31.1⟩:ar)).length) .p1 J (by rw [List.length_set]) J<|ImpX.here<|rN<|ATodo.stop<|ImpX.lq [0,5,0,0,0,0,0] ⟨b3,b4,b5,b6,v31.2.L,v31.2.at_,v2.1.al.set v30.1.toNat (⟨v32.Key,v31.1⟩:ar),v2.1.bj,v2.1.aD,v2.1.aI,h,J⟩ J J
    ·refine ax<|ARun.qv (bS J J) J<|rA J J<|rN<|ATodo.cut (fun aB=>∃ (N3:Bk) (OL:Bk) (Z5:Bk) (W9:Bk) (EJ:List Int) (n34:Int) (Dn:List ar) (Fx:List bN) (B9:List aK) (HJ:List bA),tb EJ n34 Dn Fx B9 HJ=some r∧aB=⟨112,[(2,.ptr b1 0),(3,.ptr b7 0)],[(bd,.cells [cz EJ,I n34]),(b1,.cells [.nil,.nil,.nil,.nil]),(b7,.cells [.sl 2 N3 0 Dn.length,.sl 2 OL 0 Fx.length,.sl 3 Z5 0 B9.length,.sl 17 W9 0 HJ.length]),(N3,FV Dn),(OL,FW Fx),(Z5,FU B9),(W9,JK HJ)]⟩) ?_ ?_
     ·refine cD h J (fun h=>?_) (fun h=>?_)
      ·refine aq h fun P2 e7 h=>aq h fun v44 e8 h=>ATodo.kZ (id:=9) (A:=[0,1,0,0,12,0,0,124,252,508,1023,2047,4095]) (H0:=[(bd,.cells [cz dI.2.L,I dI.2.at_])]) (HH:=fun β=>[(bd,.cells [cz v44.2.L,I v44.2.at_]),(b7,.cells (W6 v2.1 b3 b4 b5 b6)),(b3,FV v2.1.al),(b4,FW v2.1.bj),(b5,FU v2.1.aD),(b6,JK v2.1.aI),(b1,.cells [.nil,.nil,.nil,.nil])]) 10 mixed J (by kernel_rfl) (by kernel_rfl) [⟨none,some 4,[],fun _=>(bd,.cells [cz dI.2.L,I dI.2.at_]),none,[]⟩,⟨some 4,some 7,[],fun _=>(bd,.cells [cz P2.2.L,I P2.2.at_]),none,[]⟩,⟨some 7,none,[],fun _=>(bd,.cells [cz v44.2.L,I v44.2.at_]),none,[]⟩] [] J (by kernel_rfl) J (.cons .p0 .nil) (fun _=>J)<|AT.am 4 J J<|AM.qv (an J J) J<|AM.qv (az J J .p0 J) J<|AM.qv (aL J) J<|AM.aY (xs:=([([]:ae),([116,97]:ae),([116,122]:ae)]).map AV.str) J J J J J J<|AM.nil<|AT.qN (av:=.str P2.1) (Ti:=[(bd,.cells [cz dI.2.L,I dI.2.at_])]) (Pi:=[(bd,.cells [cz P2.2.L,I P2.2.at_])]) (fun _=>J) (fun _=>J) (fun _=>J) J J J ?_ ?_
       ·exact aJ J (br e7) cR (.cons .p0 .nil) J J<|ARun.nil ⟨_,J,J⟩
       refine AT.am 2 J J<|AM.qv (aL J) J<|AM.aY (xs:=([([]:ae),([116,100]:ae)]).map AV.str) J J J J J J<|AM.nil<|AT.qN (av:=.str v44.1) (Ti:=[(bd,.cells [cz P2.2.L,I P2.2.at_])]) (Pi:=[(bd,.cells [cz v44.2.L,I v44.2.at_])]) (fun _=>J) (fun _=>J) (fun _=>J) J J J ?_ ?_
       ·exact aJ J (br e8) cR (.cons .p0 .nil) J J<|ARun.nil ⟨_,J,J⟩
       exact AT.am 2 J J<|AM.qv (bl J J J J J) J<|AM.aY (xs:=([(⟨P2.1,v44.1⟩:ar)]).map ar.av) J J J J J J<|AM.nil<|AT.yx (fun _=>J) fun β=>aq h fun Lt e9 h=>cS (g:=ar.av) J J J J J J J J (.list _) e9 (fun _=>.p2) J fun Xa=>rF J J J<|au J J J J .p1 J J<|rN<|ATodo.stop<|ImpX.lq [0,5,0,0,0,0,0] ⟨Xa,b4,b5,b6,v44.2.L,v44.2.at_,Lt,v2.1.bj,v2.1.aD,v2.1.aI,h,J⟩ J J
      ·refine ax<|ARun.qv (bS J J) J<|rA J J<|rN<|ATodo.cut (fun aB=>∃ (SP:Bk) (Xb:Bk) (LA:Bk) (HK:List Int) (n48:Int) (Vj:List bN) (NY:List aK) (Fy:List bA),tc v2 HK n48 Vj NY Fy=some r∧aB=⟨112,[(2,.ptr b1 0),(3,.ptr b7 0)],[(bd,.cells [cz HK,I n48]),(b1,.cells [.nil,.nil,.nil,.nil]),(b7,.cells [.sl 2 b3 0 v2.1.al.length,.sl 2 SP 0 Vj.length,.sl 3 Xb 0 NY.length,.sl 17 LA 0 Fy.length]),(b3,FV v2.1.al),(SP,FW Vj),(Xb,FU NY),(LA,JK Fy)]⟩) ?_ ?_
       ·refine cD h J (fun h=>?_) (fun h=>?_)
        ·refine aq h fun v55 zM h=>aq h fun KO AZ h=>aq h fun KN FX h=>ATodo.kZ (id:=11) (A:=[0,1,0,0,12,0,0,0,0,0,992,0,2076,8188,16380,32764,65532,131071,262143,524287]) (H0:=[(bd,.cells [cz dI.2.L,I dI.2.at_])]) (HH:=fun β=>[(bd,.cells [cz KO.2.L,I KO.2.at_]),(b7,.cells (W6 v2.1 b3 b4 b5 b6)),(b3,FV v2.1.al),(b4,FW v2.1.bj),(b5,FU v2.1.aD),(b6,JK v2.1.aI),(b1,.cells [.nil,.nil,.nil,.nil])]) 17 mixed J (by kernel_rfl) (by kernel_rfl) [⟨none,some 4,[],fun _=>(bd,.cells [cz dI.2.L,I dI.2.at_]),none,[]⟩,⟨some 4,some 12,[],fun _=>(bd,.cells [cz v55.2.L,I v55.2.at_]),none,[]⟩,⟨some 12,none,[],fun _=>(bd,.cells [cz KO.2.L,I KO.2.at_]),none,[]⟩] [] J (by kernel_rfl) J (.cons .p0 .nil) (fun _=>J)<|AT.am 4 J J<|AM.qv (an J J) J<|AM.qv (az J J .p0 J) J<|AM.qv (aL J) J<|AM.aY (xs:=([([]:ae),([114,101,97,100]:ae),([122,122]:ae)]).map AV.str) J J J J J J<|AM.nil<|AT.qN (av:=.str v55.1) (Ti:=[(bd,.cells [cz dI.2.L,I dI.2.at_])]) (Pi:=[(bd,.cells [cz v55.2.L,I v55.2.at_])]) (fun _=>J) (fun _=>J) (fun _=>J) J J J ?_ ?_
         ·exact aJ J (br zM) cR (.cons .p0 .nil) J J<|ARun.nil ⟨_,J,J⟩
         refine AT.am 7 J J<|AM.aY (xs:=([([97,42]:ae)]).map AV.str) J J J J J J<|AM.aY (xs:=([([42,46,97]:ae)]).map AV.str) J J J J J J<|AM.aY (xs:=([([98]:ae),([97]:ae)]).map AV.str) J J J J J J<|AM.aY (xs:=([([97,46,98,46,99,46,100,46,101,46,102]:ae)]).map AV.str) J J J J J J<|AM.aY (xs:=([([97,46,42]:ae)]).map AV.str) J J J J J J<|AM.CV (xs:=[.nil,ph [([97,42]:ae)],ph [([42,46,97]:ae)],ph [([98]:ae),([97]:ae)],ph [([97,46,98,46,99,46,100,46,101,46,102]:ae)],ph [([97,46,42]:ae)]]) (av:=.list 1 (([[],[([97,42]:ae)],[([42,46,97]:ae)],[([98]:ae),([97]:ae)],[([97,46,98,46,99,46,100,46,101,46,102]:ae)],[([97,46,42]:ae)]]:List (List ae)).map (Ba 1 AV.str))) J J J J J J (Fw.TZ (.cons .n (.cons .r (.cons .r (.cons .r (.cons .r (.cons .r .nil)))))) J J)<|AM.qv (aL J) J<|AM.nil<|AT.qN (av:=I KO.1) (Ti:=[(bd,.cells [cz v55.2.L,I v55.2.at_])]) (Pi:=[(bd,.cells [cz KO.2.L,I KO.2.at_])]) (fun _=>J) (fun _=>J) (fun _=>J) J J J ?_ ?_
         ·exact aJ J (cU AZ) cR (.cons .p0 .nil) J J<|ARun.nil ⟨_,J,J⟩
         exact AT.am 4 J J<|AM.qv (aP J J J FX J J) J<|AM.qv (aG J J J) J<|AM.qv (bl J J J J J) J<|AM.aY (xs:=([(⟨v55.1,KN⟩:bN)]).map bN.av) J J J J J J<|AM.nil<|AT.yx (fun _=>J) fun β=>aq h fun JJ FY h=>cS (g:=bN.av) J J J J J J J J (.list _) FY (fun _=>.p3) J fun Yt=>rF J J J<|au J J J J .p1 J J<|rN<|ATodo.stop<|ImpX.lq [0,5,0,0,0,0,0] ⟨Yt,b5,b6,KO.2.L,KO.2.at_,JJ,v2.1.aD,v2.1.aI,h,J⟩ J J
        ·refine ax<|ARun.qv (bS J J) J<|rA J J<|rN<|ATodo.cut (fun aB=>∃ (Z6:Bk) (Z7:Bk) (DU:List Int) (n61:Int) (Vk:List aK) (Vl:List bA),td v2 DU n61 Vk Vl=some r∧aB=⟨112,[(2,.ptr b1 0),(3,.ptr b7 0)],[(bd,.cells [cz DU,I n61]),(b1,.cells [.nil,.nil,.nil,.nil]),(b7,.cells [.sl 2 b3 0 v2.1.al.length,.sl 2 b4 0 v2.1.bj.length,.sl 3 Z6 0 Vk.length,.sl 17 Z7 0 Vl.length]),(b3,FV v2.1.al),(b4,FW v2.1.bj),(Z6,FU Vk),(Z7,JK Vl)]⟩) ?_ ?_
         ·refine cD h J (fun h=>?_) (fun h=>?_)
          ·refine aq h fun v66 P6 h=>aq h fun v67 SJ h=>aq h fun DT SK h=>ATodo.kZ (id:=13) (A:=[0,1,0,0,12,0,0,124,0,0,1020,2044,4092,8191,16383,32767]) (H0:=[(bd,.cells [cz dI.2.L,I dI.2.at_])]) (HH:=fun β=>[(bd,.cells [cz DT.2.L,I DT.2.at_]),(b7,.cells (W6 v2.1 b3 b4 b5 b6)),(b3,FV v2.1.al),(b4,FW v2.1.bj),(b5,FU v2.1.aD),(b6,JK v2.1.aI),(b1,.cells [.nil,.nil,.nil,.nil])]) 13 mixed J (by kernel_rfl) (by kernel_rfl) [⟨none,some 4,[],fun _=>(bd,.cells [cz dI.2.L,I dI.2.at_]),none,[]⟩,⟨some 4,some 7,[],fun _=>(bd,.cells [cz v66.2.L,I v66.2.at_]),none,[]⟩,⟨some 7,some 10,[],fun _=>(bd,.cells [cz v67.2.L,I v67.2.at_]),none,[]⟩,⟨some 10,none,[],fun _=>(bd,.cells [cz DT.2.L,I DT.2.at_]),none,[]⟩] [] J (by kernel_rfl) J (.cons .p0 .nil) (fun _=>J)<|AT.am 4 J J<|AM.qv (an J J) J<|AM.qv (az J J .p0 J) J<|AM.qv (aL J) J<|AM.aY (xs:=([([]:ae),([97,110,110]:ae),([122,101,100]:ae)]).map AV.str) J J J J J J<|AM.nil<|AT.qN (av:=.str v66.1) (Ti:=[(bd,.cells [cz dI.2.L,I dI.2.at_])]) (Pi:=[(bd,.cells [cz v66.2.L,I v66.2.at_])]) (fun _=>J) (fun _=>J) (fun _=>J) J J J ?_ ?_
           ·exact aJ J (br P6) cR (.cons .p0 .nil) J J<|ARun.nil ⟨_,J,J⟩
           refine AT.am 2 J J<|AM.qv (aL J) J<|AM.aY (xs:=([([116,97]:ae),([110,111,110,101]:ae)]).map AV.str) J J J J J J<|AM.nil<|AT.qN (av:=.str v67.1) (Ti:=[(bd,.cells [cz v66.2.L,I v66.2.at_])]) (Pi:=[(bd,.cells [cz v67.2.L,I v67.2.at_])]) (fun _=>J) (fun _=>J) (fun _=>J) J J J ?_ ?_
           ·exact aJ J (br SJ) cR (.cons .p0 .nil) J J<|ARun.nil ⟨_,J,J⟩
           refine AT.am 2 J J<|AM.qv (aL J) J<|AM.aY (xs:=([([114,101,97,100]:ae),([110,111,110,101]:ae)]).map AV.str) J J J J J J<|AM.nil<|AT.qN (av:=.str DT.1) (Ti:=[(bd,.cells [cz v67.2.L,I v67.2.at_])]) (Pi:=[(bd,.cells [cz DT.2.L,I DT.2.at_])]) (fun _=>J) (fun _=>J) (fun _=>J) J J J ?_ ?_
           ·exact aJ J (br SK) cR (.cons .p0 .nil) J J<|ARun.nil ⟨_,J,J⟩
           exact AT.am 2 J J<|AM.qv (bl J J J J J) J<|AM.aY (xs:=([(⟨v66.1,v67.1,DT.1⟩:aK)]).map aK.av) J J J J J J<|AM.nil<|AT.yx (fun _=>J) fun β=>aq h fun l69 SL h=>cS (g:=aK.av) J J J J J J J J (.list _) SL (fun _=>.p4) J fun b70=>rF J J J<|au J J J J .p1 J J<|rN<|ATodo.stop<|ImpX.lq [0,5,0,0,0,0,0] ⟨b70,b6,DT.2.L,DT.2.at_,l69,v2.1.aI,h,J⟩ J J
          ·refine ax<|ARun.qv (bS J J) J<|rA J J<|rN<|ATodo.cut (fun aB=>∃ (Z8:Bk) (W0:List Int) (NV:Int) (MH:List bA),te v2 W0 NV MH=some r∧aB=⟨112,[(2,.ptr b1 0),(3,.ptr b7 0)],[(bd,.cells [cz W0,I NV]),(b1,.cells [.nil,.nil,.nil,.nil]),(b7,.cells [.sl 2 b3 0 v2.1.al.length,.sl 2 b4 0 v2.1.bj.length,.sl 3 b5 0 v2.1.aD.length,.sl 17 Z8 0 MH.length]),(b3,FV v2.1.al),(b4,FW v2.1.bj),(b5,FU v2.1.aD),(Z8,JK MH)]⟩) ?_ ?_
           ·refine cD h J (fun h=>?_) (fun h=>?_)
            ·refine aq h fun v75 VD h=>aq h fun v76 VE h=>aq h fun v77 Yu h=>aq h fun v78 Yv h=>aq h fun v79 Yw h=>aq h fun v80 Xc h=>ATodo.kZ (id:=15) (A:=[0,1,0,0,12,0,0,124,0,0,1020,0,4092,0,16380,0,65532,131068,262140,524287,1048575,2097151]) (H0:=[(bd,.cells [cz dI.2.L,I dI.2.at_])]) (HH:=fun β=>[(bd,.cells [cz v80.2.L,I v80.2.at_]),(b7,.cells (W6 v2.1 b3 b4 b5 b6)),(b3,FV v2.1.al),(b4,FW v2.1.bj),(b5,FU v2.1.aD),(b6,JK v2.1.aI),(b1,.cells [.nil,.nil,.nil,.nil])]) 19 mixed J (by kernel_rfl) (by kernel_rfl) [⟨none,some 4,[],fun _=>(bd,.cells [cz dI.2.L,I dI.2.at_]),none,[]⟩,⟨some 4,some 7,[],fun _=>(bd,.cells [cz v75.2.L,I v75.2.at_]),none,[]⟩,⟨some 7,some 10,[],fun _=>(bd,.cells [cz v76.2.L,I v76.2.at_]),none,[]⟩,⟨some 10,some 12,[],fun _=>(bd,.cells [cz v77.2.L,I v77.2.at_]),none,[]⟩,⟨some 12,some 14,[],fun _=>(bd,.cells [cz v78.2.L,I v78.2.at_]),none,[]⟩,⟨some 14,some 16,[],fun _=>(bd,.cells [cz v79.2.L,I v79.2.at_]),none,[]⟩,⟨some 16,none,[],fun _=>(bd,.cells [cz v80.2.L,I v80.2.at_]),none,[]⟩] [] J (by kernel_rfl) J (.cons .p0 .nil) (fun _=>J)<|AT.am 4 J J<|AM.qv (an J J) J<|AM.qv (az J J .p0 J) J<|AM.qv (aL J) J<|AM.aY (xs:=([([]:ae),([115,97]:ae),([115,122]:ae)]).map AV.str) J J J J J J<|AM.nil<|AT.qN (av:=.str v75.1) (Ti:=[(bd,.cells [cz dI.2.L,I dI.2.at_])]) (Pi:=[(bd,.cells [cz v75.2.L,I v75.2.at_])]) (fun _=>J) (fun _=>J) (fun _=>J) J J J ?_ ?_
             ·exact aJ J (br VD) cR (.cons .p0 .nil) J J<|ARun.nil ⟨_,J,J⟩
             refine AT.am 2 J J<|AM.qv (aL J) J<|AM.aY (xs:=([([116,97]:ae),([110,111,110,101]:ae),([116,100]:ae)]).map AV.str) J J J J J J<|AM.nil<|AT.qN (av:=.str v76.1) (Ti:=[(bd,.cells [cz v75.2.L,I v75.2.at_])]) (Pi:=[(bd,.cells [cz v76.2.L,I v76.2.at_])]) (fun _=>J) (fun _=>J) (fun _=>J) J J J ?_ ?_
             ·exact aJ J (br VE) cR (.cons .p0 .nil) J J<|ARun.nil ⟨_,J,J⟩
             refine AT.am 2 J J<|AM.qv (aL J) J<|AM.aY (xs:=([([116,100]:ae),([116,98]:ae),([110,111,110,101]:ae)]).map AV.str) J J J J J J<|AM.nil<|AT.qN (av:=.str v77.1) (Ti:=[(bd,.cells [cz v76.2.L,I v76.2.at_])]) (Pi:=[(bd,.cells [cz v77.2.L,I v77.2.at_])]) (fun _=>J) (fun _=>J) (fun _=>J) J J J ?_ ?_
             ·exact aJ J (br Yu) cR (.cons .p0 .nil) J J<|ARun.nil ⟨_,J,J⟩
             refine AT.am 1 J J<|AM.qv (aL J) J<|AM.nil<|AT.qN (av:=.agg [I v78.1.Kind,.str v78.1.Field,.str v78.1.Op,I v78.1.Value.Kind,.bool v78.1.Value.bV,I v78.1.Value.Number,.str v78.1.Value.Words,I v78.1.Version.bH,I v78.1.Version.bI,I v78.1.Version.bF,oX v78.1.Kids]) (Ti:=[(bd,.cells [cz v77.2.L,I v77.2.at_])]) (Pi:=[(bd,.cells [cz v78.2.L,I v78.2.at_])]) (fun _=>J) (fun _=>J) (fun _=>J) J J J ?_ ?_
             ·exact aJ J (ER Yv) cR (.cons .p0 .nil) J J<|ARun.nil ⟨_,J,J⟩
             refine AT.am 1 J J<|AM.qv (aL J) J<|AM.nil<|AT.qN (av:=ph v79.1) (Ti:=[(bd,.cells [cz v78.2.L,I v78.2.at_])]) (Pi:=[(bd,.cells [cz v79.2.L,I v79.2.at_])]) (fun _=>J) (fun _=>J) (fun _=>J) J J J ?_ ?_
             ·exact aJ J (wy Yw) cR (.cons .p0 .nil) J J<|ARun.nil ⟨_,J,J⟩
             refine AT.am 1 J J<|AM.qv (aL J) J<|AM.nil<|AT.qN (av:=oC.av v80.1) (Ti:=[(bd,.cells [cz v79.2.L,I v79.2.at_])]) (Pi:=[(bd,.cells [cz v80.2.L,I v80.2.at_])]) (fun _=>J) (fun _=>J) (fun _=>J) J J J ?_ ?_
             ·exact aJ J (FZ Xc) cR (.cons .p0 .nil) J J<|ARun.nil ⟨_,J,J⟩
             exact AT.am 2 J J<|AM.qv (bl J J J J J) J<|AM.aY (xs:=([(⟨v75.1,v76.1,v77.1,v78.1,v79.1,v80.1⟩:bA)]).map bA.av) J J J J J J<|AM.nil<|AT.yx (fun _=>J) fun β=>aq h fun Ru Yx h=>cS (g:=bA.av) J J J J J J J J (.list _) Yx (fun _=>.p5) J fun b82=>rF J J J<|au J J J J .p1 J J<|rN<|ATodo.stop<|ImpX.lq [0,5,0,0,0,0,0] ⟨b82,v80.2.L,v80.2.at_,Ru,h,J⟩ J J
            ·refine ax<|rF J J J<|rL J J .p1 J J<|ARun.qv (iO J) J<|ARun.qv (dJ J J) J<|rN<|ATodo.cut (fun aB=>∃ (W1:List Int) (NX:Int) (Vm:List bA),tf v2 W1 NX Vm=some r∧aB=⟨112,[(2,.ptr b1 0),(3,.ptr b7 0)],[(bd,.cells [cz W1,I NX]),(b1,.cells [.nil,.nil,.nil,.nil]),(b7,.cells [.sl 2 b3 0 v2.1.al.length,.sl 2 b4 0 v2.1.bj.length,.sl 3 b5 0 v2.1.aD.length,.sl 17 b6 0 Vm.length]),(b3,FV v2.1.al),(b4,FW v2.1.bj),(b5,FU v2.1.aD),(b6,JK Vm)]⟩) ?_ ?_
             ·refine cD h J (fun h=>?_) (fun h=>?_)
              ·refine aq h fun NZ Yy h=>aq h fun v87 Yz h=>ATodo.kZ (id:=5) (A:=[0,1,0,0,12,0,32,124,252,511,1023,2047]) (H0:=[(bd,.cells [cz dI.2.L,I dI.2.at_])]) (HH:=fun β=>[(bd,.cells [cz NZ.2.L,I NZ.2.at_]),(b7,.cells (W6 v2.1 b3 b4 b5 b6)),(b3,FV v2.1.al),(b4,FW v2.1.bj),(b5,FU v2.1.aD),(b6,JK v2.1.aI),(b1,.cells [.nil,.nil,.nil,.nil])]) 9 mixed J (by kernel_rfl) (by kernel_rfl) [⟨none,some 6,[],fun _=>(bd,.cells [cz dI.2.L,I dI.2.at_]),none,[]⟩,⟨some 6,none,[],fun _=>(bd,.cells [cz NZ.2.L,I NZ.2.at_]),none,[]⟩] [] J (by kernel_rfl) J (.cons .p0 .nil) (fun _=>J)<|AT.am 6 J J<|AM.qv (an J J) J<|AM.qv (az J J .p0 J) J<|AM.aY (xs:=([([65]:ae)]).map AV.str) J J J J J J<|AM.aY (xs:=([([98]:ae),([97]:ae)]).map AV.str) J J J J J J<|AM.CV (xs:=[.nil,ph [([65]:ae)],ph [([98]:ae),([97]:ae)]]) (av:=.list 1 (([[],[([65]:ae)],[([98]:ae),([97]:ae)]]:List (List ae)).map (Ba 1 AV.str))) J J J J J J (Fw.TZ (.cons .n (.cons .r (.cons .r .nil))) J J)<|AM.qv (aL J) J<|AM.nil<|AT.qN (av:=I NZ.1) (Ti:=[(bd,.cells [cz dI.2.L,I dI.2.at_])]) (Pi:=[(bd,.cells [cz NZ.2.L,I NZ.2.at_])]) (fun _=>J) (fun _=>J) (fun _=>J) J J J ?_ ?_
               ·exact aJ J (cU Yy) cR (.cons .p0 .nil) J J<|ARun.nil ⟨_,J,J⟩
               exact AT.am 2 J J<|AM.qv (aP J J J Yz J J) J<|AM.qv (aG J J J) J<|AM.nil<|AT.yx (fun _=>J) fun β=>aq h fun vG VH h=>ARun.qv (fg J J J VH) J<|ARun.qv (Bb J J) J<|pD (g:=bA.av) (Mm:=(⟨vG.Key,vG.jj,vG.To,vG.Query,v87,vG.Time⟩:bA)) J J J J VH J .p5 J<|ARun.ghost<|ImpX.eqs (s:=11) (pz:=.sl 17 b6 0 (v2.1.aI.set (0:Int).toNat (⟨vG.Key,vG.jj,vG.To,vG.Query,v87,vG.Time⟩:bA)).length) J (by rw [List.length_set])<|ImpX.here<|ARun.ghost<|ImpX.eqs (s:=15) (pz:=.sl 17 b6 0 (v2.1.aI.set (0:Int).toNat (⟨vG.Key,vG.jj,vG.To,vG.Query,v87,vG.Time⟩:bA)).length) J (by rw [List.length_set])<|ImpX.here<|ARun.ghost<|ImpX.TS (j:=3) (pz:=.sl 17 b6 0 (v2.1.aI.set (0:Int).toNat (⟨vG.Key,vG.jj,vG.To,vG.Query,v87,vG.Time⟩:bA)).length) .p1 J (by rw [List.length_set]) J<|ImpX.here<|rN<|ATodo.stop<|ImpX.lq [0,5,0,0,0,0,0] ⟨NZ.2.L,NZ.2.at_,v2.1.aI.set (0:Int).toNat (⟨vG.Key,vG.jj,vG.To,vG.Query,v87,vG.Time⟩:bA),h,J⟩ J J
              ·exact tK<|ATodo.stop<|ImpX.lq [0,5,0,0,0,0,0] ⟨dI.2.L,dI.2.at_,v2.1.aI,h,J⟩ J J
             ·rintro aB ⟨W1,NX,Vm,h,rfl⟩
              unfold tf at h
              exact ATodo.stop<|ImpX.lq [0,0,0,0,0,0,0] ⟨b6,W1,NX,Vm,h,J⟩ J J
           ·rintro aB ⟨Z8,W0,NV,MH,h,rfl⟩
            unfold te at h
            exact ATodo.stop<|ImpX.lq [0,0,0,0,0,0,0] ⟨b5,Z8,W0,NV,v2.1.aD,MH,h,J⟩ J J
         ·rintro aB ⟨Z6,Z7,DU,n61,Vk,Vl,h,rfl⟩
          unfold td at h
          exact ATodo.stop<|ImpX.lq [0,0,0,0,0,0,0] ⟨b4,Z6,Z7,DU,n61,v2.1.bj,Vk,Vl,h,J⟩ J J
       ·rintro aB ⟨SP,Xb,LA,HK,n48,Vj,NY,Fy,h,rfl⟩
        unfold tc at h
        exact ATodo.stop<|ImpX.lq [0,0,0,0,0,0,0] ⟨b3,SP,Xb,LA,HK,n48,v2.1.al,Vj,NY,Fy,h,J⟩ J J
     ·rintro aB ⟨N3,OL,Z5,W9,EJ,n34,Dn,Fx,B9,HJ,h,rfl⟩
      unfold tb at h
      exact ATodo.stop<|ImpX.lq [0,0,0,0,0,0,0] ⟨N3,OL,Z5,W9,EJ,n34,Dn,Fx,B9,HJ,h,J⟩ J J
   ·rintro aB ⟨Qd,SO,Lz,Uh,B8,n21,MJ,Ls,AF,B7,h,rfl⟩
    unfold ta at h
    exact ATodo.bU<|ATodo.stop<|ImpX.lq [0,0,0,0,0,0,0] ⟨Qd,SO,Lz,Uh,B8,n21,MJ,Ls,AF,B7,h,J⟩ J J
  ·exact tK<|ATodo.stop<|ImpX.lq [0,5,0,0,0,0,0] ⟨b3,b4,b5,b6,v8.2.L,v8.2.at_,v2.1.al,v2.1.bj,v2.1.aD,v2.1.aI,h,J⟩ J J
 ·rintro aB ⟨ud,yK,yL,wz,l9,n10,ye,xh,Ud,AY,h,rfl⟩
  unfold pG at h
  refine ax<|ARun.qv (ao J J .p2 J) J<|au J J J J .p1 J J<|rN<|ATodo.ret<|?_
  cases h
  exact ImpX.freeze .p3<|ImpX.Bi (j:=0) .p1 J (Co.Ck .p3) J J<|ImpX.freeze .p4<|ImpX.Bi (j:=1) .p1 J (Co.Ck .p4) J J<|ImpX.freeze .p5<|ImpX.Bi (j:=2) .p1 J (Co.Ck .p5) J J<|ImpX.freeze .p6<|ImpX.Bi (j:=3) .p1 J (Co.Ck .p6) J J<|ImpX.here ⟨_,.cons (.all _ _ _ _ _ _ J .p1 ay.h aO.h J J) .nil,_,.cons .p0 .nil,⟨J,J⟩⟩
theorem Af [GI:bc] {bd:Bk} {aa:ab} {ah:ae} {r:aE×ab} (h:qH aa ah=some r):ACall Tryz.prog 8 [.ptr bd 0,.str ah] [(bd,.cells [cz aa.L,I aa.at_])] (T0 ([(bd,.cells [cz r.2.L,I r.2.at_])]) (aE.av r.1)):=by
 unfold qH at h
 refine ACall.dN ?_
 refine ACall.aQ Tryz.func8 J Tryz.ntmps8 Tryz.results8 J J ?_
 refine ax<|bn J J J J fun b1=>rN<|ax<|rM J J<|rM J J<|aC (xs:=([([109,97]:ae),([109,98]:ae)]).map AV.str) J J J J J J<|aq h fun v2 e1 h=>aJ J (br e1) cR (.cons .p1 .nil) J J<|rM J J<|aC (xs:=([([116,97]:ae),([116,98]:ae),([116,100]:ae),([]:ae)]).map AV.str) J J J J J J<|aq h fun v3 e2 h=>aJ J (br e2) cR (.cons .p0 .nil) J J<|rM J J<|aq h fun v4 e3 h=>aJ J (cU e3) cR (.cons .p0 .nil) J J<|rM J J<|aC (xs:=([(0:Int),(2:Int)]).map I) J J J J J J<|aq h fun v5 e4 h=>aJ J (cj e4) cR (.cons .p0 .nil) J J<|ARun.qv (bl J J J J J) J<|ARun.qv (bl J J J J J) J<|ARun.qv (bl J J J J J) J<|bn J J J J fun b6=>au J J J J .p0 J J<|rN<|tS<|ax<|aC (xs:=([([111,112,101,110]:ae),([115,105,116,101]:ae)]).map AV.str) J J J J J J<|ARun.qv (bD J) J<|rM J J<|rN<|ATodo.block<|ATodo.bT (fun x:(List Int)×Int×(List jk)×Int=>oI ah v2 v3 v4 v5 x.1 x.2.1 x.2.2.1 x.2.2.2) (fun x aB=>∃ (vK:Bk),aB=⟨131,[(0,.ptr bd 0),(4,.ptr b1 0),(5,.ptr b6 0),(25,ph [([111,112,101,110]:ae),([115,105,116,101]:ae)]),(26,I ([([111,112,101,110]:ae),([115,105,116,101]:ae)].length:Int)),(27,I x.2.2.2)],[(bd,.cells [cz x.1,I x.2.1]),(b1,.cells [.str [],.str [],.str [],I (0:Int),I (0:Int),I (0:Int),.nil,.nil]),(b6,.cells [.str ah,.str v2.1,.str v3.1,I v4.1,I v5.1,I (0:Int),.sl 2 vK 0 x.2.2.1.length,.nil]),(vK,OK x.2.2.1)]⟩) h ?_ ?_
 ·exact ImpX.Eo (j:=6) 2 (fun _=>.p0) J (fun _=>J) (fun _=>J) fun wz=>ImpX.lq [2,2,1,0] ⟨wz,J⟩ J J
 ·intro x z1 aB J1 dB h ic dm
  obtain ⟨ye,n13,qq,n16⟩:=x
  obtain ⟨vK,rfl⟩:=dB
  replace h:oI ah v2 v3 v4 v5 ye n13 qq n16=some z1:=h
  unfold oI at h
  refine ax<|ARun.qv (bu J J) J<|rN<|tS<|cD h J (fun h=>?_) (fun h=>?_)
  ·refine tK<|tS<|ATodo.block<|ax<|aq h fun fH e5 h=>ARun.qv (aP J J J e5 J J) J<|ARun.qv (aG J J J) J<|rA J J<|rN<|ax<|rM J J<|aq h fun dI e6 h=>aJ J (dK e6) cR (.cons .p0 .nil) J J<|rN<|ATodo.cut (fun aB=>∃ (Qd:Bk) (B8:List Int) (n21:Int) (MJ:List jk),mc n16 B8 n21 MJ=some z1∧aB=⟨131,[(0,.ptr bd 0),(4,.ptr b1 0),(5,.ptr b6 0),(25,ph [([111,112,101,110]:ae),([115,105,116,101]:ae)]),(26,I ([([111,112,101,110]:ae),([115,105,116,101]:ae)].length:Int)),(27,I n16)],[(bd,.cells [cz B8,I n21]),(b1,.cells [.str [],.str [],.str [],I (0:Int),I (0:Int),I (0:Int),.nil,.nil]),(b6,.cells [.str ah,.str v2.1,.str v3.1,I v4.1,I v5.1,I (0:Int),.sl 2 Qd 0 MJ.length,.nil]),(Qd,OK MJ)]⟩) ?_ ?_
   ·refine cB h J (fun h=>?_) (fun h=>?_)
    ·refine aq h fun v24 e7 h=>ATodo.kZ (id:=6) (A:=[0,1,3,0,0,0,48,120,248,511,1023,2047,4095]) (H0:=[(bd,.cells [cz dI.2.L,I dI.2.at_])]) (HH:=fun β=>[(bd,.cells [cz v24.2.L,I v24.2.at_]),(b1,.cells [.str [],.str [],.str [],I (0:Int),I (0:Int),I (0:Int),.nil,.nil]),(b6,.cells [.str ah,.str v2.1,.str v3.1,I v4.1,I v5.1,I (0:Int),.sl 2 vK 0 qq.length,.nil]),(vK,OK qq)]) 9 mixed J (by kernel_rfl) (by kernel_rfl) [⟨none,some 6,[],fun _=>(bd,.cells [cz dI.2.L,I dI.2.at_]),none,[]⟩,⟨some 6,none,[],fun _=>(bd,.cells [cz v24.2.L,I v24.2.at_]),none,[]⟩] [] J (by kernel_rfl) J (.cons .p0 .nil) (fun _=>J)<|AT.am 6 J J<|AM.qv (an J J) J<|AM.qv (an J J) J<|AM.qv (az J J .p1 J) J<|AM.qv (aL J) J<|AM.qv (aL J) J<|AM.aY (xs:=([([120]:ae),([121]:ae),([97,34,98,92,99]:ae)]).map AV.str) J J J J J J<|AM.nil<|AT.qN (av:=.str v24.1) (Ti:=[(bd,.cells [cz dI.2.L,I dI.2.at_])]) (Pi:=[(bd,.cells [cz v24.2.L,I v24.2.at_])]) (fun _=>J) (fun _=>J) (fun _=>J) J J J ?_ ?_
     ·exact aJ J (br e7) cR (.cons .p0 .nil) J J<|ARun.nil ⟨_,J,J⟩
     exact AT.am 2 J J<|AM.qv (bl J J J J J) J<|AM.aY (xs:=([(⟨fH,v24.1⟩:jk)]).map jk.av) J J J J J J<|AM.nil<|AT.yx (fun _=>J) fun β=>aq h fun Ls e8 h=>cS (g:=jk.av) J J J J J J J J (.list _) e8 (fun _=>.p3) J fun Lz=>rF J J J<|rF J J J<|au J J J J .p2 J J<|rN<|ATodo.stop<|ImpX.lq [0,0,0,0] ⟨Lz,v24.2.L,v24.2.at_,Ls,h,J⟩ J J
    ·exact tK<|ATodo.stop<|ImpX.lq [0,0,0,0] ⟨vK,dI.2.L,dI.2.at_,qq,h,J⟩ J J
   ·rintro aB ⟨Qd,B8,n21,MJ,h,rfl⟩
    unfold mc at h
    refine ATodo.bU<|tR<|ARun.qv (bh J J) J<|rM J J<|rN<|ATodo.stop<|?_
    cases h
    exact ic _ _ J<|ImpX.lq [0,0,0,0] ⟨Qd,J⟩ J J
  ·refine ATodo.exit J<|have h:=bz h dm;tS<|ax<|aC (xs:=([([97]:ae),([102,97,110,46,111,110]:ae)]).map AV.str) J J J J J J<|ARun.qv (bD J) J<|rM J J<|rN<|ATodo.block<|ATodo.bT (fun x:(List Int)×Int×(List ew)×Int=>oH ah v2 v3 v4 v5 qq x.1 x.2.1 x.2.2.1 x.2.2.2) (fun x aB=>∃ (MK:Bk),aB=⟨131,[(0,.ptr bd 0),(4,.ptr b1 0),(5,.ptr b6 0),(46,ph [([97]:ae),([102,97,110,46,111,110]:ae)]),(47,I ([([97]:ae),([102,97,110,46,111,110]:ae)].length:Int)),(48,I x.2.2.2)],[(bd,.cells [cz x.1,I x.2.1]),(b1,.cells [.str [],.str [],.str [],I (0:Int),I (0:Int),I (0:Int),.nil,.nil]),(b6,.cells [.str ah,.str v2.1,.str v3.1,I v4.1,I v5.1,I (0:Int),.sl 2 vK 0 qq.length,.sl 5 MK 0 x.2.2.1.length]),(vK,OK qq),(MK,SH x.2.2.1)]⟩) h ?_ ?_
   ·exact ImpX.Eo (j:=7) 5 (fun _=>.p2) J (fun _=>J) (fun _=>J) fun OL=>ImpX.lq [1,1,1,1,0] ⟨OL,J⟩ J J
   ·intro x z2 aB J2 dB h zN uS
    obtain ⟨Ac,n33,AE,n36⟩:=x
    obtain ⟨MK,rfl⟩:=dB
    replace h:oH ah v2 v3 v4 v5 qq Ac n33 AE n36=some z2:=h
    unfold oH at h
    refine ax<|ARun.qv (bu J J) J<|rN<|tS<|cD h J (fun h=>?_) (fun h=>?_)
    ·refine tK<|tS<|ATodo.block<|ax<|aq h fun v38 e9 h=>ARun.qv (aP J J J e9 J J) J<|ARun.qv (aG J J J) J<|rA J J<|rN<|ax<|rM J J<|aq h fun v39 zM h=>aJ J (dK zM) cR (.cons .p0 .nil) J J<|rN<|ATodo.cut (fun aB=>∃ (SN:Bk) (B9:List Int) (n41:Int) (Dm:List ew),me n36 B9 n41 Dm=some z2∧aB=⟨131,[(0,.ptr bd 0),(4,.ptr b1 0),(5,.ptr b6 0),(46,ph [([97]:ae),([102,97,110,46,111,110]:ae)]),(47,I ([([97]:ae),([102,97,110,46,111,110]:ae)].length:Int)),(48,I n36)],[(bd,.cells [cz B9,I n41]),(b1,.cells [.str [],.str [],.str [],I (0:Int),I (0:Int),I (0:Int),.nil,.nil]),(b6,.cells [.str ah,.str v2.1,.str v3.1,I v4.1,I v5.1,I (0:Int),.sl 2 vK 0 qq.length,.sl 5 SN 0 Dm.length]),(vK,OK qq),(SN,SH Dm)]⟩) ?_ ?_
     ·refine cB h J (fun h=>?_) (fun h=>?_)
      ·refine aq h fun v44 AZ h=>aq h fun v45 FX h=>aq h fun v46 FY h=>aq h fun FP P6 h=>aq h fun Ca SJ h=>ATodo.kZ (id:=12) (A:=[0,1,0,0,0,24,56,0,184,440,0,0,3512,7608,16376,0,0,105912,262136,524280,1048572,2097148,4194303,8388607,16777215]) (H0:=[(bd,.cells [cz v39.2.L,I v39.2.at_])]) (HH:=fun β=>[(bd,.cells [cz FP.2.L,I FP.2.at_]),(b1,.cells [.str [],.str [],.str [],I (0:Int),I (0:Int),I (0:Int),.nil,.nil]),(b6,.cells [.str ah,.str v2.1,.str v3.1,I v4.1,I v5.1,I (0:Int),.sl 2 vK 0 qq.length,.sl 5 MK 0 AE.length]),(vK,OK qq),(MK,SH AE)]) 22 mixed J (by kernel_rfl) (by kernel_rfl) [⟨none,some 5,[],fun _=>(bd,.cells [cz v39.2.L,I v39.2.at_]),none,[]⟩,⟨some 5,some 8,[],fun _=>(bd,.cells [cz v44.2.L,I v44.2.at_]),none,[]⟩,⟨some 8,some 12,[],fun _=>(bd,.cells [cz v45.2.L,I v45.2.at_]),none,[]⟩,⟨some 12,some 17,[],fun _=>(bd,.cells [cz v46.2.L,I v46.2.at_]),none,[]⟩,⟨some 17,none,[],fun _=>(bd,.cells [cz FP.2.L,I FP.2.at_]),none,[]⟩] [] J (by kernel_rfl) J (.cons .p0 .nil) (fun _=>J)<|AT.am 5 J J<|AM.qv (an J J) J<|AM.qv (az J J .p1 J) J<|AM.qv (aL J) J<|AM.qv (aL J) J<|AM.aY (xs:=([(0:Int),(5:Int),(6:Int),(-5:Int)]).map I) J J J J J J<|AM.nil<|AT.qN (av:=I v44.1) (Ti:=[(bd,.cells [cz v39.2.L,I v39.2.at_])]) (Pi:=[(bd,.cells [cz v44.2.L,I v44.2.at_])]) (fun _=>J) (fun _=>J) (fun _=>J) J J J ?_ ?_
       ·exact aJ J (cj AZ) cR (.cons .p0 .nil) J J<|ARun.nil ⟨_,J,J⟩
       refine AT.am 2 J J<|AM.qv (bl J J J J J) J<|AM.qv (aL J) J<|AM.nil<|AT.qN (av:=.bool v45.1) (Ti:=[(bd,.cells [cz v44.2.L,I v44.2.at_])]) (Pi:=[(bd,.cells [cz v45.2.L,I v45.2.at_])]) (fun _=>J) (fun _=>J) (fun _=>J) J J J ?_ ?_
       ·exact aJ J (dK FX) cR (.cons .p0 .nil) J J<|ARun.nil ⟨_,J,J⟩
       refine AT.am 3 J J<|AM.qv (bl J J J J J) J<|AM.qv (aL J) J<|AM.aY (xs:=([([120]:ae),([]:ae)]).map AV.str) J J J J J J<|AM.nil<|AT.qN (av:=.str v46.1) (Ti:=[(bd,.cells [cz v45.2.L,I v45.2.at_])]) (Pi:=[(bd,.cells [cz v46.2.L,I v46.2.at_])]) (fun _=>J) (fun _=>J) (fun _=>J) J J J ?_ ?_
       ·exact aJ J (br FY) cR (.cons .p0 .nil) J J<|ARun.nil ⟨_,J,J⟩
       refine AT.am 4 J J<|AM.qv (bl J J J J J) J<|AM.aY (xs:=([(⟨(2:Int),false,v44.1,[]⟩:a8),(⟨(1:Int),v45.1,(0:Int),[]⟩:a8),(⟨(3:Int),false,(0:Int),v46.1⟩:a8)]).map a8.av) J J J J J J<|AM.qv (aL J) J<|AM.aY (xs:=([(0:Int),(0:Int),(1:Int),(2:Int)]).map I) J J J J J J<|AM.nil<|AT.qN (av:=I FP.1) (Ti:=[(bd,.cells [cz v46.2.L,I v46.2.at_])]) (Pi:=[(bd,.cells [cz FP.2.L,I FP.2.at_])]) (fun _=>J) (fun _=>J) (fun _=>J) J J J ?_ ?_
       ·exact aJ J (cj P6) cR (.cons .p0 .nil) J J<|ARun.nil ⟨_,J,J⟩
       exact AT.am 4 J J<|AM.qv (aP J J J SJ J J) J<|AM.qv (aH J J J) J<|AM.qv (bl J J J J J) J<|AM.aY (xs:=([(⟨v38,Ca⟩:ew)]).map ew.av) J J J J J J<|AM.nil<|AT.yx (fun _=>J) fun β=>aq h fun OI SK h=>cS (g:=ew.av) J J J J J J J J (.list _) SK (fun _=>.p4) J fun Ui=>rF J J J<|au J J J J .p2 J J<|rN<|ATodo.stop<|ImpX.lq [0,0,0,0,0] ⟨Ui,FP.2.L,FP.2.at_,OI,h,J⟩ J J
      ·exact tK<|ATodo.stop<|ImpX.lq [0,0,0,0,0] ⟨MK,v39.2.L,v39.2.at_,AE,h,J⟩ J J
     ·rintro aB ⟨SN,B9,n41,Dm,h,rfl⟩
      unfold me at h
      refine ATodo.bU<|tR<|ARun.qv (bh J J) J<|rM J J<|rN<|ATodo.stop<|?_
      cases h
      exact zN _ _ J<|ImpX.lq [0,0,0,0,0] ⟨SN,J⟩ J J
    ·refine ATodo.exit J<|have h:=bz h uS;?_
     unfold rH at h
     refine tS<|ax<|rM J J<|aq h fun v51 SL h=>aJ J (dK SL) cR (.cons .p0 .nil) J J<|rN<|ATodo.cut (fun aB=>∃ (Uj:Bk) (Yt:Bk) (NY:List Int) (OH:Int) (Yd:ae) (Ye:ae) (Yf:Int) (JJ:List jk) (DU:List ew),oG v2 v4 NY OH Yd Ye Yf JJ DU=some r∧aB=⟨131,[(4,.ptr b1 0),(5,.ptr b6 0)],[(bd,.cells [cz NY,I OH]),(b1,.cells [.str [],.str [],.str [],I (0:Int),I (0:Int),I (0:Int),.nil,.nil]),(b6,.cells [.str Yd,.str v2.1,.str Ye,I v4.1,I Yf,I (0:Int),.sl 2 Uj 0 JJ.length,.sl 5 Yt 0 DU.length]),(Uj,OK JJ),(Yt,SH DU)]⟩) ?_ ?_
     ·refine cB h J (fun h=>?_) (fun h=>?_)
      ·refine ax<|rM J J<|aq h fun Ad VD h=>aJ J (cU VD) cR (.cons .p0 .nil) J J<|rN<|ATodo.block<|ax<|ARun.qv (bS J J) J<|rA J J<|rN<|ATodo.cut (fun aB=>∃ (Z9:Bk) (VG:Bk) (EG:List Int) (NT:Int) (W2:ae) (NU:ae) (W3:Int) (Vn:List jk) (Vo:List ew),rB v2 v4 EG NT W2 NU W3 Vn Vo=some r∧aB=⟨131,[(4,.ptr b1 0),(5,.ptr b6 0)],[(bd,.cells [cz EG,I NT]),(b1,.cells [.str [],.str [],.str [],I (0:Int),I (0:Int),I (0:Int),.nil,.nil]),(b6,.cells [.str W2,.str v2.1,.str NU,I v4.1,I W3,I (0:Int),.sl 2 Z9 0 Vn.length,.sl 5 VG 0 Vo.length]),(Z9,OK Vn),(VG,SH Vo)]⟩) ?_ ?_
       ·refine cD h J (fun h=>?_) (fun h=>?_)
        ·exact tR<|rM J J<|aC (xs:=([([]:ae),([65]:ae)]).map AV.str) J J J J J J<|aq h fun Z2 VE h=>aJ J (br VE) cR (.cons .p0 .nil) J J<|rM J J<|aC (xs:=([([]:ae),([65]:ae)]).map AV.str) J J J J J J<|aq h fun v72 Yu h=>aJ J (br Yu) cR (.cons .p0 .nil) J J<|rF J J J<|rF J J J<|au J J J J .p2 J J<|rF J J J<|rF J J J<|au J J J J .p2 J J<|rN<|ATodo.stop<|ImpX.lq [0,0,0,0,0] ⟨vK,MK,v72.2.L,v72.2.at_,Z2.1,v72.1,v5.1,qq,AE,h,J⟩ J J
        ·refine ax<|ARun.qv (bS J J) J<|rA J J<|rN<|ATodo.cut (fun aB=>∃ (b76:Bk) (b78:Bk) (Rr:List Int) (W4:Int) (W5:Int) (MI:List jk) (Vp:List ew),rC ah v2 v3 v4 Rr W4 W5 MI Vp=some r∧aB=⟨131,[(4,.ptr b1 0),(5,.ptr b6 0)],[(bd,.cells [cz Rr,I W4]),(b1,.cells [.str [],.str [],.str [],I (0:Int),I (0:Int),I (0:Int),.nil,.nil]),(b6,.cells [.str ah,.str v2.1,.str v3.1,I v4.1,I W5,I (0:Int),.sl 2 b76 0 MI.length,.sl 5 b78 0 Vp.length]),(b76,OK MI),(b78,SH Vp)]⟩) ?_ ?_
         ·refine cD h J (fun h=>?_) (fun h=>?_)
          ·exact tR<|rM J J<|aq h fun v80 Yv h=>aJ J (xK Yv) cR (.cons .p0 .nil) J J<|rF J J J<|rF J J J<|rF J J J<|au J J J J .p2 J J<|rN<|ATodo.stop<|ImpX.lq [0,0,0,0,0] ⟨vK,MK,v80.2.L,v80.2.at_,v80.1,qq,AE,h,J⟩ J J
          ·refine ax<|ARun.qv (bS J J) J<|rA J J<|rN<|ATodo.cut (fun aB=>∃ (b83:Bk) (b85:Bk) (Ru:List Int) (NW:Int) (Vq:List jk) (Vr:List ew),rD ah v2 v3 v4 v5 Ru NW Vq Vr=some r∧aB=⟨131,[(4,.ptr b1 0),(5,.ptr b6 0)],[(bd,.cells [cz Ru,I NW]),(b1,.cells [.str [],.str [],.str [],I (0:Int),I (0:Int),I (0:Int),.nil,.nil]),(b6,.cells [.str ah,.str v2.1,.str v3.1,I v4.1,I v5.1,I (0:Int),.sl 2 b83 0 Vq.length,.sl 5 b85 0 Vr.length]),(b83,OK Vq),(b85,SH Vr)]⟩) ?_ ?_
           ·refine cD h J (fun h=>?_) (fun h=>?_)
            ·refine aq h fun v87 Yw h=>aq h fun vG Xc h=>ATodo.kZ (id:=22) (A:=[0,1,3,0,0,24,0,0,248,504,1016,2047,4095,8191,16383]) (H0:=[(bd,.cells [cz Ad.2.L,I Ad.2.at_])]) (HH:=fun β=>[(bd,.cells [cz vG.2.L,I vG.2.at_]),(b1,.cells [.str [],.str [],.str [],I (0:Int),I (0:Int),I (0:Int),.nil,.nil]),(b6,.cells [.str ah,.str v2.1,.str v3.1,I v4.1,I v5.1,I (0:Int),.sl 2 vK 0 qq.length,.sl 5 MK 0 AE.length]),(vK,OK qq),(MK,SH AE)]) 11 mixed J (by kernel_rfl) (by kernel_rfl) [⟨none,some 5,[],fun _=>(bd,.cells [cz Ad.2.L,I Ad.2.at_]),none,[]⟩,⟨some 5,some 8,[],fun _=>(bd,.cells [cz v87.2.L,I v87.2.at_]),none,[]⟩,⟨some 8,none,[],fun _=>(bd,.cells [cz vG.2.L,I vG.2.at_]),none,[]⟩] [] J (by kernel_rfl) J (.cons .p0 .nil) (fun _=>J)<|AT.am 5 J J<|AM.qv (an J J) J<|AM.qv (an J J) J<|AM.qv (az J J .p1 J) J<|AM.qv (aL J) J<|AM.aY (xs:=([([115,105,116,101]:ae),([65]:ae),([122]:ae)]).map AV.str) J J J J J J<|AM.nil<|AT.qN (av:=.str v87.1) (Ti:=[(bd,.cells [cz Ad.2.L,I Ad.2.at_])]) (Pi:=[(bd,.cells [cz v87.2.L,I v87.2.at_])]) (fun _=>J) (fun _=>J) (fun _=>J) J J J ?_ ?_
             ·exact aJ J (br Yw) cR (.cons .p0 .nil) J J<|ARun.nil ⟨_,J,J⟩
             refine AT.am 2 J J<|AM.qv (aL J) J<|AM.aY (xs:=([([]:ae),([32,120]:ae),([118]:ae)]).map AV.str) J J J J J J<|AM.nil<|AT.qN (av:=.str vG.1) (Ti:=[(bd,.cells [cz v87.2.L,I v87.2.at_])]) (Pi:=[(bd,.cells [cz vG.2.L,I vG.2.at_])]) (fun _=>J) (fun _=>J) (fun _=>J) J J J ?_ ?_
             ·exact aJ J (br Xc) cR (.cons .p0 .nil) J J<|ARun.nil ⟨_,J,J⟩
             exact AT.am 2 J J<|AM.qv (bl J J J J J) J<|AM.aY (xs:=([(⟨v87.1,vG.1⟩:jk)]).map jk.av) J J J J J J<|AM.nil<|AT.yx (fun _=>J) fun β=>aq h fun Rt Yx h=>cS (g:=jk.av) J J J J J J J J (.list _) Yx (fun _=>.p3) J fun b90=>rF J J J<|rF J J J<|au J J J J .p2 J J<|rN<|ATodo.stop<|ImpX.lq [0,0,0,0,0] ⟨b90,MK,vG.2.L,vG.2.at_,Rt,AE,h,J⟩ J J
            ·refine aq h fun v91 Yy h=>aq h fun Fz Yz h=>ATodo.kZ (id:=16) (A:=[0,1,0,0,12,0,60,124,252,508,1023,2047,4095]) (H0:=[(bd,.cells [cz Ad.2.L,I Ad.2.at_])]) (HH:=fun β=>[(bd,.cells [cz Fz.2.L,I Fz.2.at_]),(b1,.cells [.str [],.str [],.str [],I (0:Int),I (0:Int),I (0:Int),.nil,.nil]),(b6,.cells [.str ah,.str v2.1,.str v3.1,I v4.1,I v5.1,I (0:Int),.sl 2 vK 0 qq.length,.sl 5 MK 0 AE.length]),(vK,OK qq),(MK,SH AE)]) 10 mixed J (by kernel_rfl) (by kernel_rfl) [⟨none,some 4,[],fun _=>(bd,.cells [cz Ad.2.L,I Ad.2.at_]),none,[]⟩,⟨some 4,some 6,[],fun _=>(bd,.cells [cz v91.2.L,I v91.2.at_]),none,[]⟩,⟨some 6,none,[],fun _=>(bd,.cells [cz Fz.2.L,I Fz.2.at_]),none,[]⟩] [] J (by kernel_rfl) J (.cons .p0 .nil) (fun _=>J)<|AT.am 4 J J<|AM.qv (an J J) J<|AM.qv (az J J .p1 J) J<|AM.qv (aL J) J<|AM.aY (xs:=([([102,97,110,46,111,110]:ae),([65]:ae),([122]:ae)]).map AV.str) J J J J J J<|AM.nil<|AT.qN (av:=.str v91.1) (Ti:=[(bd,.cells [cz Ad.2.L,I Ad.2.at_])]) (Pi:=[(bd,.cells [cz v91.2.L,I v91.2.at_])]) (fun _=>J) (fun _=>J) (fun _=>J) J J J ?_ ?_
             ·exact aJ J (br Yy) cR (.cons .p0 .nil) J J<|ARun.nil ⟨_,J,J⟩
             refine AT.am 1 J J<|AM.qv (aL J) J<|AM.nil<|AT.qN (av:=I Fz.1) (Ti:=[(bd,.cells [cz v91.2.L,I v91.2.at_])]) (Pi:=[(bd,.cells [cz Fz.2.L,I Fz.2.at_])]) (fun _=>J) (fun _=>J) (fun _=>J) J J J ?_ ?_
             ·exact aJ J (xK Yz) cR (.cons .p0 .nil) J J<|ARun.nil ⟨_,J,J⟩
             exact AT.am 3 J J<|AM.qv (bl J J J J J) J<|AM.qv (bl J J J J J) J<|AM.aY (xs:=([(⟨v91.1,(⟨Fz.1,false,(0:Int),[]⟩:a8)⟩:ew)]).map ew.av) J J J J J J<|AM.nil<|AT.yx (fun _=>J) fun β=>aq h fun Vi VH h=>cS (g:=ew.av) J J J J J J J J (.list _) VH (fun _=>.p4) J fun b94=>rF J J J<|au J J J J .p2 J J<|rN<|ATodo.stop<|ImpX.lq [0,0,0,0,0] ⟨vK,b94,Fz.2.L,Fz.2.at_,qq,Vi,h,J⟩ J J
           ·rintro aB ⟨b83,b85,Ru,NW,Vq,Vr,h,rfl⟩
            unfold rD at h
            exact ATodo.stop<|ImpX.lq [0,0,0,0,0] ⟨b83,b85,Ru,NW,v5.1,Vq,Vr,h,J⟩ J J
         ·rintro aB ⟨b76,b78,Rr,W4,W5,MI,Vp,h,rfl⟩
          unfold rC at h
          exact ATodo.stop<|ImpX.lq [0,0,0,0,0] ⟨b76,b78,Rr,W4,ah,v3.1,W5,MI,Vp,h,J⟩ J J
       ·rintro aB ⟨Z9,VG,EG,NT,W2,NU,W3,Vn,Vo,h,rfl⟩
        unfold rB at h
        exact ATodo.bU<|ATodo.stop<|ImpX.lq [0,0,0,0,0] ⟨Z9,VG,EG,NT,W2,NU,W3,Vn,Vo,h,J⟩ J J
      ·exact tK<|ATodo.stop<|ImpX.lq [0,0,0,0,0] ⟨vK,MK,v51.2.L,v51.2.at_,ah,v3.1,v5.1,qq,AE,h,J⟩ J J
     ·rintro aB ⟨Uj,Yt,NY,OH,Yd,Ye,Yf,JJ,DU,h,rfl⟩
      unfold oG at h
      refine ax<|ARun.qv (ao J J .p2 J) J<|au J J J J .p1 J J<|rN<|ATodo.ret<|?_
      cases h
      exact ImpX.freeze .p3<|ImpX.Bi (j:=6) .p1 J (Co.Ck .p3) J J<|ImpX.freeze .p4<|ImpX.Bi (j:=7) .p1 J (Co.Ck .p4) J J<|ImpX.here ⟨_,.cons (.all _ _ _ _ _ _ J .p1 ay.h aO.h J J) .nil,_,.cons .p0 .nil,⟨J,J⟩⟩
theorem F0 [GI:bc] {bd:Bk} {aa:ab} {r:Int×ab} (h:tP aa=some r):ACall Tryz.prog 9 [.ptr bd 0] [(bd,.cells [cz aa.L,I aa.at_])] (T0 ([(bd,.cells [cz r.2.L,I r.2.at_])]) (I r.1)):=by
 unfold tP at h
 refine ACall.dN ?_
 refine ACall.aQ Tryz.func9 J Tryz.ntmps9 Tryz.results9 J J ?_
 refine ax<|rA J J<|rN<|ax<|rM J J<|rM J J<|aq h fun v1 e1 h=>aJ J (cU e1) cR (.cons .p0 .nil) J J<|rM J J<|aq h fun v2 e2 h=>aJ J (cU e2) cR (.cons .p0 .nil) J J<|rM J J<|aC (xs:=([(345686399999:Int),(-1:Int),(345686400000:Int)]).map I) J J J J J J<|aq h fun v3 e3 h=>aJ J (cj e3) cR (.cons .p0 .nil) J J<|aC (xs:=([(0:Int),(5:Int),(20:Int),(40:Int),(60:Int),(80:Int),(120:Int),v1.1,v2.1,v3.1]).map I) J J J J J J<|aq h fun v4 e4 h=>aJ J (cj e4) cR (.cons .p0 .nil) J J<|rA J J<|rN<|ATodo.ret<|?_
 cases h
 exact hH J [0] J ⟨J,J⟩
theorem BA [GI:bc] {bd:Bk} {aa:ab} {r:(List aE)×ab} (h:ni aa=some r):ACall Tryz.prog 10 [.ptr bd 0] [(bd,.cells [cz aa.L,I aa.at_])] (T1 (fun iC=>[(bd,.cells [cz r.2.L,I r.2.at_]),(iC,Lw r.1)]) (fun iC=>.sl 8 iC 0 r.1.length)):=by
 unfold ni at h
 refine ACall.dN ?_
 refine ACall.aQ Tryz.func10 J Tryz.ntmps10 Tryz.results10 J J ?_
 refine ax<|rA J J<|rN<|ax<|rA J J<|rN<|tS<|ax<|aC (xs:=([([100,97]:ae),([100,98]:ae),([100,99]:ae),([100,100]:ae)]).map AV.str) J J J J J J<|ARun.qv (bD J) J<|rM J J<|rN<|ATodo.block<|ATodo.bT (fun x:(List Int)×Int×(List aE)×Int=>ko x.1 x.2.1 x.2.2.1 x.2.2.2) (fun x aB=>∃ (b8:Bk),aB=⟨23,[(0,.ptr bd 0),(3,.sl 8 b8 0 x.2.2.1.length),(6,ph [([100,97]:ae),([100,98]:ae),([100,99]:ae),([100,100]:ae)]),(7,I ([([100,97]:ae),([100,98]:ae),([100,99]:ae),([100,100]:ae)].length:Int)),(8,I x.2.2.2)],[(bd,.cells [cz x.1,I x.2.1]),(b8,Lw x.2.2.1)]⟩) h ?_ ?_
 ·exact ImpX.arr (s:=3) 8 J fun ud=>ImpX.lq [1,0] ⟨ud,J⟩ J J
 ·intro x z1 aB J1 dB h ic dm
  obtain ⟨l6,n7,l9,n10⟩:=x
  obtain ⟨b8,rfl⟩:=dB
  replace h:ko l6 n7 l9 n10=some z1:=h
  unfold ko at h
  refine ax<|ARun.qv (bu J J) J<|rN<|tS<|cD h J (fun h=>?_) (fun h=>?_)
  ·refine tK<|tS<|ATodo.block<|ax<|aq h fun v12 e1 h=>ARun.qv (aP J J J e1 J J) J<|ARun.qv (aG J J J) J<|rA J J<|rN<|ax<|rM J J<|aq h fun mb e2 h=>aJ J (dK e2) cR (.cons .p0 .nil) J J<|ARun.qv (bt J) J<|rN<|ATodo.cut (fun aB=>∃ (HQ:Bk) (xh:List Int) (n15:Int) (AG:List aE),iu n10 xh n15 AG=some z1∧aB=⟨23,[(0,.ptr bd 0),(3,.sl 8 HQ 0 AG.length),(6,ph [([100,97]:ae),([100,98]:ae),([100,99]:ae),([100,100]:ae)]),(7,I ([([100,97]:ae),([100,98]:ae),([100,99]:ae),([100,100]:ae)].length:Int)),(8,I n10)],[(bd,.cells [cz xh,I n15]),(HQ,Lw AG)]⟩) ?_ ?_
   ·refine cB h J (fun h=>?_) (fun h=>?_)
    ·exact tR<|rM J J<|rM J J<|rM J J<|aq h fun fH e3 h=>aJ J (Af e3) cR (.cons .p0 .nil) J J<|aC (xs:=([fH.1]:List aE).map aE.av) J J J J J J<|aq h fun Cb e4 h=>cS (g:=aE.av) J J J J J J J J (.list _) e4 (fun _=>.p1) J fun Uf=>rA J J<|rN<|ATodo.stop<|ImpX.lq [0,0] ⟨Uf,fH.2.L,fH.2.at_,Cb,h,J⟩ J J
    ·exact tK<|ATodo.stop<|ImpX.lq [0,0] ⟨b8,mb.2.L,mb.2.at_,l9,h,J⟩ J J
   ·rintro aB ⟨HQ,xh,n15,AG,h,rfl⟩
    unfold iu at h
    refine ATodo.bU<|tR<|ARun.qv (bh J J) J<|rM J J<|rN<|ATodo.stop<|?_
    cases h
    exact ic _ _ J<|ImpX.lq [0,0] ⟨HQ,J⟩ J J
  ·refine ATodo.exit J<|have h:=bz h dm;ax<|rM J J<|rA J J<|rN<|ATodo.ret<|?_
   cases h
   exact hH J [0,0] J ⟨b8,J,J⟩
theorem Cp [GI:bc] {aa:bb} {r:ak} (h:iT aa=some r):ACall Tryz.prog 136 [bb.av aa] [] (T6 (fun iC vl vm vn vo vp=>[(iC,.cells (sq r vl vm vn vo vp)),(vl,eU r.aW),(vm,nA r.cT),(vn,sd r.at_),(vo,pq r.cG),(vp,yh r.im)]) (fun iC vl vm vn vo vp=>.ptr iC 0)):=by
 unfold iT at h
 refine ACall.dN ?_
 refine ACall.aQ Tryz.func136 J Tryz.ntmps136 Tryz.results136 J J ?_
 refine ax<|bO J J J J fun b1=>rA J J<|rN<|ax<|ARun.qv (ao J J .p0 J) J<|uP J fun b2=>uP J fun b3=>Li (gk:=AV.str) (kp:=(fx 1 I)) (β:=(fun _=>⟨none,0⟩)) J fun b4 b5=>uP J fun b6=>uP J fun b7=>ARun.qv (bl J J J J J) J<|bO J J J J fun b8=>rA J J<|rN<|tS<|ax<|rF J J J<|rL J J .p7 J J<|ARun.qv (bD J) J<|rM J J<|rN<|ATodo.block<|ATodo.bT (fun x:(List (ae×ae))×Int=>cu aa x.1 x.2) (fun x aB=>aB=⟨76,[(1,.ptr b1 0),(3,.ptr b8 0),(19,yg aa.al),(20,I (aa.al.length:Int)),(21,I x.2)],[(b1,.cells (xj aa)),(b8,.cells [yg aa.al,By aa.bj,zK aa.aD,xZ aa.aI,.bZ b2,.bZ b3,.bZ b4,.bZ b6,.bZ b7]),(b2,eU x.1),(b3,nA []),(b4,.mp (xv AV.str (fx 1 I) (fun _=>⟨none,0⟩) ([]:List (ae×(List Int))))),(b5,.gx (iQ (fx 1 I) (fun _=>⟨none,0⟩) ([]:List (ae×(List Int))))),(b6,pq []),(b7,yh [])]⟩) h ?_ ?_
 ·exact ImpX.lq [7,0,5,4,2,2,1,0] J J J
 ·intro x z1 aB J1 dB h ic dm
  obtain ⟨AH,n12⟩:=x
  obtain rfl:=dB
  replace h:cu aa AH n12=some z1:=h
  unfold cu at h
  refine ax<|ARun.qv (bu J J) J<|rN<|tS<|cD h J (fun h=>?_) (fun h=>?_)
  ·refine tK<|tS<|ATodo.block<|ax<|aq h fun mb e1 h=>ARun.qv (aP J J J e1 J J) J<|ARun.qv (aH J J J) J<|bn J J J J fun vK=>au J J J J .p0 J J<|rN<|ATodo.ck (id:=5) (A:=[0,1,3,7,0,16,0,64,255]) 8 mixed J (by kernel_rfl) (by kernel_rfl)<|AM.qv (aL J) J<|AM.qv (aV J) J<|AM.qv (an J J) J<|AM.qv (az J J .p2 J) J<|AM.qv (an J J) J<|AM.qv (az J J .p0 J) J<|AM.qv (an J J) J<|AM.qv (az J J .p0 J) J<|AM.nil<|tM (gk:=AV.str) (gv:=AV.str) (M:=AH) (key:=mb.Key) (v:=mb.fi) J J J J .p3<|rN<|ATodo.bU<|tR<|ARun.qv (bh J J) J<|rM J J<|rN<|ATodo.stop<|?_
   cases h
   exact ic _ _ J<|ImpX.lq [1,1,1,1,1,1,1,1] J J J
  ·refine ATodo.exit J<|have h:=bz h dm;tS<|ax<|rF J J J<|rL J J .p0 J J<|ARun.qv (bD J) J<|rM J J<|rN<|ATodo.block<|ATodo.bT (fun x:(List (ae×(List ae)))×Int=>ct aa AH x.1 x.2) (fun x aB=>aB=⟨76,[(1,.ptr b1 0),(3,.ptr b8 0),(35,By aa.bj),(36,I (aa.bj.length:Int)),(37,I x.2)],[(b1,.cells (xj aa)),(b8,.cells [yg aa.al,By aa.bj,zK aa.aD,xZ aa.aI,.bZ b2,.bZ b3,.bZ b4,.bZ b6,.bZ b7]),(b2,eU AH),(b3,nA x.1),(b4,.mp (xv AV.str (fx 1 I) (fun _=>⟨none,0⟩) ([]:List (ae×(List Int))))),(b5,.gx (iQ (fx 1 I) (fun _=>⟨none,0⟩) ([]:List (ae×(List Int))))),(b6,pq []),(b7,yh [])]⟩) h ?_ ?_
   ·exact ImpX.lq [0,0,0,0,0,0,0,0] J J J
   ·intro x z2 aB J2 dB h zN uS
    obtain ⟨AG,n18⟩:=x
    obtain rfl:=dB
    replace h:ct aa AH AG n18=some z2:=h
    unfold ct at h
    refine ax<|ARun.qv (bu J J) J<|rN<|tS<|cD h J (fun h=>?_) (fun h=>?_)
    ·refine tK<|tS<|ATodo.block<|ax<|aq h fun dI e2 h=>ARun.qv (aP J J J e2 J J) J<|ARun.qv (aH J J J) J<|bn J J J J fun Uf=>au J J J J .p0 J J<|rN<|ATodo.ck (id:=10) (A:=[0,1,3,7,0,16,0,64,255]) 8 mixed J (by kernel_rfl) (by kernel_rfl)<|AM.qv (aL J) J<|AM.qv (aV J) J<|AM.qv (an J J) J<|AM.qv (az J J .p2 J) J<|AM.qv (an J J) J<|AM.qv (az J J .p0 J) J<|AM.qv (an J J) J<|AM.qv (az J J .p0 J) J<|AM.nil<|tM (gk:=AV.str) (gv:=(Ba 1 AV.str)) (M:=AG) (key:=dI.Key) (v:=dI.lI) J J J J .p4<|rN<|ATodo.bU<|tR<|ARun.qv (bh J J) J<|rM J J<|rN<|ATodo.stop<|?_
     cases h
     exact zN _ _ J<|ImpX.lq [1,1,1,1,1,1,1,1] J J J
    ·refine ATodo.exit J<|have h:=bz h uS;tS<|ax<|rF J J J<|rL J J .p0 J J<|ARun.qv (bD J) J<|rM J J<|rN<|ATodo.block<|ATodo.bT (fun x:(List (ae×(List Int)))×Int=>fJ aa AH AG x.1 x.2) (fun x aB=>∃ (wY:ae→Bk),aB=⟨76,[(3,.ptr b8 0),(51,zK aa.aD),(52,I (aa.aD.length:Int)),(53,I x.2)],[(b8,.cells [yg aa.al,By aa.bj,zK aa.aD,xZ aa.aI,.bZ b2,.bZ b3,.bZ b4,.bZ b6,.bZ b7]),(b2,eU AH),(b3,nA AG),(b4,.mp (xv AV.str (fx 1 I) wY x.1)),(b5,.gx (iQ (fx 1 I) wY x.1)),(b6,pq []),(b7,yh [])]⟩) h ?_ ?_
     ·exact ImpX.lq [1,1,1,1,1,1,1] ⟨(fun _=>⟨none,0⟩),J⟩ J J
     ·intro x z3 aB J3 dB h Qb N2
      obtain ⟨yd,n26⟩:=x
      obtain ⟨wY,rfl⟩:=dB
      replace h:fJ aa AH AG yd n26=some z3:=h
      unfold fJ at h
      refine ax<|ARun.qv (bu J J) J<|rN<|tS<|cD h J (fun h=>?_) (fun h=>?_)
      ·refine tK<|tS<|ATodo.block<|ax<|rM J J<|aq h fun HL e3 h=>ARun.qv (aP J J J e3 J J) J<|ARun.qv (aH J J J) J<|bn J J J J fun Uh=>rA J J<|au J J J J .p0 J J<|rN<|aq h fun EF e4 h=>aq h fun Bs e5 h=>ATodo.kZ (id:=15) (A:=[0,1,3,7,0,16,0,64,192,448,0,1024,4032,0,8192,32704,65535]) (H0:=[(b4,.mp (xv AV.str (fx 1 I) wY yd)),(b5,.gx (iQ (fx 1 I) wY yd))]) (HH:=fun β=>[(b4,.mp (xv AV.str (fx 1 I) wY yd)),(b5,.gx (iQ (fx 1 I) wY (tJ yd HL.ar))),((β 15),Lx Bs),(Uh,.cells [.str HL.lV,.str HL.ar,.str HL.bN]),(b8,.cells [yg aa.al,By aa.bj,zK aa.aD,xZ aa.aI,.bZ b2,.bZ b3,.bZ b4,.bZ b6,.bZ b7]),(b2,eU AH),(b3,nA AG),(b6,pq []),(b7,yh [])]) 16 mixed J (by kernel_rfl) (by kernel_rfl) [⟨none,some 12,[],fun _=>(b4,.mp (xv AV.str (fx 1 I) wY yd)),none,[]⟩,⟨none,some 12,[],fun _=>(b5,.gx (iQ (fx 1 I) wY yd)),none,[]⟩,⟨some 12,some 15,[],fun b=>(b,Lx EF),none,[]⟩,⟨some 12,none,[],fun b=>(b4,.mp (xv AV.str (fx 1 I) wY yd)),none,[]⟩,⟨some 12,none,[],fun b=>(b5,.gx (iQ (fx 1 I) wY (tJ yd HL.ar))),none,[]⟩,⟨some 15,none,[],fun b=>(b,Lx Bs),none,[]⟩] [12,15] J (by kernel_rfl) J (.cons .p4 (.cons .p4 .nil)) (fun _=>J)<|AT.am 12 J J<|AM.qv (aL J) J<|AM.qv (aV J) J<|AM.qv (an J J) J<|AM.qv (az J J .p1 J) J<|AM.qv (an J J) J<|AM.qv (az J J .p0 J) J<|AM.qv (aL J) J<|AM.qv (aV J) J<|AM.qv (an J J) J<|AM.qv (az J J .p1 J) J<|AM.qv (an J J) J<|AM.qv (az J J .p0 J) J<|AM.nil<|AT.UU (V:=fun b=>.sl 1 b 0 EF.length) (Ti:=[(b4,.mp (xv AV.str (fx 1 I) wY yd)),(b5,.gx (iQ (fx 1 I) wY yd))]) (Pi:=fun b=>[(b,Lx EF),(b4,.mp (xv AV.str (fx 1 I) wY yd)),(b5,.gx (iQ (fx 1 I) wY (tJ yd HL.ar)))]) (fun _=>J) (fun _=>J) (fun _ _=>J) J (fun _=>J) J J J ?_ ?_
       ·exact NK (gk:=AV.str) (sz:=1) (g:=I) (β:=wY) (M:=yd) (key:=HL.ar) J J .p0 .p1 J e4 J fun Yr an8=>ARun.nil ⟨Yr,_,J,J⟩
       refine AT.am 2 J J<|AM.qv (aL J) J<|AM.aY (xs:=([n26]:List Int).map I) J J J J J J<|AM.nil<|AT.aaI (V:=fun b=>.sl 1 b 0 Bs.length) (Ti:=fun β=>[((β 12),Lx EF)]) (Pi:=fun b=>[(b,Lx Bs)]) (fun _=>J) (fun _=>J) (fun _ _=>J) (fun _=>J) (fun _=>J) J J J (fun β=>?_) ?_
       ·generalize β 12=Yr
        exact cS (g:=I) J J J J J J J J (.list _) e5 (fun _=>.p0) J fun SM=>ARun.nil ⟨SM,_,J,J⟩
       refine AT.yx (fun _=>J) fun β=>?_
       generalize β 12=Yr
       generalize β 15=SM
       clear β
       refine HE (gk:=AV.str) (kp:=(fx 1 I)) (β:=wY) (M:=yd) (key:=HL.ar) (v:=Bs) (b:=SM) J J J J .p0<|ARun.ghost<|ImpX.Sj (kp:=(fx 1 I)) (β:=wY) (M:=yd) (key:=HL.ar) (v:=Bs) J .p2 .p1<|ImpX.here<|rN<|ATodo.bU<|tR<|ARun.qv (bh J J) J<|rM J J<|rN<|ATodo.stop<|?_
       cases h
       exact Qb _ _ J<|ImpX.lq [3,3,3,0,0,1,1] ⟨(Cn wY HL.ar SM),J⟩ J J
      ·refine ATodo.exit J<|have h:=bz h N2;ax<|rM J J<|rA J J<|rN<|ATodo.ret<|?_
       cases h
       exact ImpX.Ve (gk:=AV.str) (sz:=1) (g:=I) (β:=wY) (M:=yd) (iX.inj Tryz.prog 9) .p4 .p3<|ImpX.here ⟨_,.cons (.tmp _ _ J) .nil,_,.cons .p0 (.cons .p0 (.cons .p0 (.cons .p0 (.cons .p0 (.cons .p0 .nil))))),⟨b8,b2,b3,b4,b6,b7,J,J⟩⟩
theorem gU [GI:bc] {aa:ae} {r:Bool} (h:gA aa=some r):Pu Tryz.prog 60 [.str aa] (.bool r):=by
 unfold gA at h
 refine ACall.aQ Tryz.func60 J Tryz.ntmps60 Tryz.results60 J J ?_
 refine ax<|rA J J<|rN<|tS<|tS<|ATodo.cut (fun aB=>∃ (c1:Bool),oK aa c1=some r∧aB=⟨54,[(0,.str aa),(21,.bool c1)],[]⟩) ?_ ?_
 ·refine tR<|rM J J<|ARun.qv (fS J J) J<|rM J J<|gF h J J J (fun h=>?_) (fun h=>?_)
  ·refine rM J J<|rY J J J<|ARun.qv (eR J) J<|rY J J J<|ARun.qv (dJ J J) J<|rE J J J<|rM J J<|gF h J J J (fun h=>?_) (fun h=>?_)
   ·refine rM J J<|rY J J J<|aq h fun c2 e1 h=>ARun.qv (qF J J e1) J<|rY J J J<|ARun.qv (bu J J) J<|rE J J J<|rM J J<|gF h J J J (fun h=>?_) (fun h=>?_)
    ·exact rM J J<|rY J J J<|aq h fun c3 e2 h=>ARun.qv (qF J J e2) J<|rY J J J<|ARun.qv (dJ J J) J<|rE J J J<|rN<|ATodo.stop<|ImpX.lq [] ⟨decide ((122:Int) < (c3.toNat:Int)),h,J⟩ J J
    ·exact rG J J J J<|rG J J J J<|rT J J J<|rN<|ATodo.stop<|ImpX.lq [] ⟨true,h,J⟩ J J
   ·exact rG J J J J<|rG J J J J<|rT J J J<|rM J J<|rG J J J J<|rG J J J J<|rG J J J J<|rT J J J<|rN<|ATodo.stop<|ImpX.lq [] ⟨true,h,J⟩ J J
  ·exact rG J J J J<|rG J J J J<|rT J J J<|rM J J<|rG J J J J<|rG J J J J<|rG J J J J<|rT J J J<|rM J J<|rG J J J J<|rG J J J J<|rG J J J J<|rT J J J<|rN<|ATodo.stop<|ImpX.lq [] ⟨true,h,J⟩ J J
 ·rintro aB ⟨c1,h,rfl⟩
  unfold oK at h
  refine cB h J (fun h=>?_) (fun h=>?_)
  ·refine ax<|rA J J<|rN<|ATodo.ret<|?_
   cases h
   exact hP J J
  ·refine tK<|tS<|ax<|rM J J<|ARun.qv (eR J) J<|rM J J<|rN<|ATodo.block<|ATodo.bT (fun x:Int=>oJ aa x) (fun x aB=>aB=⟨54,[(0,.str aa),(23,I (aa.length:Int)),(24,I x)],[]⟩) h ?_ ?_
   ·exact ImpX.lq [] J J J
   ·intro n5 z1 aB J1 dB h ic dm
    obtain rfl:=dB
    replace h:oJ aa n5=some z1:=h
    unfold oJ at h
    refine ax<|ARun.qv (bu J J) J<|rN<|tS<|cD h J (fun h=>?_) (fun h=>?_)
    ·refine tK<|tS<|ATodo.block<|ax<|rM J J<|rA J J<|rN<|ax<|rM J J<|rM J J<|aq h fun c6 e3 h=>ARun.qv (qF J J e3) J<|rA J J<|rN<|tS<|ATodo.cut (fun aB=>∃ (c7:Bool),vU n5 c7=some z1∧aB=⟨54,[(0,.str aa),(23,I (aa.length:Int)),(24,I n5),(52,.bool c7)],[]⟩) ?_ ?_
     ·refine tR<|rM J J<|ARun.qv (uu J J) J<|rM J J<|ARun.cA J J J (fun hc=>?_) (fun hc=>?_)
      ·rw [if_pos hc] at h
       refine rM J J<|rY J J J<|ARun.qv (sA J J) J<|rT J J J<|rM J J<|ARun.dA J J J (fun hc=>?_) (fun hc=>?_)
       ·rw [if_neg hc] at h
        refine rM J J<|rY J J J<|ARun.qv (uu J J) J<|rY J J J<|rM J J<|ARun.cA J J J (fun hc=>?_) (fun hc=>?_)
        ·rw [if_pos hc] at h
         refine rM J J<|rY J J J<|ARun.qv (sA J J) J<|rY J J J<|rT J J J<|rE J J J<|rM J J<|ARun.dA J J J (fun hc=>?_) (fun hc=>?_)
         ·rw [if_neg hc] at h
          refine rM J J<|rY J J J<|ARun.qv (bS J J) J<|rE J J J<|rM J J<|ARun.dA J J J (fun hc=>?_) (fun hc=>?_)
          ·rw [if_neg hc] at h
           exact rM J J<|rY J J J<|ARun.qv (bS J J) J<|rE J J J<|ARun.qv (A9 J) J<|rN<|ATodo.stop<|ImpX.lq [] ⟨decide (¬ ((c6.toNat:Int)=(95:Int))),h,J⟩ J J
          ·rw [if_pos hc] at h
           exact rG J J J J<|rT J J J<|ARun.qv (bt J) J<|rN<|ATodo.stop<|ImpX.lq [] ⟨!true,h,J⟩ J J
         ·rw [if_pos hc] at h
          exact rG J J J J<|rT J J J<|rM J J<|rG J J J J<|rG J J J J<|rT J J J<|ARun.qv (bt J) J<|rN<|ATodo.stop<|ImpX.lq [] ⟨!true,h,J⟩ J J
        ·rw [if_neg hc] at h
         refine rG J J J J<|rY J J J<|rE J J J<|rE J J J<|rM J J<|rY J J J<|rM J J<|rY J J J<|ARun.qv (bS J J) J<|rE J J J<|rM J J<|ARun.dA J J J (fun hc=>?_) (fun hc=>?_)
         ·rw [if_neg hc] at h
          exact rM J J<|rY J J J<|ARun.qv (bS J J) J<|rE J J J<|ARun.qv (A9 J) J<|rN<|ATodo.stop<|ImpX.lq [] ⟨decide (¬ ((c6.toNat:Int)=(95:Int))),h,J⟩ J J
         ·rw [if_pos hc] at h
          exact rG J J J J<|rT J J J<|ARun.qv (bt J) J<|rN<|ATodo.stop<|ImpX.lq [] ⟨!true,h,J⟩ J J
       ·rw [if_pos hc] at h
        exact rG J J J J<|rG J J J J<|ARun.bK J J J<|ARun.bK J J J<|rG J J J J<|rT J J J<|rM J J<|rG J J J J<|rG J J J J<|rT J J J<|rM J J<|rG J J J J<|rG J J J J<|rT J J J<|ARun.qv (bt J) J<|rN<|ATodo.stop<|ImpX.lq [] ⟨!true,h,J⟩ J J
      ·rw [if_neg hc] at h
       refine rG J J J J<|rE J J J<|rM J J<|rY J J J<|rM J J<|rY J J J<|ARun.qv (uu J J) J<|rY J J J<|rM J J<|ARun.cA J J J (fun hc=>?_) (fun hc=>?_)
       ·rw [if_pos hc] at h
        refine rM J J<|rY J J J<|ARun.qv (sA J J) J<|rY J J J<|rT J J J<|rE J J J<|rM J J<|ARun.dA J J J (fun hc=>?_) (fun hc=>?_)
        ·rw [if_neg hc] at h
         refine rM J J<|rY J J J<|ARun.qv (bS J J) J<|rE J J J<|rM J J<|ARun.dA J J J (fun hc=>?_) (fun hc=>?_)
         ·rw [if_neg hc] at h
          exact rM J J<|rY J J J<|ARun.qv (bS J J) J<|rE J J J<|ARun.qv (A9 J) J<|rN<|ATodo.stop<|ImpX.lq [] ⟨decide (¬ ((c6.toNat:Int)=(95:Int))),h,J⟩ J J
         ·rw [if_pos hc] at h
          exact rG J J J J<|rT J J J<|ARun.qv (bt J) J<|rN<|ATodo.stop<|ImpX.lq [] ⟨!true,h,J⟩ J J
        ·rw [if_pos hc] at h
         exact rG J J J J<|rT J J J<|rM J J<|rG J J J J<|rG J J J J<|rT J J J<|ARun.qv (bt J) J<|rN<|ATodo.stop<|ImpX.lq [] ⟨!true,h,J⟩ J J
       ·rw [if_neg hc] at h
        refine rG J J J J<|rY J J J<|rE J J J<|rE J J J<|rM J J<|rY J J J<|rM J J<|rY J J J<|ARun.qv (bS J J) J<|rE J J J<|rM J J<|ARun.dA J J J (fun hc=>?_) (fun hc=>?_)
        ·rw [if_neg hc] at h
         exact rM J J<|rY J J J<|ARun.qv (bS J J) J<|rE J J J<|ARun.qv (A9 J) J<|rN<|ATodo.stop<|ImpX.lq [] ⟨decide (¬ ((c6.toNat:Int)=(95:Int))),h,J⟩ J J
        ·rw [if_pos hc] at h
         exact rG J J J J<|rT J J J<|ARun.qv (bt J) J<|rN<|ATodo.stop<|ImpX.lq [] ⟨!true,h,J⟩ J J
     ·rintro aB ⟨c7,h,rfl⟩
      unfold vU at h
      refine cB h J (fun h=>?_) (fun h=>?_)
      ·refine ax<|rA J J<|rN<|ATodo.ret<|have h:=bz h dm;?_
       cases h
       exact hP J J
      ·refine tK<|ATodo.bU<|tR<|ARun.qv (bh J J) J<|rM J J<|rN<|ATodo.stop<|?_
       cases h
       exact ic _ _ J<|ImpX.lq [] J J J
    ·refine ATodo.exit J<|have h:=bz h dm;ax<|rA J J<|rN<|ATodo.ret<|?_
     cases h
     exact hP J J
theorem iD [GI:bc] {bd:Bk} {bB:Bk} {bY:Bk} {cm:Bk} {cq:Bk} {dj:Bk} {aa:ak} {ah:ae} {r:Bool} (h:fk aa ah=some r):ACall Tryz.prog 65 [.ptr bd 0,.str ah] [(bd,.cells (sq aa bB bY cm cq dj)),(bB,eU aa.aW)] (T0 ([(bd,.cells (sq aa bB bY cm cq dj)),(bB,eU aa.aW)]) (.bool r)):=by
 unfold fk at h
 refine ACall.dN ?_
 refine ACall.aQ Tryz.func65 J Tryz.ntmps65 Tryz.results65 J J ?_
 refine ax<|rA J J<|rN<|ax<|rM J J<|ARun.qv (aV J) J<|rF J J J<|rL J J .p0 J J<|rM J J<|aq h fun v1 e1 h=>ARun.qv (NC (gk:=AV.str) (gv:=AV.str) (M:=aa.aW) (key:=ah) (Z:=[]) J J .p1 J J J e1 J) J<|rM J J<|rX J J J<|rX J J J<|rA J J<|rA J J<|rN<|ax<|rM J J<|rA J J<|rN<|ATodo.ret<|?_
 cases h
 exact hH J [0,0] J ⟨J,J⟩
theorem mS [GI:bc] {bd:Bk} {bB:Bk} {bY:Bk} {cm:Bk} {cq:Bk} {dj:Bk} {aa:ak} {ah:ae} {r:(List ae)} (h:gn aa ah=some r):ACall Tryz.prog 129 [.ptr bd 0,.str ah] [(bd,.cells (sq aa bB bY cm cq dj)),(bB,eU aa.aW)] (T1 (fun iC=>[(bd,.cells (sq aa bB bY cm cq dj)),(bB,eU aa.aW),(iC,pw r)]) (fun iC=>.sl 1 iC 0 r.length)):=by
 unfold gn at h
 refine ACall.dN ?_
 refine ACall.aQ Tryz.func129 J Tryz.ntmps129 Tryz.results129 J J ?_
 refine ax<|rA J J<|rN<|ax<|rA J J<|rN<|tS<|ATodo.block<|ATodo.bT (fun x:ae×(List ae)=>gW aa x.1 x.2) (fun x aB=>∃ (b5:Bk),aB=⟨30,[(0,.ptr bd 0),(1,.str x.1),(5,.sl 1 b5 0 x.2.length)],[(bd,.cells (sq aa bB bY cm cq dj)),(bB,eU aa.aW),(b5,pw x.2)]⟩) h ?_ ?_
 ·exact ImpX.arr (s:=5) 1 J fun b7=>ImpX.lq [1,1,0] ⟨b7,J⟩ J J
 ·intro x z1 aB J1 dB h ic dm
  obtain ⟨q4,l6⟩:=x
  obtain ⟨b5,rfl⟩:=dB
  replace h:gW aa q4 l6=some z1:=h
  unfold gW at h
  refine tS<|tS<|ATodo.cut (fun aB=>∃ (c8:Bool),jr aa q4 l6 c8=some z1∧aB=⟨30,[(0,.ptr bd 0),(1,.str q4),(5,.sl 1 b5 0 l6.length),(18,.bool c8)],[(bd,.cells (sq aa bB bY cm cq dj)),(bB,eU aa.aW),(b5,pw l6)]⟩) ?_ ?_
  ·refine tR<|rM J J<|rM J J<|aq h fun v9 e1 h=>aJ J (iD e1) cR (.cons .p0 (.cons .p0 .nil)) J J<|rM J J<|ARun.guard J J J (fun hc=>?_) (fun hc=>?_)
   ·rw [Bc hc] at h
    exact rM J J<|rY J J J<|ARun.qv (iO J) J<|rY J J J<|rM J J<|rY J J J<|ARun.qv (aV J) J<|rY J J J<|rF J J J<|rY J J J<|rL J J .p0 J J<|rY J J J<|ARun.qv (ND (gk:=AV.str) (gv:=AV.str) (M:=aa.aW) J .p1) J<|rY J J J<|ARun.qv (sA J J) J<|rT J J J<|rN<|ATodo.stop<|ImpX.lq [0,0,0] ⟨decide ((l6.length:Int)≤(aa.aW.length:Int)),h,J⟩ J J
   ·rw [Bd hc] at h
    exact rG J J J J<|rG J J J J<|rG J J J J<|rG J J J J<|rG J J J J<|rG J J J J<|rG J J J J<|rE J J J<|rN<|ATodo.stop<|ImpX.lq [0,0,0] ⟨false,h,J⟩ J J
  ·rintro aB ⟨c8,h,rfl⟩
   unfold jr at h
   refine cB h J (fun h=>?_) (fun h=>?_)
   ·refine tK<|ATodo.block<|ax<|rM J J<|rM J J<|aC (xs:=([q4]:List ae).map AV.str) J J J J J J<|aq h fun l10 e2 h=>cS (g:=AV.str) J J J J J J J J (.list _) e2 (fun _=>.p2) J fun ud=>rA J J<|rN<|tR<|rM J J<|ARun.qv (aV J) J<|rF J J J<|rL J J .p0 J J<|rM J J<|aq h fun v12 e3 h=>ARun.qv (Jg (gk:=AV.str) (gv:=AV.str) (M:=aa.aW) (key:=q4) (Z:=[]) J J .p1 J J J e3 J) J<|rA J J<|rN<|ATodo.bU<|ATodo.stop<|?_
    cases h
    exact ic _ _ J<|ImpX.lq [0,0,0] ⟨ud,J⟩ J J
   ·refine ATodo.exit J<|have h:=bz h dm;ax<|rM J J<|rA J J<|rN<|ATodo.ret<|?_
    cases h
    exact hH J [0,0,0] J ⟨b5,J,J⟩
theorem uk [GI:bc] {aa:List ae} {ah:ae} {r:Int} (h:gB aa ah=some r):Pu Tryz.prog 110 [ph aa,.str ah] (I r):=by
 unfold gB at h
 refine ACall.aQ Tryz.func110 J Tryz.ntmps110 Tryz.results110 J J ?_
 refine ax<|rA J J<|rN<|tS<|ax<|rM J J<|ARun.qv (bD J) J<|rM J J<|rN<|ATodo.block<|ATodo.bT (fun x:Int=>db aa ah x) (fun x aB=>aB=⟨19,[(0,ph aa),(1,.str ah),(7,I (aa.length:Int)),(8,I x)],[]⟩) h ?_ ?_
 ·exact ImpX.lq [] J J J
 ·intro n2 z1 aB J1 dB h ic dm
  obtain rfl:=dB
  replace h:db aa ah n2=some z1:=h
  unfold db at h
  refine ax<|ARun.qv (bu J J) J<|rN<|tS<|cD h J (fun h=>?_) (fun h=>?_)
  ·refine tK<|tS<|ATodo.block<|ax<|rM J J<|rA J J<|rN<|ax<|rM J J<|rM J J<|rM J J<|aq h fun v3 e1 h=>ARun.qv (aP J J J e1 J J) J<|ARun.qv (aG J J J) J<|ARun.qv (fS J J) J<|rN<|cD h J (fun h=>?_) (fun h=>?_)
   ·refine ax<|rM J J<|rA J J<|rN<|ATodo.ret<|have h:=bz h dm;?_
    cases h
    exact hP J J
   ·refine tK<|ATodo.bU<|tR<|ARun.qv (bh J J) J<|rM J J<|rN<|ATodo.stop<|?_
    cases h
    exact ic _ _ J<|ImpX.lq [] J J J
  ·refine ATodo.exit J<|have h:=bz h dm;ax<|rA J J<|rN<|ATodo.ret<|?_
   cases h
   exact hP J J
theorem ba [GI:bc] {aa:List ae} {ah:ae} {r:Bool} (h:aR aa ah=some r):Pu Tryz.prog 49 [ph aa,.str ah] (.bool r):=by
 unfold aR at h
 refine ACall.aQ Tryz.func49 J Tryz.ntmps49 Tryz.results49 J J ?_
 refine ax<|rA J J<|rN<|ax<|rM J J<|rM J J<|aq h fun v1 e1 h=>aA J (uk e1) cR J<|ARun.qv (uu J J) J<|rA J J<|rN<|ATodo.ret<|?_
 cases h
 exact hP J J
theorem wZ [GI:bc] {bd:Bk} {bB:Bk} {bY:Bk} {cm:Bk} {cq:Bk} {dj:Bk} {aa:ak} {r:Int} (h:fQ aa=some r):ACall Tryz.prog 137 [.ptr bd 0] [(bd,.cells (sq aa bB bY cm cq dj)),(bB,eU aa.aW)] (T0 ([(bd,.cells (sq aa bB bY cm cq dj)),(bB,eU aa.aW)]) (I r)):=by
 unfold fQ at h
 refine ACall.dN ?_
 refine ACall.aQ Tryz.func137 J Tryz.ntmps137 Tryz.results137 J J ?_
 refine ax<|rA J J<|rN<|tS<|ax<|rM J J<|ARun.qv (aV J) J<|rF J J J<|rF J J J<|rL J J .p0 J J<|ARun.qv (bD J) J<|ARun.qv (dJ J J) J<|rN<|cD h J (fun h=>?_) (fun h=>?_)
 ·refine ax<|rA J J<|rN<|ATodo.ret<|?_
  cases h
  exact hH J [0,0] J ⟨J,J⟩
 ·refine tK<|tS<|ax<|rM J J<|ARun.qv (aV J) J<|rF J J J<|rF J J J<|rL J J .p0 J J<|ARun.qv (bD J) J<|rM J J<|rN<|ATodo.block<|ATodo.bT (fun x:Int=>fW aa x) (fun x aB=>aB=⟨99,[(0,.ptr bd 0),(22,yg aa.bb.al),(23,I (aa.bb.al.length:Int)),(24,I x)],[(bd,.cells (sq aa bB bY cm cq dj)),(bB,eU aa.aW)]⟩) h ?_ ?_
  ·exact ImpX.lq [0,0] J J J
  ·intro n2 z1 aB J1 dB h ic dm
   obtain rfl:=dB
   replace h:fW aa n2=some z1:=h
   unfold fW at h
   refine ax<|ARun.qv (bu J J) J<|rN<|tS<|cD h J (fun h=>?_) (fun h=>?_)
   ·refine tK<|tS<|ATodo.block<|ax<|rM J J<|aq h fun v3 e1 h=>ARun.qv (aP J J J e1 J J) J<|ARun.qv (aH J J J) J<|bn J J J J fun b4=>rA J J<|au J J J J .p0 J J<|rN<|tS<|ax<|rF J J J<|rL J J .p0 J J<|aq h fun v5 e2 h=>aA J (gU e2) cR J<|ARun.qv (bt J) J<|rN<|cB h J (fun h=>?_) (fun h=>?_)
    ·refine ax<|rA J J<|rN<|ATodo.ret<|have h:=bz h dm;?_
     cases h
     exact hH J [1,1] J ⟨J,J⟩
    ·refine tK<|tS<|ATodo.cut (fun aB=>∃ (c6:Bool),fT n2 c6=some z1∧aB=⟨99,[(0,.ptr bd 0),(22,yg aa.bb.al),(23,I (aa.bb.al.length:Int)),(24,I n2),(49,.bool c6)],[(bd,.cells (sq aa bB bY cm cq dj)),(bB,eU aa.aW)]⟩) ?_ ?_
     ·refine ATodo.ck (id:=8) (A:=[0,1,3,7,15,7,39,103,231,487,7,1031,4071,8167,16359,32767,65535]) 17 mixed J (by kernel_rfl) (by kernel_rfl)<|AM.qv (aL J) J<|AM.qv (dJ J J) J<|AM.qv (aL J) J<|AM.cA J J J (fun hc=>?_) (fun hc=>?_)
      ·exact have h:=gr hc h;AM.qv (an J J) J<|AM.aj J J J<|AM.qv (az J J .p0 J) J<|AM.aj J J J<|AM.qv (aL J) J<|AM.aj J J J<|AM.qv (aV J) J<|AM.aj J J J<|AM.qv (an J J) J<|AM.aj J J J<|AM.qv (an J J) J<|AM.aj J J J<|AM.qv (az J J .p1 J) J<|AM.aj J J J<|AM.qv (aL J) J<|AM.aj J J J<|AM.qv (gq J J) J<|AM.aj J J J<|aq h fun v7 e3 h=>AM.qv (aP J J J e3 J J) J<|AM.aj J J J<|AM.qv (bJ J J) J<|AM.aj J J J<|AM.qv (aG J J J) J<|AM.aj J J J<|AM.qv (rk J J) J<|AM.qv (cJ J J) J<|AM.nil<|rN<|ATodo.stop<|ImpX.lq [1,1] ⟨Op.bytesLess v3.Key v7.Key||v3.Key==v7.Key,h,J⟩ J J
      ·exact have h:=wq hc h;AM.ai J J J J<|AM.ai J J J J<|AM.ai J J J J<|AM.ai J J J J<|AM.ai J J J J<|AM.ai J J J J<|AM.ai J J J J<|AM.ai J J J J<|AM.ai J J J J<|AM.ai J J J J<|AM.ai J J J J<|AM.ai J J J J<|AM.qv (eD J J) J<|AM.nil<|rN<|ATodo.stop<|ImpX.lq [1,1] ⟨false,h,J⟩ J J
     ·rintro aB ⟨c6,h,rfl⟩
      unfold fT at h
      refine cB h J (fun h=>?_) (fun h=>?_)
      ·refine ax<|rA J J<|rN<|ATodo.ret<|have h:=bz h dm;?_
       cases h
       exact hH J [0,0] J ⟨J,J⟩
      ·refine tK<|ATodo.bU<|tR<|ARun.qv (bh J J) J<|rM J J<|rN<|ATodo.stop<|?_
       cases h
       exact ic _ _ J<|ImpX.lq [0,0] J J J
   ·refine ATodo.exit J<|have h:=bz h dm;tS<|ax<|rM J J<|ARun.qv (aV J) J<|rF J J J<|rF J J J<|rL J J .p0 J J<|ARun.qv (bD J) J<|rM J J<|rN<|ATodo.block<|ATodo.bT (fun x:Int=>fV aa x) (fun x aB=>aB=⟨99,[(0,.ptr bd 0),(55,yg aa.bb.al),(56,I (aa.bb.al.length:Int)),(57,I x)],[(bd,.cells (sq aa bB bY cm cq dj)),(bB,eU aa.aW)]⟩) h ?_ ?_
    ·exact ImpX.lq [0,0] J J J
    ·intro n9 z2 aB J2 dB h zN uS
     obtain rfl:=dB
     replace h:fV aa n9=some z2:=h
     unfold fV at h
     refine ax<|ARun.qv (bu J J) J<|rN<|tS<|cD h J (fun h=>?_) (fun h=>?_)
     ·refine tK<|tS<|ATodo.block<|ax<|aq h fun v10 e4 h=>ARun.qv (aP J J J e4 J J) J<|ARun.qv (aH J J J) J<|bn J J J J fun ud=>au J J J J .p0 J J<|rN<|tS<|ATodo.cut (fun aB=>∃ (c12:Bool),fU n9 c12=some z2∧aB=⟨99,[(0,.ptr bd 0),(55,yg aa.bb.al),(56,I (aa.bb.al.length:Int)),(57,I n9),(70,.bool c12)],[(bd,.cells (sq aa bB bY cm cq dj)),(bB,eU aa.aW)]⟩) ?_ ?_
      ·refine tR<|rF J J J<|rL J J .p0 J J<|ARun.qv (qD J J) J<|rM J J<|gT h J J J (fun h=>?_) (fun h=>?_)
       ·exact rM J J<|rY J J J<|rF J J J<|rY J J J<|rL J J .p0 J J<|rY J J J<|aq h fun mb e5 h=>aJ J (iD e5) cR (.cons .p1 (.cons .p1 .nil)) J J<|rY J J J<|ARun.qv (bt J) J<|rT J J J<|rN<|ATodo.stop<|ImpX.lq [0,0] ⟨!mb,h,J⟩ J J
       ·exact rG J J J J<|rG J J J J<|rG J J J J<|rG J J J J<|rE J J J<|rN<|ATodo.stop<|ImpX.lq [1,1] ⟨false,h,J⟩ J J
      ·rintro aB ⟨c12,h,rfl⟩
       unfold fU at h
       refine cB h J (fun h=>?_) (fun h=>?_)
       ·refine ax<|rA J J<|rN<|ATodo.ret<|have h:=bz h uS;?_
        cases h
        exact hH J [0,0] J ⟨J,J⟩
       ·refine tK<|ATodo.bU<|tR<|ARun.qv (bh J J) J<|rM J J<|rN<|ATodo.stop<|?_
        cases h
        exact zN _ _ J<|ImpX.lq [0,0] J J J
     ·refine ATodo.exit J<|have h:=bz h uS;ax<|rA J J<|rN<|tS<|ax<|rM J J<|ARun.qv (aV J) J<|rF J J J<|rF J J J<|rL J J .p0 J J<|ARun.qv (bD J) J<|rM J J<|rN<|ATodo.block<|ATodo.bT (fun x:Bool×Int=>eo aa x.1 x.2) (fun x aB=>aB=⟨99,[(0,.ptr bd 0),(7,.bool x.1),(76,yg aa.bb.al),(77,I (aa.bb.al.length:Int)),(78,I x.2)],[(bd,.cells (sq aa bB bY cm cq dj)),(bB,eU aa.aW)]⟩) h ?_ ?_
      ·exact ImpX.lq [0,0] J J J
      ·intro x z3 aB J3 dB h Qb N2
       obtain ⟨Lu,n17⟩:=x
       obtain rfl:=dB
       replace h:eo aa Lu n17=some z3:=h
       unfold eo at h
       refine ax<|ARun.qv (bu J J) J<|rN<|tS<|cD h J (fun h=>?_) (fun h=>?_)
       ·refine tK<|tS<|ATodo.block<|ax<|aq h fun fH e6 h=>ARun.qv (aP J J J e6 J J) J<|ARun.qv (aH J J J) J<|bn J J J J fun FA=>au J J J J .p0 J J<|rN<|ax<|rM J J<|rF J J J<|rL J J .p0 J J<|aq h fun v20 e7 h=>eE J (mS e7) cR (.cons .p1 (.cons .p1 .nil)) (fun _=>J) J fun Uk=>rA J J<|rN<|tS<|tS<|ATodo.ck (id:=22) (A:=[0,1,0,4,15]) 5 mixed J (by kernel_rfl) (by kernel_rfl)<|AM.qv (aL J) J<|aq h fun SF e8 h=>AM.qv (lH J J (.some _ _ _ J) .none J J e8) J<|AM.qv (an J J) J<|AM.qv (az J J .p3 J) J<|aq h fun v23 e9 h=>AM.UK J (ba e9) (.cons (vI.T9 e8 .p2) (.cons (.co (.refl _)) .nil)) J J<|AM.nil<|rN<|cB h J (fun h=>?_) (fun h=>?_)
        ·refine ax<|rA J J<|rN<|ATodo.ret<|have h:=bz h N2;?_
         cases h
         exact hH J [0,0] J ⟨J,J⟩
        ·refine tK<|ATodo.cut (fun aB=>∃ (c24:Bool),iH n17 c24=some z3∧aB=⟨99,[(0,.ptr bd 0),(7,.bool c24),(76,yg aa.bb.al),(77,I (aa.bb.al.length:Int)),(78,I n17)],[(bd,.cells (sq aa bB bY cm cq dj)),(bB,eU aa.aW)]⟩) ?_ ?_
         ·refine tR<|rM J J<|rM J J<|ARun.guard J J J (fun hc=>?_) (fun hc=>?_)
          ·rw [FJ hc] at h
           exact rM J J<|rY J J J<|ARun.qv (iO J) J<|rY J J J<|ARun.qv (dJ J J) J<|rE J J J<|rA J J<|rN<|ATodo.stop<|ImpX.lq [0,0] ⟨decide ((11:Int) < (v20.length:Int)),h,J⟩ J J
          ·rw [FI hc] at h
           exact rG J J J J<|rG J J J J<|rT J J J<|rA J J<|rN<|ATodo.stop<|ImpX.lq [0,0] ⟨true,h,J⟩ J J
         ·rintro aB ⟨c24,h,rfl⟩
          unfold iH at h
          refine ATodo.bU<|tR<|ARun.qv (bh J J) J<|rM J J<|rN<|ATodo.stop<|?_
          cases h
          exact Qb _ _ J<|ImpX.lq [0,0] J J J
       ·refine ATodo.exit J<|have h:=bz h N2;?_
        unfold lJ at h
        refine tS<|ax<|rM J J<|rN<|cB h J (fun h=>?_) (fun h=>?_)
        ·refine ax<|rA J J<|rN<|ATodo.ret<|?_
         cases h
         exact hH J [0,0] J ⟨J,J⟩
        ·refine tK<|ax<|rA J J<|rN<|ATodo.ret<|?_
         cases h
         exact hH J [0,0] J ⟨J,J⟩
theorem lx [GI:bc] {aa:ae} {ah:ae} {r:Bool} (h:cV aa ah=some r):Pu Tryz.prog 313 [.str aa,.str ah] (.bool r):=by
 unfold cV at h
 refine ACall.aQ Tryz.func313 J Tryz.ntmps313 Tryz.results313 J J ?_
 refine ax<|rA J J<|rN<|tS<|ATodo.cut (fun aB=>∃ (c1:Bool),de c1=some r∧aB=⟨21,[(4,.bool c1)],[]⟩) ?_ ?_
 ·refine tR<|rM J J<|ARun.qv (eR J) J<|rM J J<|ARun.qv (eR J) J<|ARun.qv (uu J J) J<|rM J J<|gT h J J J (fun h=>?_) (fun h=>?_)
  ·exact rM J J<|rY J J J<|rM J J<|rY J J J<|ARun.qv (eR J) J<|rY J J J<|rM J J<|rY J J J<|ARun.qv (eR J) J<|rY J J J<|ARun.qv (gq J J) J<|rY J J J<|aq h fun l2 e1 h=>ARun.qv (vP J (.some _ _ _ J) .none J J e1) J<|rY J J J<|rM J J<|rY J J J<|ARun.qv (fS J J) J<|rT J J J<|rA J J<|rN<|ATodo.stop<|ImpX.lq [] ⟨decide (l2=ah),h,J⟩ J J
  ·exact rG J J J J<|rG J J J J<|rG J J J J<|rG J J J J<|rG J J J J<|rG J J J J<|rG J J J J<|rG J J J J<|rE J J J<|rA J J<|rN<|ATodo.stop<|ImpX.lq [] ⟨false,h,J⟩ J J
 ·rintro aB ⟨c1,h,rfl⟩
  unfold de at h
  refine ATodo.ret<|?_
  cases h
  exact hP J J
theorem se [GI:bc] {aa:ae} {ah:ae} {r:ae×Bool} (h:fy aa ah=some r):Pu Tryz.prog 299 [.str aa,.str ah] (.pj [.str r.1,.bool r.2]):=by
 unfold fy at h
 refine ACall.aQ Tryz.func299 J Tryz.ntmps299 Tryz.results299 J J ?_
 refine ax<|rA J J<|rA J J<|rN<|tS<|ax<|rM J J<|rM J J<|aq h fun v1 e1 h=>aA J (lx e1) cR J<|ARun.qv (bt J) J<|rN<|cB h J (fun h=>?_) (fun h=>?_)
 ·refine ax<|rM J J<|rA J J<|rA J J<|rN<|ATodo.ret<|?_
  cases h
  exact hQ J J J
 ·refine tK<|ax<|rM J J<|rM J J<|ARun.qv (eR J) J<|rM J J<|ARun.qv (eR J) J<|ARun.qv (gq J J) J<|aq h fun l2 e2 h=>ARun.qv (vP J .none (.some _ _ _ J) J J e2) J<|rA J J<|rA J J<|rN<|ATodo.ret<|?_
  cases h
  exact hQ J J J
theorem lY [GI:bc] {aa:ae} {ah:ae} {r:ae×Bool} (h:strings_CutSuffix aa ah=some r):Pu Tryz.prog 238 [.str aa,.str ah] (.pj [.str r.1,.bool r.2]):=by
 unfold strings_CutSuffix at h
 refine ACall.aQ Tryz.func238 J Tryz.ntmps238 Tryz.results238 J J ?_
 refine ax<|rA J J<|rA J J<|rN<|ax<|rM J J<|rM J J<|aq h fun v1 e1 h=>aA J (se e1) cR J<|rX J J J<|rX J J J<|rA J J<|rA J J<|rN<|ATodo.ret<|?_
 cases h
 exact hQ J J J
theorem wA {aa:ae} {ah:Int} {r:Bool} (h:mH aa ah=some r):Pu Tryz.prog 141 [.str aa,I ah] (.bool r):=by
 unfold mH at h
 refine ACall.aQ Tryz.func141 J Tryz.ntmps141 Tryz.results141 J J ?_
 refine ax<|rA J J<|rN<|tS<|ax<|rA J J<|rN<|ATodo.block<|ATodo.bT (fun x:ae×Int=>iU ah x.1 x.2) (fun x aB=>aB=⟨26,[(0,.str x.1),(1,I ah),(5,I x.2)],[]⟩) h ?_ ?_
 ·exact ImpX.lq [] J J J
 ·intro x z1 aB J1 dB h ic dm
  obtain ⟨q3,n4⟩:=x
  obtain rfl:=dB
  replace h:iU ah q3 n4=some z1:=h
  unfold iU at h
  refine tS<|ax<|rM J J<|rM J J<|ARun.qv (bu J J) J<|rN<|cD h J (fun h=>?_) (fun h=>?_)
  ·refine tK<|tS<|ATodo.block<|ax<|rM J J<|aq h fun v5 e1 h=>aA J (FN e1) cR J<|rM J J<|rX J J J<|rX J J J<|rX J J J<|rA J J<|rA J J<|rA J J<|rN<|tS<|ax<|rM J J<|aq h fun v6 e2 h=>aA J (gU e2) cR J<|ARun.qv (bt J) J<|rN<|cB h J (fun h=>?_) (fun h=>?_)
   ·refine ax<|rA J J<|rN<|ATodo.ret<|have h:=bz h dm;?_
    cases h
    exact hP J J
   ·refine tK<|tS<|ax<|rM J J<|ARun.qv (bt J) J<|rN<|cB h J (fun h=>?_) (fun h=>?_)
    ·refine ax<|rA J J<|rN<|ATodo.ret<|have h:=bz h dm;?_
     cases h
     exact hP J J
    ·refine tK<|tR<|rM J J<|rA J J<|rN<|ATodo.bU<|tR<|rM J J<|ARun.qv (bh J J) J<|rA J J<|rN<|ATodo.stop<|?_
     cases h
     exact ic _ _ J<|ImpX.lq [] J J J
  ·refine ATodo.exit J<|have h:=bz h dm;ax<|rA J J<|rN<|ATodo.ret<|?_
   cases h
   exact hP J J
theorem iE {aa:ae} {r:Bool} (h:fm aa=some r):Pu Tryz.prog 61 [.str aa] (.bool r):=by
 unfold fm at h
 refine ACall.aQ Tryz.func61 J Tryz.ntmps61 Tryz.results61 J J ?_
 refine ax<|rA J J<|rN<|ax<|rM J J<|aq h fun v1 e1 h=>aA J (wA e1) cR J<|rA J J<|rN<|ATodo.ret<|?_
 cases h
 exact hP J J
theorem yM {aa:ae} {r:Bool} (h:o5 aa=some r):Pu Tryz.prog 171 [.str aa] (.bool r):=by
 unfold o5 at h
 refine ACall.aQ Tryz.func171 J Tryz.ntmps171 Tryz.results171 J J ?_
 refine ax<|rA J J<|rN<|ax<|rM J J<|aq h fun v1 e1 h=>aA J (lY e1) cR J<|rM J J<|rX J J J<|rX J J J<|rA J J<|rA J J<|rN<|tS<|ATodo.block<|ax<|rM J J<|ARun.qv (bt J) J<|rA J J<|rN<|cB h J (fun h=>?_) (fun h=>?_)
 ·refine ax<|rM J J<|aq h fun v2 e2 h=>aA J (iE e2) cR J<|rA J J<|rN<|ATodo.ret<|?_
  cases h
  exact hP J J
 ·refine ax<|rM J J<|ARun.qv (fS J J) J<|rA J J<|rN<|cD h J (fun h=>?_) (fun h=>?_)
  ·refine ax<|rA J J<|rN<|ATodo.ret<|?_
   cases h
   exact hP J J
  ·refine tK<|ATodo.bU<|ax<|rM J J<|aq h fun v3 e3 h=>aA J (lY e3) cR J<|rM J J<|rX J J J<|rX J J J<|rA J J<|rA J J<|rN<|tS<|ATodo.cut (fun aB=>∃ (c4:Bool),nj c4=some r∧aB=⟨29,[(2,.bool c4)],[]⟩) ?_ ?_
   ·refine tR<|rM J J<|rM J J<|ARun.guard J J J (fun hc=>?_) (fun hc=>?_)
    ·exact have h:=gr hc h;rM J J<|rY J J J<|aq h fun v5 e4 h=>aA J (wA e4) cR J<|rT J J J<|rA J J<|rN<|ATodo.stop<|ImpX.lq [] ⟨v5,h,J⟩ J J
    ·exact have h:=gw hc h;rG J J J J<|rE J J J<|rA J J<|rN<|ATodo.stop<|ImpX.lq [] ⟨false,h,J⟩ J J
   ·rintro aB ⟨c4,h,rfl⟩
    unfold nj at h
    refine ATodo.ret<|?_
    cases h
    exact hP J J
theorem vq {aa:List ae} {r:Int} (h:jN aa=some r):Pu Tryz.prog 213 [ph aa] (I r):=by
 unfold jN at h
 refine ACall.aQ Tryz.func213 J Tryz.ntmps213 Tryz.results213 J J ?_
 refine ax<|rA J J<|rN<|tS<|ATodo.block<|ax<|rM J J<|ARun.qv (bD J) J<|ARun.qv (bS J J) J<|rA J J<|rN<|cD h J (fun h=>?_) (fun h=>?_)
 ·refine ax<|rA J J<|rN<|ATodo.ret<|?_
  cases h
  exact hP J J
 ·refine ax<|rM J J<|ARun.qv (bD J) J<|ARun.qv (dJ J J) J<|rA J J<|rN<|cD h J (fun h=>?_) (fun h=>?_)
  ·refine ax<|rA J J<|rN<|ATodo.ret<|?_
   cases h
   exact hP J J
  ·refine tK<|ATodo.bU<|tS<|ax<|rM J J<|ARun.qv (bD J) J<|rM J J<|rN<|ATodo.block<|ATodo.bT (fun x:Int=>gX aa x) (fun x aB=>aB=⟨35,[(0,ph aa),(13,ph aa),(14,I (aa.length:Int)),(15,I x)],[]⟩) h ?_ ?_
   ·exact ImpX.lq [] J J J
   ·intro n2 z1 aB J1 dB h ic dm
    obtain rfl:=dB
    replace h:gX aa n2=some z1:=h
    unfold gX at h
    refine ax<|ARun.qv (bu J J) J<|rN<|tS<|cD h J (fun h=>?_) (fun h=>?_)
    ·refine tK<|tS<|ATodo.block<|ax<|rM J J<|aq h fun v3 e1 h=>ARun.qv (aP J J J e1 J J) J<|ARun.qv (aG J J J) J<|rA J J<|rA J J<|rN<|tS<|ax<|rM J J<|aq h fun v4 e2 h=>aA J (yM e2) cR J<|ARun.qv (bt J) J<|rN<|cB h J (fun h=>?_) (fun h=>?_)
     ·refine ax<|rA J J<|rN<|ATodo.ret<|have h:=bz h dm;?_
      cases h
      exact hP J J
     ·refine tK<|tS<|ATodo.cut (fun aB=>∃ (c5:Bool),jt n2 c5=some z1∧aB=⟨35,[(0,ph aa),(13,ph aa),(14,I (aa.length:Int)),(15,I n2),(33,.bool c5)],[]⟩) ?_ ?_
      ·refine tR<|rM J J<|ARun.qv (dJ J J) J<|rM J J<|gT h J J J (fun h=>?_) (fun h=>?_)
       ·exact rM J J<|rY J J J<|rM J J<|rY J J J<|rM J J<|rY J J J<|ARun.qv (gq J J) J<|rY J J J<|aq h fun v6 e3 h=>ARun.qv (aP J J J e3 J J) J<|rY J J J<|ARun.qv (aG J J J) J<|rY J J J<|ARun.qv (rk J J) J<|rT J J J<|rN<|ATodo.stop<|ImpX.lq [] ⟨Op.bytesLess v3 v6||v3==v6,h,J⟩ J J
       ·exact rG J J J J<|rG J J J J<|rG J J J J<|rG J J J J<|rG J J J J<|rG J J J J<|rE J J J<|rN<|ATodo.stop<|ImpX.lq [] ⟨false,h,J⟩ J J
      ·rintro aB ⟨c5,h,rfl⟩
       unfold jt at h
       refine cB h J (fun h=>?_) (fun h=>?_)
       ·refine ax<|rA J J<|rN<|ATodo.ret<|have h:=bz h dm;?_
        cases h
        exact hP J J
       ·refine tK<|ATodo.bU<|tR<|ARun.qv (bh J J) J<|rM J J<|rN<|ATodo.stop<|?_
        cases h
        exact ic _ _ J<|ImpX.lq [] J J J
    ·refine ATodo.exit J<|have h:=bz h dm;ax<|rA J J<|rN<|ATodo.ret<|?_
     cases h
     exact hP J J
theorem wB {bd:Bk} {bB:Bk} {bY:Bk} {cm:Bk} {cq:Bk} {dj:Bk} {aa:ak} {r:Int} (h:gC aa=some r):ACall Tryz.prog 138 [.ptr bd 0] [(bd,.cells (sq aa bB bY cm cq dj))] (T0 ([(bd,.cells (sq aa bB bY cm cq dj))]) (I r)):=by
 unfold gC at h
 refine ACall.dN ?_
 refine ACall.aQ Tryz.func138 J Tryz.ntmps138 Tryz.results138 J J ?_
 refine ax<|rA J J<|rN<|tS<|ax<|rM J J<|ARun.qv (aV J) J<|rF J J J<|rF J J J<|rL J J .p0 J J<|ARun.qv (bD J) J<|ARun.qv (dJ J J) J<|rN<|cD h J (fun h=>?_) (fun h=>?_)
 ·refine ax<|rA J J<|rN<|ATodo.ret<|?_
  cases h
  exact hH J [0] J ⟨J,J⟩
 ·refine tK<|tS<|ax<|rM J J<|ARun.qv (aV J) J<|rF J J J<|rF J J J<|rL J J .p0 J J<|ARun.qv (bD J) J<|rM J J<|rN<|ATodo.block<|ATodo.bT (fun x:Int=>cI aa x) (fun x aB=>aB=⟨52,[(0,.ptr bd 0),(17,By aa.bb.bj),(18,I (aa.bb.bj.length:Int)),(19,I x)],[(bd,.cells (sq aa bB bY cm cq dj))]⟩) h ?_ ?_
  ·exact ImpX.lq [0] J J J
  ·intro n2 z1 aB J1 dB h ic dm
   obtain rfl:=dB
   replace h:cI aa n2=some z1:=h
   unfold cI at h
   refine ax<|ARun.qv (bu J J) J<|rN<|tS<|cD h J (fun h=>?_) (fun h=>?_)
   ·refine tK<|tS<|ATodo.block<|ax<|rM J J<|aq h fun v3 e1 h=>ARun.qv (aP J J J e1 J J) J<|ARun.qv (aH J J J) J<|bn J J J J fun b4=>rA J J<|au J J J J .p0 J J<|rN<|tS<|ax<|rF J J J<|rL J J .p0 J J<|aq h fun v5 e2 h=>aA J (gU e2) cR J<|ARun.qv (bt J) J<|rN<|cB h J (fun h=>?_) (fun h=>?_)
    ·refine ax<|rA J J<|rN<|ATodo.ret<|have h:=bz h dm;?_
     cases h
     exact hH J [1] J ⟨J,J⟩
    ·refine tK<|tS<|tS<|ATodo.cut (fun aB=>∃ (c6:Bool),dS n2 v3 c6=some z1∧aB=⟨52,[(0,.ptr bd 0),(4,.ptr b4 0),(17,By aa.bb.bj),(18,I (aa.bb.bj.length:Int)),(19,I n2),(44,.bool c6)],[(bd,.cells (sq aa bB bY cm cq dj)),(b4,.cells [.str v3.Key,ph v3.lI])]⟩) ?_ ?_
     ·refine ATodo.ck (id:=8) (A:=[0,1,3,7,15,7,39,103,231,487,7,1031,4071,8167,16359,32767,65535]) 17 mixed J (by kernel_rfl) (by kernel_rfl)<|AM.qv (aL J) J<|AM.qv (dJ J J) J<|AM.qv (aL J) J<|AM.cA J J J (fun hc=>?_) (fun hc=>?_)
      ·exact have h:=gr hc h;AM.qv (an J J) J<|AM.aj J J J<|AM.qv (az J J .p0 J) J<|AM.aj J J J<|AM.qv (aL J) J<|AM.aj J J J<|AM.qv (aV J) J<|AM.aj J J J<|AM.qv (an J J) J<|AM.aj J J J<|AM.qv (an J J) J<|AM.aj J J J<|AM.qv (az J J .p1 J) J<|AM.aj J J J<|AM.qv (aL J) J<|AM.aj J J J<|AM.qv (gq J J) J<|AM.aj J J J<|aq h fun v7 e3 h=>AM.qv (aP J J J e3 J J) J<|AM.aj J J J<|AM.qv (bJ J J) J<|AM.aj J J J<|AM.qv (aG J J J) J<|AM.aj J J J<|AM.qv (rk J J) J<|AM.qv (cJ J J) J<|AM.nil<|rN<|ATodo.stop<|ImpX.lq [1,0] ⟨Op.bytesLess v3.Key v7.Key||v3.Key==v7.Key,h,J⟩ J J
      ·exact have h:=wq hc h;AM.ai J J J J<|AM.ai J J J J<|AM.ai J J J J<|AM.ai J J J J<|AM.ai J J J J<|AM.ai J J J J<|AM.ai J J J J<|AM.ai J J J J<|AM.ai J J J J<|AM.ai J J J J<|AM.ai J J J J<|AM.ai J J J J<|AM.qv (eD J J) J<|AM.nil<|rN<|ATodo.stop<|ImpX.lq [1,0] ⟨false,h,J⟩ J J
     ·rintro aB ⟨c6,h,rfl⟩
      unfold dS at h
      refine cB h J (fun h=>?_) (fun h=>?_)
      ·refine ax<|rA J J<|rN<|ATodo.ret<|have h:=bz h dm;?_
       cases h
       exact hH J [0] J ⟨J,J⟩
      ·refine tK<|ax<|rF J J J<|rL J J .p1 J J<|aq h fun v8 e4 h=>aA J (vq e4) cR J<|rA J J<|rN<|ax<|rM J J<|ARun.qv (du J J) J<|rN<|cD h J (fun h=>?_) (fun h=>?_)
       ·refine ax<|rM J J<|rA J J<|rN<|ATodo.ret<|have h:=bz h dm;?_
        cases h
        exact hH J [0] J ⟨J,J⟩
       ·refine tK<|ATodo.bU<|tR<|ARun.qv (bh J J) J<|rM J J<|rN<|ATodo.stop<|?_
        cases h
        exact ic _ _ J<|ImpX.lq [0] J J J
   ·refine ATodo.exit J<|have h:=bz h dm;ax<|rA J J<|rN<|ATodo.ret<|?_
    cases h
    exact hH J [0] J ⟨J,J⟩
theorem mT [GI:bc] {aa:List Int} {r:Int} (h:gD aa=some r):Pu Tryz.prog 56 [cz aa] (I r):=by
 unfold gD at h
 refine ACall.aQ Tryz.func56 J Tryz.ntmps56 Tryz.results56 J J ?_
 refine ax<|rA J J<|rN<|ax<|rA J J<|rN<|tS<|ax<|rM J J<|ARun.qv (bD J) J<|rM J J<|rN<|ATodo.block<|ATodo.bT (fun x:Int=>th aa x) (fun x aB=>aB=⟨18,[(3,I (0:Int)),(6,cz aa),(7,I (aa.length:Int)),(8,I x)],[]⟩) h ?_ ?_
 ·exact ImpX.lq [] J J J
 ·intro n2 z1 aB J1 dB h ic dm
  obtain rfl:=dB
  replace h:th aa n2=some z1:=h
  unfold th at h
  refine ax<|ARun.qv (bu J J) J<|rN<|tS<|cD h J (fun h=>?_) (fun h=>?_)
  ·refine tK<|tS<|ATodo.block<|ax<|aq h fun v3 e1 h=>ARun.qv (aP J J J e1 J J) J<|ARun.qv (aG J J J) J<|rA J J<|rN<|ax<|rM J J<|rM J J<|ARun.qv (du J J) J<|rN<|cD h J (fun h=>?_) (fun h=>?_)
   ·refine ax<|rM J J<|rA J J<|rN<|ATodo.ret<|have h:=bz h dm;?_
    cases h
    exact hP J J
   ·refine tK<|ATodo.bU<|tR<|ARun.qv (bh J J) J<|rM J J<|rN<|ATodo.stop<|?_
    cases h
    exact ic _ _ J<|ImpX.lq [] J J J
  ·refine ATodo.exit J<|have h:=bz h dm;ax<|rM J J<|rA J J<|rN<|ATodo.ret<|?_
   cases h
   exact hP J J
theorem BB [GI:bc] {aa:aK} {ah:aK} {r:Int} (h:nk aa ah=some r):Pu Tryz.prog 214 [aK.av aa,aK.av ah] (I r):=by
 unfold nk at h
 refine ACall.aQ Tryz.func214 J Tryz.ntmps214 Tryz.results214 J J ?_
 refine ax<|bO J J J J fun b1=>bO J J J J fun b2=>rA J J<|rN<|tS<|ATodo.ck (id:=1) (A:=[0,1,0,4,15,0,32,0,128,511,0,1024,0,4096,16383,32767,65535,131071]) 18 mixed J (by kernel_rfl) (by kernel_rfl)<|AM.qv (an J J) J<|AM.qv (az J J .p1 J) J<|AM.qv (an J J) J<|AM.qv (az J J .p0 J) J<|AM.dv J (eF J) cR J<|AM.qv (an J J) J<|AM.qv (az J J .p1 J) J<|AM.qv (an J J) J<|AM.qv (az J J .p0 J) J<|AM.dv J (eF J) cR J<|AM.qv (an J J) J<|AM.qv (az J J .p1 J) J<|AM.qv (an J J) J<|AM.qv (az J J .p0 J) J<|AM.dv J (eF J) cR J<|AM.aY (xs:=([(Lib.compareBytes aa.lV ah.lV),(Lib.compareBytes aa.ar ah.ar),(Lib.compareBytes aa.bN ah.bN)]:List Int).map I) J J J J J J<|aq h fun v3 e1 h=>AM.dv J (mT e1) cR J<|AM.qv (bM J) J<|AM.nil<|rN<|ATodo.ret<|?_
 cases h
 exact hP J J
theorem vr [GI:bc] {bd:Bk} {bB:Bk} {bY:Bk} {cm:Bk} {cq:Bk} {dj:Bk} {aa:ak} {r:Int} (h:ep aa=some r):ACall Tryz.prog 139 [.ptr bd 0] [(bd,.cells (sq aa bB bY cm cq dj)),(bB,eU aa.aW),(bY,nA aa.cT)] (T0 ([(bd,.cells (sq aa bB bY cm cq dj)),(bB,eU aa.aW),(bY,nA aa.cT)]) (I r)):=by
 unfold ep at h
 refine ACall.dN ?_
 refine ACall.aQ Tryz.func139 J Tryz.ntmps139 Tryz.results139 J J ?_
 refine ax<|rA J J<|rN<|tS<|ax<|rM J J<|ARun.qv (aV J) J<|rF J J J<|rF J J J<|rL J J .p0 J J<|ARun.qv (bD J) J<|ARun.qv (dJ J J) J<|rN<|cD h J (fun h=>?_) (fun h=>?_)
 ·refine ax<|rA J J<|rN<|ATodo.ret<|?_
  cases h
  exact hH J [0,0,0] J ⟨J,J⟩
 ·refine tK<|tS<|ax<|rM J J<|ARun.qv (aV J) J<|rF J J J<|rF J J J<|rL J J .p0 J J<|ARun.qv (bD J) J<|rM J J<|rN<|ATodo.block<|ATodo.bT (fun x:Int=>eI aa x) (fun x aB=>aB=⟨68,[(0,.ptr bd 0),(18,zK aa.bb.aD),(19,I (aa.bb.aD.length:Int)),(20,I x)],[(bd,.cells (sq aa bB bY cm cq dj)),(bB,eU aa.aW),(bY,nA aa.cT)]⟩) h ?_ ?_
  ·exact ImpX.lq [0,0,0] J J J
  ·intro n2 z1 aB J1 dB h ic dm
   obtain rfl:=dB
   replace h:eI aa n2=some z1:=h
   unfold eI at h
   refine ax<|ARun.qv (bu J J) J<|rN<|tS<|cD h J (fun h=>?_) (fun h=>?_)
   ·refine tK<|tS<|ATodo.block<|ax<|rM J J<|aq h fun v3 e1 h=>ARun.qv (aP J J J e1 J J) J<|ARun.qv (aH J J J) J<|bn J J J J fun b4=>rA J J<|au J J J J .p0 J J<|rN<|tS<|ATodo.ck (id:=6) (A:=[0,1,3,7,0,16,63,127,255,255,511,2047]) 12 mixed J (by kernel_rfl) (by kernel_rfl)<|AM.qv (aL J) J<|AM.qv (aV J) J<|AM.qv (an J J) J<|AM.qv (az J J .p1 J) J<|AM.qv (an J J) J<|AM.qv (az J J .p0 J) J<|aq h fun v5 e2 h=>AM.qv (EC (gk:=AV.str) (gv:=(Ba 1 AV.str)) (M:=aa.cT) (key:=v3.bN) (Z:=[]) J J .p3 J J e2 J) J<|AM.qv (aL J) J<|AM.qv (Ce J J) J<|AM.qv (Ce J J) J<|AM.qv (bM J) J<|AM.qv (bM J) J<|AM.nil<|rN<|ATodo.block<|ax<|rF J J J<|rL J J .p0 J J<|aq h fun v6 e3 h=>aA J (gU e3) cR J<|ARun.qv (bt J) J<|rA J J<|rN<|cB h J (fun h=>?_) (fun h=>?_)
    ·refine ax<|rA J J<|rN<|ATodo.ret<|have h:=bz h dm;?_
     cases h
     exact hH J [1,1,1] J ⟨J,J⟩
    ·refine tS<|ATodo.cut (fun aB=>∃ (c7:Bool),cx aa n2 v3 c7=some z1∧aB=⟨68,[(0,.ptr bd 0),(3,I n2),(4,.ptr b4 0),(18,zK aa.bb.aD),(19,I (aa.bb.aD.length:Int)),(20,I n2),(40,.bool c7)],[(bd,.cells (sq aa bB bY cm cq dj)),(bB,eU aa.aW),(bY,nA aa.cT),(b4,.cells [.str v3.lV,.str v3.ar,.str v3.bN])]⟩) ?_ ?_
     ·refine tR<|rM J J<|rF J J J<|rL J J .p0 J J<|aq h fun v8 e4 h=>aJ J (iD e4) cR (.cons .p1 (.cons .p1 .nil)) J J<|ARun.qv (bt J) J<|rM J J<|ARun.guard J J J (fun hc=>?_) (fun hc=>?_)
      ·rw [FJ hc] at h
       exact rM J J<|rY J J J<|ARun.qv (bt J) J<|rE J J J<|rA J J<|rN<|ATodo.stop<|ImpX.lq [0,0,1,0] ⟨!v5.2,h,J⟩ J J
      ·rw [FI hc] at h
       exact rG J J J J<|rT J J J<|rA J J<|rN<|ATodo.stop<|ImpX.lq [0,0,1,0] ⟨true,h,J⟩ J J
     ·rintro aB ⟨c7,h,rfl⟩
      unfold cx at h
      refine cB h J (fun h=>?_) (fun h=>?_)
      ·refine ax<|rA J J<|rN<|ATodo.ret<|have h:=bz h dm;?_
       cases h
       exact hH J [0,0,0] J ⟨J,J⟩
      ·refine tS<|ATodo.cut (fun aB=>∃ (c9:Bool),cw n2 c9=some z1∧aB=⟨68,[(0,.ptr bd 0),(18,zK aa.bb.aD),(19,I (aa.bb.aD.length:Int)),(20,I n2),(50,.bool c9)],[(bd,.cells (sq aa bB bY cm cq dj)),(bB,eU aa.aW),(bY,nA aa.cT)]⟩) ?_ ?_
       ·refine ATodo.ck (id:=11) (A:=[0,1,3,7,7,23,55,119,247,7,519,2039,4087,8191,16383,32767,65535]) 17 mixed J (by kernel_rfl) (by kernel_rfl)<|AM.qv (aL J) J<|AM.qv (dJ J J) J<|AM.qv (aL J) J<|AM.cA J J J (fun hc=>?_) (fun hc=>?_)
        ·exact have h:=gr hc h;AM.qv (ao J J .p3 J) J<|AM.aj J J J<|AM.qv (aL J) J<|AM.aj J J J<|AM.qv (aV J) J<|AM.aj J J J<|AM.qv (an J J) J<|AM.aj J J J<|AM.qv (an J J) J<|AM.aj J J J<|AM.qv (az J J .p0 J) J<|AM.aj J J J<|AM.qv (aL J) J<|AM.aj J J J<|AM.qv (gq J J) J<|AM.aj J J J<|aq h fun v10 e5 h=>AM.qv (aP J J J e5 J J) J<|AM.aj J J J<|AM.qv (aH J J J) J<|AM.aj J J J<|aq h fun v11 e6 h=>AM.dv J (BB e6) cR J<|AM.aj J J J<|AM.qv (sA J J) J<|AM.qv (cJ J J) J<|AM.qv (bM J) J<|AM.nil<|rN<|ATodo.stop<|ImpX.lq [0,0,0] ⟨decide (v11≤(0:Int)),h,J⟩ J J
        ·exact have h:=wq hc h;AM.ai J J J J<|AM.ai J J J J<|AM.ai J J J J<|AM.ai J J J J<|AM.ai J J J J<|AM.ai J J J J<|AM.ai J J J J<|AM.ai J J J J<|AM.ai J J J J<|AM.ai J J J J<|AM.ai J J J J<|AM.qv (eD J J) J<|AM.qv (bM J) J<|AM.nil<|rN<|ATodo.stop<|ImpX.lq [0,0,0] ⟨false,h,J⟩ J J
       ·rintro aB ⟨c9,h,rfl⟩
        unfold cw at h
        refine cB h J (fun h=>?_) (fun h=>?_)
        ·refine ax<|rA J J<|rN<|ATodo.ret<|have h:=bz h dm;?_
         cases h
         exact hH J [0,0,0] J ⟨J,J⟩
        ·refine tK<|ATodo.bU<|ATodo.bU<|tR<|ARun.qv (bh J J) J<|rM J J<|rN<|ATodo.stop<|?_
         cases h
         exact ic _ _ J<|ImpX.lq [0,0,0] J J J
   ·refine ATodo.exit J<|have h:=bz h dm;ax<|rA J J<|rN<|ATodo.ret<|?_
    cases h
    exact hH J [0,0,0] J ⟨J,J⟩
end Go.Proofs.YtnchkajkgjkpmaaGreatDoor
