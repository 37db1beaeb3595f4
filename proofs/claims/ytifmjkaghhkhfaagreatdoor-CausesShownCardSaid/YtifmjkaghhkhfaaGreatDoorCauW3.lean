/- The code computes the plain functions: proofs written by shal.py. -/
import Derived.Test.YtifmjkaghhkhfaaGreatDoorCauW2
set_option maxHeartbeats 4000000
set_option maxRecDepth 100000
set_option linter.unusedVariables false
set_option linter.unusedSimpArgs false
namespace Go.Proofs.YtifmjkaghhkhfaaGreatDoor
open Go Go.Eng Go.Proofs Go.Beacon
attribute [local irreducible] ah ae AQ QV aG aj M1 AM
theorem Fh [GI:bA] {aa:bd} {ai:List Signal} {aq:aS} {aT:aS} {Mg:Int} {r:Bool} (h:wE aa ai aq aT Mg=some r):Pu Tryz.prog 174 [bd.av aa,nw ai,.str aq,.str aT,I Mg] (.bool r):=by
 unfold wE at h
 refine aG.bw Tryz.func174 J Tryz.ntmps174 Tryz.results174 J J ?_
 refine aI<|dC J J J J fun b1=>dC J J J J fun b2=>rA J J<|rN<|aI<|rF J J J<|ah.qv (oe J J .p1 J J) J<|rM J J<|rM J J<|rM J J<|aA h fun v3 e1 h=>ik J (Cj e1) cR .nil (fun _=>J) J fun b4=>ah.qv (ow J) J<|aA h fun v5 e2 h=>gi J (jq (fun e=>Bx (Option.some.inj e)) e2) (.cons (nJ.qR .p0) (.cons (.AO _ _ _ (.cons (.B4 _ _ _ .p1 (.cons (.co (.refl _)) .nil)) .nil)) .nil)) J J<|rA J J<|rN<|ae.ret<|?_
 cases h
 exact hP J J
theorem Ck [GI:bA] {aa:aH} {ai:bd} {aq:List Signal} {aT:Int} {r:Bool} (h:oK aa ai aq aT=some r):Pu Tryz.prog 173 [aH.av aa,.gg [I ai.bW.kM,I ai.bW.ao,I ai.bW.Calm,Gh ai.Links,Mi ai.aW],.gg [nw aq],.gg [I aT]] (.bool r):=by
 unfold oK at h
 refine aG.bw Tryz.func173 J Tryz.ntmps173 Tryz.results173 J J ?_
 refine aI<|dC J J J J fun b1=>rA J J<|rN<|tS<|ae.cut (fun aC=>∃ (c2:Bool),ll c2=some r∧aC=⟨24,[(5,.bool c2)],[]⟩) ?_ ?_
 ·refine tR<|rF J J J<|rL J J .p0 J J<|ah.qv (cH J J) J<|rM J J<|gF h J J J (fun h=>?_) (fun h=>?_)
  ·refine rF J J J<|rY J J J<|rL J J .p0 J J<|rY J J J<|ah.qv (gR J J) J<|rE J J J<|rM J J<|gF h J J J (fun h=>?_) (fun h=>?_)
   ·exact ah.qv (bn J J J) J<|rY J J J<|ah.qv (aU J J J) J<|rY J J J<|rF J J J<|rY J J J<|rL J J .p0 J J<|rY J J J<|rF J J J<|rY J J J<|rL J J .p0 J J<|rY J J J<|ah.qv (aU J J J) J<|rY J J J<|aA h fun v3 e1 h=>bc J (Fh e1) cR J<|rE J J J<|rA J J<|rN<|ae.stop<|aj.lq [] ⟨v3,h,J⟩ J J
   ·exact rG J J J J<|rG J J J J<|rG J J J J<|rG J J J J<|rG J J J J<|rG J J J J<|rG J J J J<|rT J J J<|rA J J<|rN<|ae.stop<|aj.lq [] ⟨true,h,J⟩ J J
  ·exact rG J J J J<|rG J J J J<|rT J J J<|rM J J<|rG J J J J<|rG J J J J<|rG J J J J<|rG J J J J<|rG J J J J<|rG J J J J<|rG J J J J<|rG J J J J<|rT J J J<|rA J J<|rN<|ae.stop<|aj.lq [] ⟨true,h,J⟩ J J
 ·rintro aC ⟨c2,h,rfl⟩
  unfold ll at h
  refine ae.ret<|?_
  cases h
  exact hP J J
theorem lr [GI:bA] {aa:List aH} {dH:aH→Option Bool} {cu:FuncId} [bq Tryz.prog cu] {dP:List AV} (kJ:∀ {y0:_} {u:Bool},dH y0=some u→Pu Tryz.prog cu (aH.av y0 :: dP) (.bool u)) {r:Int} (h:fO aa dH=some r):Pu Tryz.prog 175 [Tw aa,.func (.func cu) dP] (I r):=by
 unfold fO at h
 refine aG.bw Tryz.func175 J Tryz.ntmps175 Tryz.results175 J J ?_
 refine aI<|rA J J<|rN<|tS<|aI<|rM J J<|ah.qv (ey J) J<|rM J J<|rN<|ae.block<|ae.bS (fun x:Int=>eC aa dH x) (fun x aC=>aC=⟨19,[(0,Tw aa),(1,.func (.func cu) dP),(7,I (aa.length:Int)),(8,I x)],[]⟩) h ?_ ?_
 ·exact aj.lq [] J J J
 ·intro n2 z1 aC J1 dL h jF fP
  obtain rfl:=dL
  replace h:eC aa dH n2=some z1:=h
  unfold eC at h
  refine aI<|ah.qv (bB J J) J<|rN<|tS<|cD h J (fun h=>?_) (fun h=>?_)
  ·refine tK<|tS<|ae.block<|aI<|rM J J<|rA J J<|rN<|aI<|rM J J<|rM J J<|rM J J<|aA h fun v3 e1 h=>ah.qv (bO J J J e1 J J) J<|ah.qv (bn J J J) J<|aA h fun v4 e2 h=>so J J (kJ e2) cR J<|rN<|cB h J (fun h=>?_) (fun h=>?_)
   ·refine aI<|rM J J<|rA J J<|rN<|ae.ret<|have h:=bP h fP;?_
    cases h
    exact hP J J
   ·refine tK<|ae.cd<|tR<|ah.qv (aV J J) J<|rM J J<|rN<|ae.stop<|?_
    cases h
    exact jF _ _ J<|aj.lq [] J J J
  ·refine ae.exit J<|have h:=bP h fP;aI<|rA J J<|rN<|ae.ret<|?_
   cases h
   exact hP J J
theorem pI [GI:bA] {aM:Bk} {aa:List aH} {dH:aH→Option Bool} {cu:FuncId} [bq Tryz.prog cu] {dP:List AV} (kJ:∀ {y0:_} {u:Bool},dH y0=some u→Pu Tryz.prog cu (aH.av y0 :: dP) (.bool u)) {r:(List aH)} (h:fA aa dH=some r):aG Tryz.prog 172 [.sl 6 aM 0 aa.length,.func (.func cu) dP] [(aM,vi aa)] (T1 (fun lV=>[(lV,vi r)]) (fun lV=>.sl 6 lV 0 r.length)):=by
 unfold fA at h
 refine aG.dD ?_
 refine aG.bw Tryz.func172 J Tryz.ntmps172 Tryz.results172 J J ?_
 refine aI<|rA J J<|rN<|aI<|rM J J<|rM J J<|aA h fun v1 e1 h=>gi J (lr kJ e1) (.cons (nJ.qR .p0) (.cons (.co (.refl _)) .nil)) J J<|rA J J<|rN<|tS<|aI<|rM J J<|ah.qv (cH J J) J<|rN<|cD h J (fun h=>?_) (fun h=>?_)
 ·refine aI<|rM J J<|rA J J<|rN<|ae.ret<|?_
  cases h
  exact hH J [0] J ⟨aM,J,J⟩
 ·refine tK<|tS<|aI<|rM J J<|ah.qv (aV J J) J<|rA J J<|rN<|ae.block<|ae.bS (fun x:(List aH)×Int×Int=>ep dH x.1 x.2.1 x.2.2) (fun x aC=>aC=⟨42,[(0,.sl 6 aM 0 x.1.length),(1,.func (.func cu) dP),(5,I x.2.1),(6,I x.2.2)],[(aM,vi x.1)]⟩) h ?_ ?_
  ·exact aj.lq [0] J J J
  ·intro x z1 aC J1 dL h jF fP
   obtain ⟨l5,n6,n7⟩:=x
   obtain rfl:=dL
   replace h:ep dH l5 n6 n7=some z1:=h
   unfold ep at h
   refine tS<|aI<|rM J J<|rM J J<|ah.qv (eR J) J<|ah.qv (bB J J) J<|rN<|cD h J (fun h=>?_) (fun h=>?_)
   ·refine tK<|tS<|ae.block<|aI<|rM J J<|rM J J<|aA h fun v8 e2 h=>ah.qv (aP J J J e2) J<|ah.qv (aR (g:=aH.av) J J (.inl .p0) J e2 J) J<|bT J J J J fun b9=>aE J J J J .p0 J J<|rN<|aI<|rM J J<|ah.qv (aL J J .p0 J) J<|aA h fun v10 e3 h=>so J J (kJ e3) cR J<|ah.qv (dB J) J<|rN<|ae.cut (fun aC=>∃ (iY:List aH) (n12:Int),eo n7 iY n12=some z1∧aC=⟨42,[(0,.sl 6 aM 0 iY.length),(1,.func (.func cu) dP),(5,I n12),(6,I n7)],[(aM,vi iY)]⟩) ?_ ?_
    ·refine cB h J (fun h=>?_) (fun h=>?_)
     ·exact aI<|rM J J<|rM J J<|ah.qv (aL J J .p0 J) J<|aA h fun gb e4 h=>ah.qv (aP J J J e4) J<|br (g:=aH.av) (uB:=v8) J J J J e4 J .p1 J<|ah.ghost<|aj.eqs (s:=0) (bZ:=.sl 6 aM 0 (l5.set n6.toNat v8).length) J (by rw [List.length_set])<|aj.here<|ah.ghost<|aj.eqs (s:=17) (bZ:=.sl 6 aM 0 (l5.set n6.toNat v8).length) J (by rw [List.length_set])<|aj.here<|ah.ghost<|aj.eqs (s:=22) (bZ:=.sl 6 aM 0 (l5.set n6.toNat v8).length) J (by rw [List.length_set])<|aj.here<|ah.ghost<|aj.eqs (s:=30) (bZ:=.sl 6 aM 0 (l5.set n6.toNat v8).length) J (by rw [List.length_set])<|aj.here<|rN<|tR<|rM J J<|ah.qv (aV J J) J<|rA J J<|rN<|ae.stop<|aj.lq [1] ⟨l5.set n6.toNat v8,aN (n6+(1:Int)),h,J⟩ J J
     ·exact tK<|ae.stop<|aj.lq [1] ⟨l5,n6,h,J⟩ J J
    ·rintro aC ⟨iY,n12,h,rfl⟩
     unfold eo at h
     refine ae.cd<|tR<|rM J J<|ah.qv (aV J J) J<|rA J J<|rN<|ae.stop<|?_
     cases h
     exact jF _ _ J<|aj.lq [0] J J J
   ·refine ae.exit J<|have h:=bP h fP;?_
    unfold kp at h
    refine aI<|rM J J<|rM J J<|aA h fun oG e5 h=>ah.qv (mL J J (.some _ _ _ J) .none J J e5) J<|Dz (g:=aH.av) (Z:=(⟨[],[],(0:Int),(0:Int),(0:Int),(0:Int)⟩:aH)) (L:=n6) J J J J J J e5 .p0<|ah.ghost<|aj.eqs (s:=0) (bZ:=.sl 6 aM 0 (Ay l5 n6 oG.length (⟨[],[],(0:Int),(0:Int),(0:Int),(0:Int)⟩:aH)).length) J (congrArg (AV.sl 6 aM 0) (tb e5))<|aj.here<|ah.ghost<|aj.eqs (s:=17) (bZ:=.sl 6 aM 0 (Ay l5 n6 oG.length (⟨[],[],(0:Int),(0:Int),(0:Int),(0:Int)⟩:aH)).length) J (congrArg (AV.sl 6 aM 0) (tb e5))<|aj.here<|ah.ghost<|aj.eqs (s:=36) (bZ:=.sl 6 aM 0 (Ay l5 n6 oG.length (⟨[],[],(0:Int),(0:Int),(0:Int),(0:Int)⟩:aH)).length) J (congrArg (AV.sl 6 aM 0) (tb e5))<|aj.here<|rN<|aI<|rM J J<|rM J J<|aA h fun oh e6 h=>ah.qv (mL J J .none (.some _ _ _ J) J J e6) J<|rA J J<|ah.ghost<|aj.Jw e6 .p0<|aj.here<|rN<|ae.ret<|?_
    cases h
    exact hH J [0] J ⟨aM,J,J⟩
theorem Bz [GI:bA] {aa:bd} {ai:List Signal} {aq:Int} {r:(List aH)} (h:qD aa ai aq=some r):aG Tryz.prog 123 [bd.av aa,nw ai,I aq] [] (T1 (fun lV=>[(lV,vi r)]) (fun lV=>.sl 6 lV 0 r.length)):=by
 unfold qD at h
 refine aG.dD ?_
 refine aG.bw Tryz.func123 J Tryz.ntmps123 Tryz.results123 J J ?_
 refine aI<|dC J J J J fun b1=>dC J J J J fun b2=>rA J J<|rN<|aI<|rM J J<|aA h fun v3 e1 h=>ik J (rb e1) cR .nil (fun _=>J) J fun b4=>ah.qv (ow J) J<|aA h fun v5 e2 h=>vB J (oS (fun e=>Ci (Option.some.inj e)) e2) (.cons .p0 .nil) (.cons (.co (.refl _)) (.cons (.AO _ _ _ (.cons (.B4 _ _ _ .p0 (.cons (.co (.refl _)) .nil)) .nil)) .nil)) (fun _=>J) (fun _=>J) (fun _=>(.cons (La.qR (fun _=>J)) .nil)) J fun b6=>bT J J J J fun b7=>aE J J J J .p0 J J<|rN<|aI<|rM J J<|rL J J .p2 J J<|aA h fun v8 e3 h=>ik J (DL e3) cR .nil (fun _=>J) J fun b9=>ah.qv (ow J) J<|aA h fun v10 e4 h=>vB J (pI (fun e=>Ck e) e4) (.cons .p0 .nil) (.cons (.co (.refl _)) (.cons (.AO _ _ _ (.cons (.B4 _ _ _ .p3 (.cons (.co (.refl _)) (.cons (.co (.refl _)) (.cons (.co (.refl _)) (.cons (.co (.refl _)) (.cons (.co (.refl _)) .nil)))))) (.cons (.B4 _ _ _ .p0 (.cons (nJ.qR .p1) .nil)) (.cons (.B4 _ _ _ .p2 (.cons (.co (.refl _)) .nil)) .nil)))) .nil)) (fun _=>J) (fun _=>J) (fun _=>(.cons (La.qR (fun _=>J)) .nil)) J fun BY=>rA J J<|rN<|ae.ret<|?_
 cases h
 exact hH J [0] J ⟨BY,J,J⟩
theorem Fi [GI:bA] {aa:aH} {r:Bool} (h:xA aa=r):Pu Tryz.prog 126 [aH.av aa] (.bool r):=by
 unfold xA at h
 refine aG.bw Tryz.func126 J Tryz.ntmps126 Tryz.results126 J J ?_
 refine aI<|dC J J J J fun b1=>rA J J<|rN<|tS<|ae.cut (fun aC=>∃ (c2:Bool),wF c2=r∧aC=⟨11,[(2,.bool c2)],[]⟩) ?_ ?_
 ·refine tR<|rF J J J<|rL J J .p0 J J<|ah.qv (cH J J) J<|rM J J<|ah.fU J J J (fun hc=>?_) (fun hc=>?_)
  ·rw [Ae hc] at h
   exact rF J J J<|rY J J J<|rL J J .p0 J J<|rY J J J<|ah.qv (cH J J) J<|rE J J J<|rA J J<|rN<|ae.stop<|aj.lq [] ⟨decide (aa.State=(2:Int)),h,J⟩ J J
  ·rw [Ad hc] at h
   exact rG J J J J<|rG J J J J<|rT J J J<|rA J J<|rN<|ae.stop<|aj.lq [] ⟨true,h,J⟩ J J
 ·rintro aC ⟨c2,h,rfl⟩
  unfold wF at h
  refine ae.ret<|?_
  obtain rfl:=h
  exact hP J J
theorem zO [GI:bA] {aa:bd} {ai:aS} {r:bC} (h:sg aa ai=some r):Pu Tryz.prog 127 [bd.av aa,.str ai] (bC.av r):=by
 unfold sg at h
 refine aG.bw Tryz.func127 J Tryz.ntmps127 Tryz.results127 J J ?_
 refine aI<|dC J J J J fun b1=>bT J J J J fun b2=>rN<|tS<|aI<|rF J J J<|rL J J .p1 J J<|ah.qv (ey J) J<|rM J J<|rN<|ae.block<|ae.bS (fun x:Int=>jj aa ai x) (fun x aC=>aC=⟨22,[(1,.str ai),(4,.ptr b2 0),(8,Mi aa.aW),(9,I (aa.aW.length:Int)),(10,I x)],[(b2,.cells [.str [],I (0:Int),.bool false])]⟩) h ?_ ?_
 ·exact aj.lq [0] J J J
 ·intro n4 z1 aC J1 dL h jF fP
  obtain rfl:=dL
  replace h:jj aa ai n4=some z1:=h
  unfold jj at h
  refine aI<|ah.qv (bB J J) J<|rN<|tS<|cD h J (fun h=>?_) (fun h=>?_)
  ·refine tK<|tS<|ae.block<|aI<|aA h fun v5 e1 h=>ah.qv (bO J J J e1 J J) J<|ah.qv (bn J J J) J<|bT J J J J fun b6=>aE J J J J .p0 J J<|rN<|aI<|rF J J J<|rL J J .p0 J J<|rM J J<|ah.qv (uX J J) J<|rN<|cD h J (fun h=>?_) (fun h=>?_)
   ·refine aI<|ah.qv (aL J J .p0 J) J<|aE J J J J .p1 J J<|rN<|ae.ret<|have h:=bP h fP;?_
    cases h
    exact aj.here ⟨_,.cons (.all _ _ _ _ _ _ J .p1 aD.h aX.h J J) .nil,J⟩
   ·refine tK<|ae.cd<|tR<|ah.qv (aV J J) J<|rM J J<|rN<|ae.stop<|?_
    cases h
    exact jF _ _ J<|aj.lq [1] J J J
  ·refine ae.exit J<|have h:=bP h fP;aI<|rM J J<|ah.qv (cF J J J J J) J<|aE J J J J .p0 J J<|rN<|ae.ret<|?_
   cases h
   exact aj.here ⟨_,.cons (.all _ _ _ _ _ _ J .p0 aD.h aX.h J J) .nil,J⟩
theorem BA [GI:bA] {aa:aH} {ai:aS} {aq:bd} {r:Bool} (h:nv aa ai aq=some r):Pu Tryz.prog 125 [aH.av aa,.gg [.str ai],.gg [I aq.bW.kM,I aq.bW.ao,I aq.bW.Calm,Gh aq.Links,Mi aq.aW]] (.bool r):=by
 unfold nv at h
 refine aG.bw Tryz.func125 J Tryz.ntmps125 Tryz.results125 J J ?_
 refine aI<|dC J J J J fun b1=>rA J J<|rN<|tS<|ae.cut (fun aC=>∃ (c2:Bool),jO c2=some r∧aC=⟨20,[(4,.bool c2)],[]⟩) ?_ ?_
 ·refine tR<|rF J J J<|rL J J .p0 J J<|ah.qv (aU J J J) J<|ah.qv (uX J J) J<|rM J J<|gT h J J J (fun h=>?_) (fun h=>?_)
  ·refine ah.qv (aL J J .p0 J) J<|rY J J J<|bc J (Fi J) cR J<|rT J J J<|rM J J<|ah.guard J J J (fun hc=>?_) (fun hc=>?_)
   ·exact have h:=rO hc h;ah.qv (bn J J J) J<|rY J J J<|rF J J J<|rY J J J<|rL J J .p0 J J<|rY J J J<|aA h fun v3 e1 h=>bc J (zO e1) cR J<|rY J J J<|ah.qv (za (ft:=4) (off:=2) ⟨_,_,Tryz.underlying188,J,J,J⟩ J J J) J<|rT J J J<|rA J J<|rN<|ae.stop<|aj.lq [] ⟨v3.o1,h,J⟩ J J
   ·exact have h:=vz hc h;rG J J J J<|rG J J J J<|rG J J J J<|rG J J J J<|rE J J J<|rA J J<|rN<|ae.stop<|aj.lq [] ⟨false,h,J⟩ J J
  ·exact rG J J J J<|rE J J J<|rM J J<|rG J J J J<|rG J J J J<|rG J J J J<|rG J J J J<|rG J J J J<|rE J J J<|rA J J<|rN<|ae.stop<|aj.lq [] ⟨false,h,J⟩ J J
 ·rintro aC ⟨c2,h,rfl⟩
  unfold jO at h
  refine ae.ret<|?_
  cases h
  exact hP J J
theorem oT [GI:bA] {aa:List aH} {dH:aH→Option Bool} {cu:FuncId} [bq Tryz.prog cu] {dP:List AV} (kJ:∀ {y0:_} {u:Bool},dH y0=some u→Pu Tryz.prog cu (aH.av y0 :: dP) (.bool u)) {r:Bool} (h:eD aa dH=some r):Pu Tryz.prog 124 [Tw aa,.func (.func cu) dP] (.bool r):=by
 unfold eD at h
 refine aG.bw Tryz.func124 J Tryz.ntmps124 Tryz.results124 J J ?_
 refine aI<|rA J J<|rN<|aI<|rM J J<|rM J J<|aA h fun v1 e1 h=>gi J (lr kJ e1) (.cons (.co (.refl _)) (.cons (.co (.refl _)) .nil)) J J<|ah.qv (sn J J) J<|rA J J<|rN<|ae.ret<|?_
 cases h
 exact hP J J
theorem vX [GI:bA] {aa:bd} {ai:List Signal} {aq:aS} {aT:Int} {r:aS} (h:pW aa ai aq aT=some r):Pu Tryz.prog 57 [bd.av aa,nw ai,.str aq,I aT] (.str r):=by
 unfold pW at h
 refine aG.bw Tryz.func57 J Tryz.ntmps57 Tryz.results57 J J ?_
 refine aI<|dC J J J J fun b1=>rA J J<|rN<|aI<|ah.qv (aL J J .p0 J) J<|rM J J<|rM J J<|aA h fun v2 e1 h=>ik J (Bz e1) cR .nil (fun _=>J) J fun b3=>rA J J<|rN<|tS<|aI<|ah.qv (aL J J .p1 J) J<|rM J J<|aA h fun v4 e2 h=>ik J (zi e2) cR .nil (fun _=>J) J fun b5=>ah.qv (eR J) J<|rM J J<|rN<|ae.block<|ae.bS (fun x:Int=>jk aa v2 v4 x) (fun x aC=>aC=⟨29,[(4,.ptr b1 0),(9,.sl 6 b3 0 v2.length),(18,.sl 1 b5 0 v4.length),(19,I (v4.length:Int)),(20,I x)],[(b1,.cells (xB aa)),(b3,vi v2),(b5,IF v4)]⟩) h ?_ ?_
 ·exact aj.lq [2,1,0] J J J
 ·intro n7 z1 aC J1 dL h jF fP
  obtain rfl:=dL
  replace h:jk aa v2 v4 n7=some z1:=h
  unfold jk at h
  refine aI<|ah.qv (bB J J) J<|rN<|tS<|cD h J (fun h=>?_) (fun h=>?_)
  ·refine tK<|tS<|ae.block<|aI<|aA h fun v8 e3 h=>ah.qv (aP J J J e3) J<|ah.qv (eS (g:=AV.str) J J (.inl .p2) e3 J) J<|bT J J J J fun b9=>aE J J J J .p0 J J<|rN<|aI<|rM J J<|ah.qv (ow J) J<|aA h fun v10 e4 h=>gi J (oT (fun e=>BA e) e4) (.cons (nJ.qR .p2) (.cons (.AO _ _ _ (.cons (.B4 _ _ _ .p0 (.cons (.co (.refl _)) .nil)) (.cons (.B4 _ _ _ .p1 (.cons (.co (.refl _)) (.cons (.co (.refl _)) (.cons (.co (.refl _)) (.cons (.co (.refl _)) (.cons (.co (.refl _)) .nil)))))) .nil))) .nil)) J J<|rN<|cB h J (fun h=>?_) (fun h=>?_)
   ·refine aI<|rL J J .p0 J J<|rA J J<|rN<|ae.ret<|have h:=bP h fP;?_
    cases h
    exact hP J J
   ·refine tK<|ae.cd<|tR<|ah.qv (aV J J) J<|rM J J<|rN<|ae.stop<|?_
    cases h
    exact jF _ _ J<|aj.lq [1,1,1] J J J
  ·refine ae.exit J<|have h:=bP h fP;aI<|rA J J<|rN<|ae.ret<|?_
   cases h
   exact hP J J
theorem Ao [GI:bA] {aa:Shown} {ai:Shown} {r:Int} (h:kF aa ai=some r):Pu Tryz.prog 130 [Shown.av aa,Shown.av ai] (I r):=by
 unfold kF at h
 refine aG.bw Tryz.func130 J Tryz.ntmps130 Tryz.results130 J J ?_
 refine aI<|dC J J J J fun b1=>dC J J J J fun b2=>rA J J<|rN<|tS<|ae.bV (id:=1) (A:=[0,1,0,4,15,0,32,96,0,256,768,2047,0,4096,12288,0,32768,98304,262143,0,524288,1572864,0,4194304,12582912,33554431,67108863,134217727,268435455]) 29 mixed J (by kernel_rfl) (by kernel_rfl)<|AM.qv (au J J) J<|AM.qv (aB J J .p0 J) J<|AM.qv (au J J) J<|AM.qv (aB J J .p1 J) J<|AM.jR J (fF J) cR J<|AM.qv (au J J) J<|AM.qv (au J J) J<|AM.qv (aB J J .p1 J) J<|AM.qv (au J J) J<|AM.qv (au J J) J<|AM.qv (aB J J .p0 J) J<|AM.jR J (fF J) cR J<|AM.qv (au J J) J<|AM.qv (au J J) J<|AM.qv (aB J J .p1 J) J<|AM.qv (au J J) J<|AM.qv (au J J) J<|AM.qv (aB J J .p0 J) J<|AM.jR J (df J) cR J<|AM.qv (au J J) J<|AM.qv (au J J) J<|AM.qv (aB J J .p1 J) J<|AM.qv (au J J) J<|AM.qv (au J J) J<|AM.qv (aB J J .p0 J) J<|AM.jR J (df J) cR J<|AM.bU (xs:=([(cmp_Compare_int ai.Level aa.Level),(cmp_Compare_int aa.aH.Since ai.aH.Since),(Lib.compareBytes aa.aH.Device ai.aH.Device),(Lib.compareBytes aa.aH.aZ ai.aH.aZ)]:List Int).map I) J J J J J J<|aA h fun v3 e1 h=>AM.jR J (nx e1) cR J<|AM.qv (c0 J) J<|AM.nil<|rN<|ae.ret<|?_
 cases h
 exact hP J J
theorem qL:Nk Tryz.prog 129 8:=⟨fun enc hk h1 cf hO g cb cd off cap d w eg hc hH hb hs=>AnyQ.slices_SortFunc_eq Tryz.E7 8 Tryz.isAgg111 Tryz.sizeOf111 enc hk h1 cf hO g cb cd off cap d w eg hc hH hb hs,fun p cap fv w=>AnyF.slices_SortFunc_none Tryz.E7 p cap fv w⟩
theorem qM [GI:bA] {aM:Bk} {aa:List Shown} {dH:Shown→Shown→Option Int} {cu:FuncId} [bq Tryz.prog cu] {dP:List AV} (kJ:∀ {y0 y1:_} {u:Int},dH y0 y1=some u→@Pu nk Tryz.prog cu (Shown.av y0 :: Shown.av y1 :: dP) (I u)) {r:(List Shown)} (h:jl aa dH=some r):aG Tryz.prog 129 [.sl 8 aM 0 aa.length,.func (.func cu) dP] [(aM,.arr 8 (aa.map Shown.av))] (T0 [(aM,.arr 8 (r.map Shown.av))] (.nI [])):=
 Ga (fn:=dH) qL J @kJ (fun _=>J) h
theorem DN [GI:bA] {aa:bd} {ai:List Signal} {aq:Int} {r:(List Shown)×Int} (h:uG aa ai aq=some r):aG Tryz.prog 58 [bd.av aa,nw ai,I aq] [] (T1 (fun lV=>[(lV,cO r.1)]) (fun lV=>.nI [.sl 8 lV 0 r.1.length,I r.2])):=by
 unfold uG at h
 refine aG.dD ?_
 refine aG.bw Tryz.func58 J Tryz.ntmps58 Tryz.results58 J J ?_
 refine aI<|dC J J J J fun b1=>rA J J<|rA J J<|rN<|tS<|aI<|ah.qv (aL J J .p0 J) J<|aA h fun v2 e1 h=>bc J (lW e1) cR J<|rM J J<|aA h fun v3 e2 h=>bc J (nh e2) cR J<|aY (xs:=([v2,v3]:List Int).map I) J J J J J J<|aA h fun v4 e3 h=>bc J (yp e3) cR J<|rA J J<|rN<|aI<|rM J J<|ah.qv (jH J J) J<|rN<|cD h J (fun h=>?_) (fun h=>?_)
 ·refine aI<|rM J J<|rA J J<|rA J J<|rN<|ae.ret<|?_
  cases h
  exact aj.arr (s:=6) 8 J fun b5=>aj.here ⟨_,.cons (.tmp _ _ J) (.cons (.tmp _ _ J) .nil),_,.cons .p0 .nil,⟨b5,J,J⟩⟩
 ·refine tK<|tS<|aI<|rM J J<|bc J (qk J) cR J<|ah.qv (dB J) J<|rN<|cB h J (fun h=>?_) (fun h=>?_)
  ·refine aI<|rA J J<|rA J J<|rN<|ae.ret<|?_
   cases h
   exact aj.arr (s:=6) 8 J fun b6=>aj.here ⟨_,.cons (.tmp _ _ J) (.cons (.tmp _ _ J) .nil),_,.cons .p0 .nil,⟨b6,J,J⟩⟩
  ·refine tK<|aI<|ah.qv (aL J J .p0 J) J<|rM J J<|rM J J<|aA h fun v7 e4 h=>G9 J (ug e4) cR .nil (fun _ _ _ _ _=>J) J fun b8 b9 pz BY wX=>rA J J<|rN<|aI<|pO J fun Cc=>rA J J<|rN<|aI<|rA J J<|rN<|tS<|aI<|rM J J<|ah.qv (ay J) J<|rF J J J<|rL J J .p1 J J<|ah.qv (eR J) J<|rM J J<|rN<|ae.block<|ae.bS (fun x:(List (aS×Int))×(List Shown)×Int=>iu v7 x.1 x.2.1 x.2.2) (fun x aC=>∃ (Fg:Bk),aC=⟨96,[(9,.ptr b8 0),(10,.gD Cc),(11,.sl 8 Fg 0 x.2.1.length),(37,.sl 6 BY 0 v7.o4.length),(38,I (v7.o4.length:Int)),(39,I x.2.2)],[(b8,.cells (JX v7 b9 pz BY wX)),(b9,Gi v7.mz),(pz,BW v7.pP),(BY,vi v7.o4),(wX,Gj v7.o5),(Cc,Mj x.1),(Fg,cO x.2.1)]⟩) h ?_ ?_
   ·exact aj.arr (s:=11) 8 J fun Eg=>aj.lq [2,2,2,2,2,1,0] ⟨Eg,J⟩ J J
   ·intro x z1 aC J1 dL h jF fP
    obtain ⟨rV,qP,n21⟩:=x
    obtain ⟨Fg,rfl⟩:=dL
    replace h:iu v7 rV qP n21=some z1:=h
    unfold iu at h
    refine aI<|ah.qv (bB J J) J<|rN<|tS<|cD h J (fun h=>?_) (fun h=>?_)
    ·refine tK<|tS<|ae.block<|aI<|aA h fun v23 e5 h=>ah.qv (aP J J J e5) J<|ah.qv (aR (g:=aH.av) J J (.inl .p3) J e5 J) J<|bT J J J J fun BX=>aE J J J J .p0 J J<|rN<|aI<|rM J J<|rF J J J<|rL J J .p0 J J<|aA h fun v25 e6 h=>ba J (nC e6) cR (.cons .p1 (.cons .p2 (.cons .p2 (.cons .p2 .nil)))) J J<|rA J J<|rN<|aI<|rM J J<|ah.qv (zu J J) J<|rN<|ae.cut (fun aC=>∃ (CW:Bk) (pU:List (aS×Int)) (yh:List Shown),nQ n21 pU yh=some z1∧aC=⟨96,[(9,.ptr b8 0),(10,.gD Cc),(11,.sl 8 CW 0 yh.length),(37,.sl 6 BY 0 v7.o4.length),(38,I (v7.o4.length:Int)),(39,I n21)],[(b8,.cells (JX v7 b9 pz BY wX)),(b9,Gi v7.mz),(pz,BW v7.pP),(BY,vi v7.o4),(wX,Gj v7.o5),(Cc,Mj pU),(CW,cO yh)]⟩) ?_ ?_
     ·refine cD h J (fun h=>?_) (fun h=>?_)
      ·exact tR<|rM J J<|rM J J<|aA h fun xz e7 h=>ah.qv (ss (gk:=AV.str) (gv:=I) (M:=rV) (key:=v25) (Z:=(0:Int)) J J .p6 J J J e7 J) J<|ah.qv (aV J J) J<|oF (gk:=AV.str) (gv:=I) (M:=rV) (key:=v25) (v:=aN (xz+(1:Int))) J J J J .p6<|rN<|ae.stop<|aj.lq [0,4,0,0,0,1,1] ⟨Fg,jh rV v25 (aN (xz+(1:Int))),qP,h,J⟩ J J
      ·exact ae.bV (id:=15) (A:=[0,0,0,4,12,28,0,64,252,508,1020,2046,4094,8191,16383]) 13 mixed J (by kernel_rfl) (by kernel_rfl)<|AM.qv (ax J) J<|AM.qv (aL J J .p4 J) J<|AM.qv (ax J) J<|AM.qv (ay J) J<|AM.qv (au J J) J<|AM.qv (aB J J .p0 J) J<|AM.qv (au J J) J<|AM.qv (aB J J .p4 J) J<|aA h fun v30 e8 h=>AM.qv (ss (gk:=AV.str) (gv:=bC.av) (M:=v7.mz) (key:=v23.aZ) (Z:=(⟨[],(0:Int),false⟩:bC)) J J .p5 J J J e8 J) J<|AM.qv (za (ft:=3) (off:=1) ⟨_,_,Tryz.underlying188,J,J,J⟩ J J J) J<|AM.qv (PE J J) J<|AM.qv (cF J J J J J) J<|AM.bU (xs:=([(⟨v23,max (1:Int) v30.Level,(0:Int)⟩:Shown)]).map Shown.av) J J J J J J<|AM.nil<|aA h fun FU e9 h=>dq (g:=Shown.av) J J J J J J J J (.list _) e9 (fun _=>.p7) J fun Pj=>rA J J<|rN<|ae.stop<|aj.lq [0,4,0,0,0,1,1] ⟨Pj,rV,FU,h,J⟩ J J
     ·rintro aC ⟨CW,pU,yh,h,rfl⟩
      unfold nQ at h
      refine ae.cd<|tR<|ah.qv (aV J J) J<|rM J J<|rN<|ae.stop<|?_
      cases h
      exact jF _ _ J<|aj.lq [0,0,0,0,0,0,0] ⟨CW,J⟩ J J
    ·refine ae.exit J<|have h:=bP h fP;tS<|aI<|rM J J<|ah.qv (eR J) J<|rM J J<|rN<|ae.block<|ae.bS (fun x:(List Shown)×Int=>ir v7 rV qP x.1 x.2) (fun x aC=>aC=⟨96,[(9,.ptr b8 0),(10,.gD Cc),(11,.sl 8 Fg 0 x.1.length),(69,I (qP.length:Int)),(70,I x.2)],[(b8,.cells (JX v7 b9 pz BY wX)),(b9,Gi v7.mz),(pz,BW v7.pP),(BY,vi v7.o4),(wX,Gj v7.o5),(Cc,Mj rV),(Fg,cO x.1)]⟩) h ?_ ?_
     ·exact aj.lq [0,0,0,0,0,0,0] J J J
     ·intro x z2 aC J2 dL h xC wW
      obtain ⟨zd,n36⟩:=x
      obtain rfl:=dL
      replace h:ir v7 rV qP zd n36=some z2:=h
      unfold ir at h
      refine aI<|ah.qv (bB J J) J<|rN<|tS<|cD h J (fun h=>?_) (fun h=>?_)
      ·refine tK<|tS<|ae.block<|aI<|rM J J<|rA J J<|rN<|aI<|rM J J<|rM J J<|aA h fun v37 yl h=>ah.qv (aP J J J yl) J<|rA J J<|rN<|aI<|rM J J<|rM J J<|ah.qv (cm J) J<|ah.qv (bR J J) J<|ah.qv (y5 (g:=Shown.av) J J (.inl .p6) yl J J) J<|aA h fun Ah CX h=>ba J (nB CX) cR (.cons .p0 (.cons .p0 (.cons .p1 .nil))) J J<|rN<|ae.cut (fun aC=>∃ (B8:List Shown),nT n36 B8=some z2∧aC=⟨96,[(9,.ptr b8 0),(10,.gD Cc),(11,.sl 8 Fg 0 B8.length),(69,I (qP.length:Int)),(70,I n36)],[(b8,.cells (JX v7 b9 pz BY wX)),(b9,Gi v7.mz),(pz,BW v7.pP),(BY,vi v7.o4),(wX,Gj v7.o5),(Cc,Mj rV),(Fg,cO B8)]⟩) ?_ ?_
       ·refine cB h J (fun h=>?_) (fun h=>?_)
        ·exact tR<|rM J J<|rM J J<|rM J J<|ah.qv (cm J) J<|ah.qv (bR J J) J<|ah.qv (bR J J) J<|ah.qv (eS (g:=Shown.av) J J (.inl .p6) yl J) J<|aA h fun v40 Gl h=>ah.qv (ss (gk:=AV.str) (gv:=I) (M:=rV) (key:=v37.aH.Device) (Z:=(0:Int)) J J .p5 J J J Gl J) J<|ah.qv (cm J) J<|ah.qv (bR J J) J<|br (g:=Shown.av) (uB:=(⟨v37.aH,v37.Level,v40⟩:Shown)) J J J J yl J .p6 J<|ah.ghost<|aj.eqs (s:=11) (bZ:=.sl 8 Fg 0 (zd.set n36.toNat (⟨v37.aH,v37.Level,v40⟩:Shown)).length) J (by rw [List.length_set])<|aj.here<|ah.ghost<|aj.eqs (s:=73) (bZ:=.sl 8 Fg 0 (zd.set n36.toNat (⟨v37.aH,v37.Level,v40⟩:Shown)).length) J (by rw [List.length_set])<|aj.here<|rN<|ae.stop<|aj.lq [0,0,1,0,0,0,0] ⟨zd.set n36.toNat (⟨v37.aH,v37.Level,v40⟩:Shown),h,J⟩ J J
        ·exact tK<|ae.stop<|aj.lq [0,0,1,0,0,0,0] ⟨zd,h,J⟩ J J
       ·rintro aC ⟨B8,h,rfl⟩
        unfold nT at h
        refine ae.cd<|tR<|ah.qv (aV J J) J<|rM J J<|rN<|ae.stop<|?_
        cases h
        exact xC _ _ J<|aj.lq [0,0,0,0,0,0,0] J J J
      ·refine ae.exit J<|have h:=bP h wW;?_
       unfold nU at h
       refine aI<|rM J J<|aA h fun v41 Gm h=>ba J (qM (fun e=>Ao (GI:=nk) e) (fL Gm)) cR (.cons .p6 .nil) J J<|ah.ghost<|aj.eqs (s:=11) (bZ:=.sl 8 Fg 0 v41.length) J (congrArg (AV.sl 8 Fg 0) (bG Gm))<|aj.here<|ah.ghost<|aj.eqs (s:=93) (bZ:=.sl 8 Fg 0 v41.length) J (congrArg (AV.sl 8 Fg 0) (bG Gm))<|aj.here<|rN<|aI<|rM J J<|rA J J<|rA J J<|rN<|ae.ret<|?_
       cases h
       exact hI J J [0] J ⟨Fg,J,J⟩
theorem Cl [GI:bA] {aa:Shown} {ai:Shown} {r:Int} (h:kq aa ai=some r):Pu Tryz.prog 132 [Shown.av aa,Shown.av ai] (I r):=by
 unfold kq at h
 refine aG.bw Tryz.func132 J Tryz.ntmps132 Tryz.results132 J J ?_
 refine aI<|dC J J J J fun b1=>dC J J J J fun b2=>rA J J<|rN<|tS<|ae.bV (id:=1) (A:=[0,1,0,4,15,0,32,96,0,256,768,2047,4095,8191,16383]) 15 mixed J (by kernel_rfl) (by kernel_rfl)<|AM.qv (au J J) J<|AM.qv (aB J J .p0 J) J<|AM.qv (au J J) J<|AM.qv (aB J J .p1 J) J<|AM.jR J (fF J) cR J<|AM.qv (au J J) J<|AM.qv (au J J) J<|AM.qv (aB J J .p1 J) J<|AM.qv (au J J) J<|AM.qv (au J J) J<|AM.qv (aB J J .p0 J) J<|AM.jR J (fF J) cR J<|AM.bU (xs:=([(cmp_Compare_int ai.Level aa.Level),(cmp_Compare_int aa.aH.Since ai.aH.Since)]:List Int).map I) J J J J J J<|aA h fun v3 e1 h=>AM.jR J (nx e1) cR J<|AM.qv (c0 J) J<|AM.nil<|rN<|ae.ret<|?_
 cases h
 exact hP J J
theorem jr [GI:bA] {aM:Bk} {aa:List Shown} {ai:Int} {aq:Int} {ml:Shown→Shown→Option Int} {ue:FuncId} [bq Tryz.prog ue] {vN:List AV} (J6:∀ {y0 y1:_} {u:Int},ml y0 y1=some u→Pu Tryz.prog ue (Shown.av y0 :: Shown.av y1 :: vN) (I u)) {r:(List Shown)} (h:cz aa ai aq ml=some r):aG Tryz.prog 220 [.sl 8 aM 0 aa.length,I ai,I aq,.func (.func ue) vN] [(aM,cO aa)] (T0 ([(aM,cO r)]) (.nI [])):=by
 unfold cz at h
 refine aG.dD ?_
 refine aG.bw Tryz.func220 J Tryz.ntmps220 Tryz.results220 J J ?_
 refine aI<|rM J J<|ah.qv (aV J J) J<|rA J J<|rN<|ae.block<|ae.bS (fun x:(List Shown)×Int=>cY ai aq ml x.1 x.2) (fun x aC=>aC=⟨53,[(0,.sl 8 aM 0 x.1.length),(1,I ai),(2,I aq),(3,.func (.func ue) vN),(8,I x.2)],[(aM,cO x.1)]⟩) h ?_ ?_
 ·exact aj.lq [0] J J J
 ·intro x z1 aC J1 dL h jF fP
  obtain ⟨l3,n4⟩:=x
  obtain rfl:=dL
  replace h:cY ai aq ml l3 n4=some z1:=h
  unfold cY at h
  refine tS<|aI<|rM J J<|rM J J<|ah.qv (bB J J) J<|rN<|cD h J (fun h=>?_) (fun h=>?_)
  ·refine tK<|tS<|ae.block<|aI<|rM J J<|rA J J<|rN<|ae.block<|ae.bS (fun x:(List Shown)×Int=>cX ai ml n4 x.1 x.2) (fun x aC=>aC=⟨53,[(0,.sl 8 aM 0 x.1.length),(1,I ai),(2,I aq),(3,.func (.func ue) vN),(8,I n4),(9,I x.2)],[(aM,cO x.1)]⟩) h ?_ ?_
   ·exact aj.lq [0] J J J
   ·intro x z2 aC J2 dL h xC wW
    obtain ⟨l7,n8⟩:=x
    obtain rfl:=dL
    replace h:cX ai ml n4 l7 n8=some z2:=h
    unfold cX at h
    refine tS<|tS<|ae.cut (fun aC=>∃ (c9:Bool),cW n4 l7 n8 c9=some z2∧aC=⟨53,[(0,.sl 8 aM 0 l7.length),(1,I ai),(2,I aq),(3,.func (.func ue) vN),(8,I n4),(9,I n8),(34,.bool c9)],[(aM,cO l7)]⟩) ?_ ?_
    ·refine ae.bV (id:=4) (A:=[0,0,3,7,15,15,15,111,239,15,15,1039,3599,7695,16383,32767,65535]) 17 mixed J (by kernel_rfl) (by kernel_rfl)<|AM.qv (ax J) J<|AM.qv (ax J) J<|AM.qv (gR J J) J<|AM.qv (ax J) J<|AM.bJ J J J (fun hc=>?_) (fun hc=>?_)
     ·exact have h:=rO hc h;AM.qv (ax J) J<|AM.aF J J J<|AM.qv (ax J) J<|AM.aF J J J<|AM.qv (ax J) J<|AM.aF J J J<|aA h fun v10 e1 h=>AM.qv (aP J J J e1) J<|AM.aF J J J<|AM.qv (aR (g:=Shown.av) J J (.inl .p0) J e1 J) J<|AM.aF J J J<|AM.qv (ax J) J<|AM.aF J J J<|AM.qv (ax J) J<|AM.aF J J J<|AM.qv (bF J J) J<|AM.aF J J J<|aA h fun v11 e2 h=>AM.qv (aP J J J e2) J<|AM.aF J J J<|AM.qv (aR (g:=Shown.av) J J (.inl .p0) J e2 J) J<|AM.aF J J J<|aA h fun v12 e3 h=>AM.tD J J (J6 e3) cR J<|AM.aF J J J<|AM.qv (bB J J) J<|AM.qv (jv J J) J<|AM.nil<|rN<|ae.stop<|aj.lq [0] ⟨decide (v12 < (0:Int)),h,J⟩ J J
     ·exact have h:=yU hc h;AM.aJ J J J J<|AM.aJ J J J J<|AM.aJ J J J J<|AM.aJ J J J J<|AM.aJ J J J J<|AM.aJ J J J J<|AM.aJ J J J J<|AM.aJ J J J J<|AM.aJ J J J J<|AM.aJ J J J J<|AM.aJ J J J J<|AM.qv (iX J J) J<|AM.nil<|rN<|ae.stop<|aj.lq [0] ⟨false,h,J⟩ J J
    ·rintro aC ⟨c9,h,rfl⟩
     unfold cW at h
     refine cB h J (fun h=>?_) (fun h=>?_)
     ·refine tK<|tS<|ae.block<|aA h fun gb e4 h=>aA h fun gh e5 h=>aA h fun rS e6 h=>ae.fK (id:=6) (A:=[0,0,0,0,8,0,0,64,224,480,0,0,3072,7168,16355,32739,65535,131071]) (H0:=[(aM,cO l7)]) (HH:=fun β=>[(aM,cO (l7.set n8.toNat gb))]) 16 mixed J (by kernel_rfl) (by kernel_rfl) [⟨none,some 15,[9,13],fun _=>(aM,cO l7),none,[]⟩,⟨some 15,none,[],fun _=>(aM,cO (l7.set n8.toNat gb)),none,[]⟩] [] J (by kernel_rfl) J (.cons .p0 .nil) (fun _=>J)<|AT.am 9 J J<|AM.qv (ax J) J<|AM.qv (ax J) J<|AM.qv (ax J) J<|AM.qv (ax J) J<|AM.qv (bF J J) J<|AM.qv (ax J) J<|AM.qv (ax J) J<|AM.qv (bF J J) J<|AM.qv (aP J J J e4) J<|AM.nil<|AT.rd (Rs:=[(aM,cO l7)]) (fun _=>J) J (fun _=>J) (fun _=>J) (aR (g:=Shown.av) J J (.inl .p0) J e4 J) J<|AT.am 3 J J<|AM.qv (ax J) J<|AM.qv (ax J) J<|AM.qv (aP J J J e5) J<|AM.nil<|AT.rd (Rs:=[(aM,cO l7)]) (fun _=>J) J (fun _=>J) (fun _=>J) (aR (g:=Shown.av) J J (.inl .p0) J e5 J) J<|AT.am 1 J J<|AM.qv (aP J J J e6) J<|AM.nil<|AT.yY (Ti:=[(aM,cO l7)]) (Pi:=[(aM,cO (l7.set n8.toNat gb))]) (fun _=>J) (fun _=>J) (fun _=>J) J J ?_ ?_
      ·exact br (g:=Shown.av) (uB:=gb) J J J J e6 J .p0 J<|ah.nil ⟨_,J⟩
      refine AT.qS (fun _=>J) fun β=>ah.ghost<|aj.eqs (s:=0) (bZ:=.sl 8 aM 0 (l7.set n8.toNat gb).length) J (by simp)<|aj.here<|ah.ghost<|aj.eqs (s:=37) (bZ:=.sl 8 aM 0 (l7.set n8.toNat gb).length) J (by simp)<|aj.here<|ah.ghost<|aj.eqs (s:=39) (bZ:=.sl 8 aM 0 (l7.set n8.toNat gb).length) J (by simp)<|aj.here<|ah.ghost<|aj.eqs (s:=42) (bZ:=.sl 8 aM 0 (l7.set n8.toNat gb).length) J (by simp)<|aj.here<|ah.ghost<|aj.eqs (s:=47) (bZ:=.sl 8 aM 0 (l7.set n8.toNat gb).length) J (by simp)<|aj.here<|aA h fun kS e7 h=>ah.qv (aP J J J e7) J<|br (g:=Shown.av) (uB:=gh) J J J J e7 J .p0 J<|ah.ghost<|aj.eqs (s:=0) (bZ:=.sl 8 aM 0 ((l7.set n8.toNat gb).set (aN (n8 - (1:Int))).toNat gh).length) J (by rw [List.length_set])<|aj.here<|ah.ghost<|aj.eqs (s:=37) (bZ:=.sl 8 aM 0 ((l7.set n8.toNat gb).set (aN (n8 - (1:Int))).toNat gh).length) J (by rw [List.length_set])<|aj.here<|ah.ghost<|aj.eqs (s:=39) (bZ:=.sl 8 aM 0 ((l7.set n8.toNat gb).set (aN (n8 - (1:Int))).toNat gh).length) J (by rw [List.length_set])<|aj.here<|ah.ghost<|aj.eqs (s:=42) (bZ:=.sl 8 aM 0 ((l7.set n8.toNat gb).set (aN (n8 - (1:Int))).toNat gh).length) J (by rw [List.length_set])<|aj.here<|ah.ghost<|aj.eqs (s:=47) (bZ:=.sl 8 aM 0 ((l7.set n8.toNat gb).set (aN (n8 - (1:Int))).toNat gh).length) J (by rw [List.length_set])<|aj.here<|rN<|ae.cd<|tR<|rM J J<|ah.qv (bF J J) J<|rA J J<|rN<|ae.stop<|?_
      cases h
      exact xC _ _ J<|aj.lq [0] J J J
     ·refine ae.exit J<|have h:=bP h wW;ae.cd<|tR<|rM J J<|ah.qv (aV J J) J<|rA J J<|rN<|ae.stop<|?_
      cases h
      exact jF _ _ J<|aj.lq [0] J J J
  ·refine ae.exit J<|have h:=bP h fP;ae.nil<|?_
   cases h
   exact aj.here ⟨_,.nil,_,.cons .p0 .nil,⟨J,J⟩⟩
theorem gN [GI:bA] {aM:Bk} {aa:List Shown} {ai:Int} {aq:Int} {aT:Int} {dt:Shown→Shown→Option Int} {bM:FuncId} [bq Tryz.prog bM] {ch:List AV} (gV:∀ {y0 y1:_} {u:Int},dt y0 y1=some u→Pu Tryz.prog bM (Shown.av y0 :: Shown.av y1 :: ch) (I u)) {r:(List Shown)} (h:du aa ai aq aT dt=some r):aG Tryz.prog 289 [.sl 8 aM 0 aa.length,I ai,I aq,I aT,.func (.func bM) ch] [(aM,cO aa)] (T0 ([(aM,cO r)]) (.nI [])):=by
 unfold du at h
 refine aG.dD ?_
 refine aG.bw Tryz.func289 J Tryz.ntmps289 Tryz.results289 J J ?_
 refine aI<|rA J J<|rN<|ae.block<|ae.bS (fun x:(List Shown)×Int=>er ai aq aT x.1 x.2) (fun x aC=>aC=⟨38,[(0,.sl 8 aM 0 x.1.length),(1,I ai),(2,I aq),(3,I aT),(10,I x.2)],[(aM,cO x.1)]⟩) h ?_ ?_
 ·exact aj.lq [0] J J J
 ·intro x z1 aC J1 dL h jF fP
  obtain ⟨l3,n4⟩:=x
  obtain rfl:=dL
  replace h:er ai aq aT l3 n4=some z1:=h
  unfold er at h
  refine tS<|aI<|rM J J<|rM J J<|ah.qv (bB J J) J<|rN<|cD h J (fun h=>?_) (fun h=>?_)
  ·refine tK<|tS<|ae.block<|aA h fun v5 e1 h=>aA h fun v6 e2 h=>aA h fun v7 e3 h=>ae.fK (id:=3) (A:=[0,0,0,6,0,0,0,96,0,0,0,1536,3840,7936,0,0,0,98304,245760,507904,1048335,2096911,4194303,8388607]) (H0:=[(aM,cO l3)]) (HH:=fun β=>[(aM,cO (l3.set (aN (ai+n4)).toNat v5))]) 22 mixed J (by kernel_rfl) (by kernel_rfl) [⟨none,some 21,[13,19],fun _=>(aM,cO l3),none,[]⟩,⟨some 21,none,[],fun _=>(aM,cO (l3.set (aN (ai+n4)).toNat v5)),none,[]⟩] [] J (by kernel_rfl) J (.cons .p0 .nil) (fun _=>J)<|AT.am 13 J J<|AM.qv (ax J) J<|AM.qv (ax J) J<|AM.qv (ax J) J<|AM.qv (aV J J) J<|AM.qv (ax J) J<|AM.qv (ax J) J<|AM.qv (ax J) J<|AM.qv (aV J J) J<|AM.qv (ax J) J<|AM.qv (ax J) J<|AM.qv (ax J) J<|AM.qv (aV J J) J<|AM.qv (aP J J J e1) J<|AM.nil<|AT.rd (Rs:=[(aM,cO l3)]) (fun _=>J) J (fun _=>J) (fun _=>J) (aR (g:=Shown.av) J J (.inl .p0) J e1 J) J<|AT.am 5 J J<|AM.qv (ax J) J<|AM.qv (ax J) J<|AM.qv (ax J) J<|AM.qv (aV J J) J<|AM.qv (aP J J J e2) J<|AM.nil<|AT.rd (Rs:=[(aM,cO l3)]) (fun _=>J) J (fun _=>J) (fun _=>J) (aR (g:=Shown.av) J J (.inl .p0) J e2 J) J<|AT.am 1 J J<|AM.qv (aP J J J e3) J<|AM.nil<|AT.yY (Ti:=[(aM,cO l3)]) (Pi:=[(aM,cO (l3.set (aN (ai+n4)).toNat v5))]) (fun _=>J) (fun _=>J) (fun _=>J) J J ?_ ?_
   ·exact br (g:=Shown.av) (uB:=v5) J J J J e3 J .p0 J<|ah.nil ⟨_,J⟩
   refine AT.qS (fun _=>J) fun β=>ah.ghost<|aj.eqs (s:=0) (bZ:=.sl 8 aM 0 (l3.set (aN (ai+n4)).toNat v5).length) J (by simp)<|aj.here<|ah.ghost<|aj.eqs (s:=16) (bZ:=.sl 8 aM 0 (l3.set (aN (ai+n4)).toNat v5).length) J (by simp)<|aj.here<|ah.ghost<|aj.eqs (s:=20) (bZ:=.sl 8 aM 0 (l3.set (aN (ai+n4)).toNat v5).length) J (by simp)<|aj.here<|ah.ghost<|aj.eqs (s:=24) (bZ:=.sl 8 aM 0 (l3.set (aN (ai+n4)).toNat v5).length) J (by simp)<|aj.here<|ah.ghost<|aj.eqs (s:=30) (bZ:=.sl 8 aM 0 (l3.set (aN (ai+n4)).toNat v5).length) J (by simp)<|aj.here<|aA h fun v8 e4 h=>ah.qv (aP J J J e4) J<|br (g:=Shown.av) (uB:=v6) J J J J e4 J .p0 J<|ah.ghost<|aj.eqs (s:=0) (bZ:=.sl 8 aM 0 ((l3.set (aN (ai+n4)).toNat v5).set (aN (aq+n4)).toNat v6).length) J (by rw [List.length_set])<|aj.here<|ah.ghost<|aj.eqs (s:=16) (bZ:=.sl 8 aM 0 ((l3.set (aN (ai+n4)).toNat v5).set (aN (aq+n4)).toNat v6).length) J (by rw [List.length_set])<|aj.here<|ah.ghost<|aj.eqs (s:=20) (bZ:=.sl 8 aM 0 ((l3.set (aN (ai+n4)).toNat v5).set (aN (aq+n4)).toNat v6).length) J (by rw [List.length_set])<|aj.here<|ah.ghost<|aj.eqs (s:=24) (bZ:=.sl 8 aM 0 ((l3.set (aN (ai+n4)).toNat v5).set (aN (aq+n4)).toNat v6).length) J (by rw [List.length_set])<|aj.here<|ah.ghost<|aj.eqs (s:=30) (bZ:=.sl 8 aM 0 ((l3.set (aN (ai+n4)).toNat v5).set (aN (aq+n4)).toNat v6).length) J (by rw [List.length_set])<|aj.here<|rN<|ae.cd<|tR<|rM J J<|ah.qv (aV J J) J<|rA J J<|rN<|ae.stop<|?_
   cases h
   exact jF _ _ J<|aj.lq [0] J J J
  ·refine ae.exit J<|have h:=bP h fP;ae.nil<|?_
   cases h
   exact aj.here ⟨_,.nil,_,.cons .p0 .nil,⟨J,J⟩⟩
theorem re [GI:bA] {aM:Bk} {aa:List Shown} {ai:Int} {aq:Int} {aT:Int} {dt:Shown→Shown→Option Int} {bM:FuncId} [bq Tryz.prog bM] {ch:List AV} (gV:∀ {y0 y1:_} {u:Int},dt y0 y1=some u→Pu Tryz.prog bM (Shown.av y0 :: Shown.av y1 :: ch) (I u)) {r:(List Shown)} (h:jD aa ai aq aT dt=some r):aG Tryz.prog 265 [.sl 8 aM 0 aa.length,I ai,I aq,I aT,.func (.func bM) ch] [(aM,cO aa)] (T0 ([(aM,cO r)]) (.nI [])):=by
 unfold jD at h
 refine aG.dD ?_
 refine aG.bw Tryz.func265 J Tryz.ntmps265 Tryz.results265 J J ?_
 refine aI<|rM J J<|rM J J<|ah.qv (bF J J) J<|rA J J<|rN<|aI<|rM J J<|rM J J<|ah.qv (bF J J) J<|rA J J<|rN<|tS<|ae.block<|ae.bS (fun x:(List Shown)×Int×Int=>fC aq dt x.1 x.2.1 x.2.2) (fun x aC=>aC=⟨58,[(0,.sl 8 aM 0 x.1.length),(2,I aq),(4,.func (.func bM) ch),(10,I x.2.1),(11,I x.2.2)],[(aM,cO x.1)]⟩) h ?_ ?_
 ·exact aj.lq [0] J J J
 ·intro x z1 aC J1 dL h jF fP
  obtain ⟨l4,n5,n6⟩:=x
  obtain rfl:=dL
  replace h:fC aq dt l4 n5 n6=some z1:=h
  unfold fC at h
  refine tS<|aI<|rM J J<|rM J J<|ah.qv (jH J J) J<|rN<|cD h J (fun h=>?_) (fun h=>?_)
  ·refine tK<|ae.block<|aI<|rM J J<|rM J J<|ah.qv (gR J J) J<|rN<|ae.cut (fun aC=>∃ (l7:List Shown) (n8:Int) (n9:Int),fB l7 n8 n9=some z1∧aC=⟨58,[(0,.sl 8 aM 0 l7.length),(2,I aq),(4,.func (.func bM) ch),(10,I n8),(11,I n9)],[(aM,cO l7)]⟩) ?_ ?_
   ·refine cD h J (fun h=>?_) (fun h=>?_)
    ·exact aI<|rM J J<|rM J J<|rM J J<|ah.qv (bF J J) J<|rM J J<|rM J J<|rM J J<|aA h fun v10 e1 h=>ba J (gN gV (fL e1)) cR (.cons .p0 .nil) J J<|ah.ghost<|aj.eqs (s:=0) (bZ:=.sl 8 aM 0 v10.length) J (congrArg (AV.sl 8 aM 0) (bG e1))<|aj.here<|ah.ghost<|aj.eqs (s:=24) (bZ:=.sl 8 aM 0 v10.length) J (congrArg (AV.sl 8 aM 0) (bG e1))<|aj.here<|rN<|tR<|rM J J<|rM J J<|ah.qv (bF J J) J<|rA J J<|rN<|ae.stop<|aj.lq [0] ⟨v10,aN (n5 - n6),n6,h,J⟩ J J
    ·exact aI<|rM J J<|rM J J<|rM J J<|ah.qv (bF J J) J<|rM J J<|rM J J<|ah.qv (aV J J) J<|rM J J<|ah.qv (bF J J) J<|rM J J<|rM J J<|aA h fun v11 e2 h=>ba J (gN gV (fL e2)) cR (.cons .p0 .nil) J J<|ah.ghost<|aj.eqs (s:=0) (bZ:=.sl 8 aM 0 v11.length) J (congrArg (AV.sl 8 aM 0) (bG e2))<|aj.here<|ah.ghost<|aj.eqs (s:=35) (bZ:=.sl 8 aM 0 v11.length) J (congrArg (AV.sl 8 aM 0) (bG e2))<|aj.here<|rN<|tR<|rM J J<|rM J J<|ah.qv (bF J J) J<|rA J J<|rN<|ae.stop<|aj.lq [0] ⟨v11,n5,aN (n6 - n5),h,J⟩ J J
   ·rintro aC ⟨l7,n8,n9,h,rfl⟩
    unfold fB at h
    refine ae.cd<|ae.stop<|?_
    cases h
    exact jF _ _ J<|aj.lq [0] J J J
  ·refine ae.exit J<|have h:=bP h fP;?_
   unfold lG at h
   refine tR<|rM J J<|rM J J<|rM J J<|ah.qv (bF J J) J<|rM J J<|rM J J<|rM J J<|aA h fun v12 e3 h=>ba J (gN gV (fL e3)) cR (.cons .p0 .nil) J J<|ah.ghost<|aj.eqs (s:=0) (bZ:=.sl 8 aM 0 v12.length) J (congrArg (AV.sl 8 aM 0) (bG e3))<|aj.here<|ah.ghost<|aj.eqs (s:=50) (bZ:=.sl 8 aM 0 v12.length) J (congrArg (AV.sl 8 aM 0) (bG e3))<|aj.here<|rN<|ae.nil<|?_
   cases h
   exact aj.here ⟨_,.nil,_,.cons .p0 .nil,⟨J,J⟩⟩
theorem oU [GI:bA] {aM:Bk} {self:(List Shown)→Int→Int→Int→(Shown→Shown→Option Int)→Option (List Shown)} (Br:∀ {aM:Bk} {aa:List Shown} {ai:Int} {aq:Int} {aT:Int} {dt:Shown→Shown→Option Int} {bM:FuncId} [bq Tryz.prog bM] {ch:List AV} (gV:∀ {y0 y1:_} {u:Int},dt y0 y1=some u→Pu Tryz.prog bM (Shown.av y0 :: Shown.av y1 :: ch) (I u)) {r:(List Shown)},self aa ai aq aT dt=some r→aG Tryz.prog 228 [.sl 8 aM 0 aa.length,I ai,I aq,I aT,.func (.func bM) ch] [(aM,cO aa)] (T0 ([(aM,cO r)]) (.nI []))) {aa:List Shown} {ai:Int} {aq:Int} {aT:Int} {dt:Shown→Shown→Option Int} {bM:FuncId} [bq Tryz.prog bM] {ch:List AV} (gV:∀ {y0 y1:_} {u:Int},dt y0 y1=some u→Pu Tryz.prog bM (Shown.av y0 :: Shown.av y1 :: ch) (I u)) {r:(List Shown)} (h:gM self aa ai aq aT dt=some r):aG Tryz.prog 228 [.sl 8 aM 0 aa.length,I ai,I aq,I aT,.func (.func bM) ch] [(aM,cO aa)] (T0 ([(aM,cO r)]) (.nI [])):=by
 unfold gM at h
 refine aG.dD ?_
 refine aG.bw Tryz.func228 J Tryz.ntmps228 Tryz.results228 J J ?_
 refine tS<|aI<|rM J J<|rM J J<|ah.qv (bF J J) J<|ah.qv (cH J J) J<|rN<|cD h J (fun h=>?_) (fun h=>?_)
 ·refine aI<|rM J J<|rA J J<|rN<|aI<|rM J J<|rA J J<|rN<|tS<|ae.block<|ae.bS (fun x:Int×Int=>eG aa ai dt x.1 x.2) (fun x aC=>aC=⟨220,[(0,.sl 8 aM 0 aa.length),(1,I ai),(4,.func (.func bM) ch),(10,I x.1),(11,I x.2)],[(aM,cO aa)]⟩) h ?_ ?_
  ·exact aj.lq [0] J J J
  ·intro x z1 aC J1 dL h jF fP
   obtain ⟨n3,n4⟩:=x
   obtain rfl:=dL
   replace h:eG aa ai dt n3 n4=some z1:=h
   unfold eG at h
   refine tS<|aI<|rM J J<|rM J J<|ah.qv (bB J J) J<|rN<|cD h J (fun h=>?_) (fun h=>?_)
   ·refine tK<|ae.block<|aI<|rM J J<|rM J J<|ah.qv (aV J J) J<|ah.qv (fj J) J<|ah.qv (zG J J (by decide)) J<|ah.qv (fj J) J<|rA J J<|rN<|tS<|ae.bV (id:=5) (A:=[0,0,0,6,14,0,0,96,224,511,1023]) 11 mixed J (by kernel_rfl) (by kernel_rfl)<|AM.qv (ax J) J<|AM.qv (ax J) J<|AM.qv (ax J) J<|aA h fun v5 e1 h=>AM.qv (aP J J J e1) J<|AM.qv (aR (g:=Shown.av) J J (.inl .p0) J e1 J) J<|AM.qv (ax J) J<|AM.qv (ax J) J<|aA h fun v6 e2 h=>AM.qv (aP J J J e2) J<|AM.qv (aR (g:=Shown.av) J J (.inl .p0) J e2 J) J<|aA h fun v7 e3 h=>AM.tD J J (gV e3) cR J<|AM.qv (bB J J) J<|AM.nil<|rN<|ae.cut (fun aC=>∃ (n8:Int) (n9:Int),eE n8 n9=some z1∧aC=⟨220,[(0,.sl 8 aM 0 aa.length),(1,I ai),(4,.func (.func bM) ch),(10,I n8),(11,I n9)],[(aM,cO aa)]⟩) ?_ ?_
    ·refine cD h J (fun h=>?_) (fun h=>?_)
     ·exact tR<|rM J J<|ah.qv (aV J J) J<|rA J J<|rN<|ae.stop<|aj.lq [0] ⟨aN ((aN (bX .u64 (IntKind.u64.wrap (aN (n3+n4))) (1:Int)))+(1:Int)),n4,h,J⟩ J J
     ·exact tR<|rM J J<|rA J J<|rN<|ae.stop<|aj.lq [0] ⟨n3,aN (bX .u64 (IntKind.u64.wrap (aN (n3+n4))) (1:Int)),h,J⟩ J J
    ·rintro aC ⟨n8,n9,h,rfl⟩
     unfold eE at h
     refine ae.cd<|ae.stop<|?_
     cases h
     exact jF _ _ J<|aj.lq [0] J J J
   ·refine ae.exit J<|have h:=bP h fP;tS<|aI<|rM J J<|rA J J<|rN<|ae.block<|ae.bS (fun x:(List Shown)×Int=>eF n3 x.1 x.2) (fun x aC=>aC=⟨220,[(0,.sl 8 aM 0 x.1.length),(10,I n3),(13,I x.2)],[(aM,cO x.1)]⟩) h ?_ ?_
    ·exact aj.lq [0] J J J
    ·intro x z2 aC J2 dL h xC wW
     obtain ⟨ly,n13⟩:=x
     obtain rfl:=dL
     replace h:eF n3 ly n13=some z2:=h
     unfold eF at h
     refine tS<|aI<|rM J J<|rM J J<|ah.qv (bF J J) J<|ah.qv (bB J J) J<|rN<|cD h J (fun h=>?_) (fun h=>?_)
     ·refine tK<|tS<|ae.block<|aA h fun gh e4 h=>aA h fun rS e5 h=>aA h fun kS e6 h=>ae.fK (id:=11) (A:=[0,0,0,0,8,0,0,64,224,480,0,0,3072,7168,16355,32739,65535,131071]) (H0:=[(aM,cO ly)]) (HH:=fun β=>[(aM,cO (ly.set n13.toNat gh))]) 16 mixed J (by kernel_rfl) (by kernel_rfl) [⟨none,some 15,[9,13],fun _=>(aM,cO ly),none,[]⟩,⟨some 15,none,[],fun _=>(aM,cO (ly.set n13.toNat gh)),none,[]⟩] [] J (by kernel_rfl) J (.cons .p0 .nil) (fun _=>J)<|AT.am 9 J J<|AM.qv (ax J) J<|AM.qv (ax J) J<|AM.qv (ax J) J<|AM.qv (ax J) J<|AM.qv (aV J J) J<|AM.qv (ax J) J<|AM.qv (ax J) J<|AM.qv (aV J J) J<|AM.qv (aP J J J e4) J<|AM.nil<|AT.rd (Rs:=[(aM,cO ly)]) (fun _=>J) J (fun _=>J) (fun _=>J) (aR (g:=Shown.av) J J (.inl .p0) J e4 J) J<|AT.am 3 J J<|AM.qv (ax J) J<|AM.qv (ax J) J<|AM.qv (aP J J J e5) J<|AM.nil<|AT.rd (Rs:=[(aM,cO ly)]) (fun _=>J) J (fun _=>J) (fun _=>J) (aR (g:=Shown.av) J J (.inl .p0) J e5 J) J<|AT.am 1 J J<|AM.qv (aP J J J e6) J<|AM.nil<|AT.yY (Ti:=[(aM,cO ly)]) (Pi:=[(aM,cO (ly.set n13.toNat gh))]) (fun _=>J) (fun _=>J) (fun _=>J) J J ?_ ?_
      ·exact br (g:=Shown.av) (uB:=gh) J J J J e6 J .p0 J<|ah.nil ⟨_,J⟩
      refine AT.qS (fun _=>J) fun β=>ah.ghost<|aj.eqs (s:=0) (bZ:=.sl 8 aM 0 (ly.set n13.toNat gh).length) J (by simp)<|aj.here<|ah.ghost<|aj.eqs (s:=61) (bZ:=.sl 8 aM 0 (ly.set n13.toNat gh).length) J (by simp)<|aj.here<|ah.ghost<|aj.eqs (s:=63) (bZ:=.sl 8 aM 0 (ly.set n13.toNat gh).length) J (by simp)<|aj.here<|ah.ghost<|aj.eqs (s:=66) (bZ:=.sl 8 aM 0 (ly.set n13.toNat gh).length) J (by simp)<|aj.here<|ah.ghost<|aj.eqs (s:=71) (bZ:=.sl 8 aM 0 (ly.set n13.toNat gh).length) J (by simp)<|aj.here<|aA h fun v17 e7 h=>ah.qv (aP J J J e7) J<|br (g:=Shown.av) (uB:=rS) J J J J e7 J .p0 J<|ah.ghost<|aj.eqs (s:=0) (bZ:=.sl 8 aM 0 ((ly.set n13.toNat gh).set (aN (n13+(1:Int))).toNat rS).length) J (by rw [List.length_set])<|aj.here<|ah.ghost<|aj.eqs (s:=61) (bZ:=.sl 8 aM 0 ((ly.set n13.toNat gh).set (aN (n13+(1:Int))).toNat rS).length) J (by rw [List.length_set])<|aj.here<|ah.ghost<|aj.eqs (s:=63) (bZ:=.sl 8 aM 0 ((ly.set n13.toNat gh).set (aN (n13+(1:Int))).toNat rS).length) J (by rw [List.length_set])<|aj.here<|ah.ghost<|aj.eqs (s:=66) (bZ:=.sl 8 aM 0 ((ly.set n13.toNat gh).set (aN (n13+(1:Int))).toNat rS).length) J (by rw [List.length_set])<|aj.here<|ah.ghost<|aj.eqs (s:=71) (bZ:=.sl 8 aM 0 ((ly.set n13.toNat gh).set (aN (n13+(1:Int))).toNat rS).length) J (by rw [List.length_set])<|aj.here<|rN<|ae.cd<|tR<|rM J J<|ah.qv (aV J J) J<|rA J J<|rN<|ae.stop<|?_
      cases h
      exact xC _ _ J<|aj.lq [0] J J J
     ·refine ae.exit J<|have h:=bP h wW;ae.ret<|?_
      cases h
      exact aj.here ⟨_,.nil,_,.cons .p0 .nil,⟨J,J⟩⟩
 ·refine tK<|tS<|aI<|rM J J<|rM J J<|ah.qv (bF J J) J<|ah.qv (cH J J) J<|rN<|cD h J (fun h=>?_) (fun h=>?_)
  ·refine aI<|rM J J<|rA J J<|rN<|aI<|rM J J<|rA J J<|rN<|tS<|ae.block<|ae.bS (fun x:Int×Int=>eK aa aq dt x.1 x.2) (fun x aC=>aC=⟨220,[(0,.sl 8 aM 0 aa.length),(2,I aq),(4,.func (.func bM) ch),(14,I x.1),(15,I x.2)],[(aM,cO aa)]⟩) h ?_ ?_
   ·exact aj.lq [0] J J J
   ·intro x z3 aC J3 dL h H9 DI
    obtain ⟨n20,n21⟩:=x
    obtain rfl:=dL
    replace h:eK aa aq dt n20 n21=some z3:=h
    unfold eK at h
    refine tS<|aI<|rM J J<|rM J J<|ah.qv (bB J J) J<|rN<|cD h J (fun h=>?_) (fun h=>?_)
    ·refine tK<|ae.block<|aI<|rM J J<|rM J J<|ah.qv (aV J J) J<|ah.qv (fj J) J<|ah.qv (zG J J (by decide)) J<|ah.qv (fj J) J<|rA J J<|rN<|tS<|ae.bV (id:=17) (A:=[0,0,0,6,14,0,0,96,224,511,1023,2047]) 12 mixed J (by kernel_rfl) (by kernel_rfl)<|AM.qv (ax J) J<|AM.qv (ax J) J<|AM.qv (ax J) J<|aA h fun v22 e8 h=>AM.qv (aP J J J e8) J<|AM.qv (aR (g:=Shown.av) J J (.inl .p0) J e8 J) J<|AM.qv (ax J) J<|AM.qv (ax J) J<|aA h fun v23 e9 h=>AM.qv (aP J J J e9) J<|AM.qv (aR (g:=Shown.av) J J (.inl .p0) J e9 J) J<|aA h fun v24 yl h=>AM.tD J J (gV yl) cR J<|AM.qv (bB J J) J<|AM.qv (lM J) J<|AM.nil<|rN<|ae.cut (fun aC=>∃ (n25:Int) (n26:Int),eI n25 n26=some z3∧aC=⟨220,[(0,.sl 8 aM 0 aa.length),(2,I aq),(4,.func (.func bM) ch),(14,I n25),(15,I n26)],[(aM,cO aa)]⟩) ?_ ?_
     ·refine cD h J (fun h=>?_) (fun h=>?_)
      ·exact tR<|rM J J<|ah.qv (aV J J) J<|rA J J<|rN<|ae.stop<|aj.lq [0] ⟨aN ((aN (bX .u64 (IntKind.u64.wrap (aN (n20+n21))) (1:Int)))+(1:Int)),n21,h,J⟩ J J
      ·exact tR<|rM J J<|rA J J<|rN<|ae.stop<|aj.lq [0] ⟨n20,aN (bX .u64 (IntKind.u64.wrap (aN (n20+n21))) (1:Int)),h,J⟩ J J
     ·rintro aC ⟨n25,n26,h,rfl⟩
      unfold eI at h
      refine ae.cd<|ae.stop<|?_
      cases h
      exact H9 _ _ J<|aj.lq [0] J J J
    ·refine ae.exit J<|have h:=bP h DI;tS<|aI<|rM J J<|rA J J<|rN<|ae.block<|ae.bS (fun x:(List Shown)×Int=>eJ n20 x.1 x.2) (fun x aC=>aC=⟨220,[(0,.sl 8 aM 0 x.1.length),(14,I n20),(17,I x.2)],[(aM,cO x.1)]⟩) h ?_ ?_
     ·exact aj.lq [0] J J J
     ·intro x z4 aC J4 dL h Tz TA
      obtain ⟨oN,n30⟩:=x
      obtain rfl:=dL
      replace h:eJ n20 oN n30=some z4:=h
      unfold eJ at h
      refine tS<|aI<|rM J J<|rM J J<|ah.qv (gR J J) J<|rN<|cD h J (fun h=>?_) (fun h=>?_)
      ·refine tK<|tS<|ae.block<|aA h fun v31 CX h=>aA h fun v32 Gl h=>aA h fun v33 Gm h=>ae.fK (id:=23) (A:=[0,0,0,0,8,0,0,64,224,480,0,0,3072,7168,16355,32739,65535,131071]) (H0:=[(aM,cO oN)]) (HH:=fun β=>[(aM,cO (oN.set n30.toNat v31))]) 16 mixed J (by kernel_rfl) (by kernel_rfl) [⟨none,some 15,[9,13],fun _=>(aM,cO oN),none,[]⟩,⟨some 15,none,[],fun _=>(aM,cO (oN.set n30.toNat v31)),none,[]⟩] [] J (by kernel_rfl) J (.cons .p0 .nil) (fun _=>J)<|AT.am 9 J J<|AM.qv (ax J) J<|AM.qv (ax J) J<|AM.qv (ax J) J<|AM.qv (ax J) J<|AM.qv (bF J J) J<|AM.qv (ax J) J<|AM.qv (ax J) J<|AM.qv (bF J J) J<|AM.qv (aP J J J CX) J<|AM.nil<|AT.rd (Rs:=[(aM,cO oN)]) (fun _=>J) J (fun _=>J) (fun _=>J) (aR (g:=Shown.av) J J (.inl .p0) J CX J) J<|AT.am 3 J J<|AM.qv (ax J) J<|AM.qv (ax J) J<|AM.qv (aP J J J Gl) J<|AM.nil<|AT.rd (Rs:=[(aM,cO oN)]) (fun _=>J) J (fun _=>J) (fun _=>J) (aR (g:=Shown.av) J J (.inl .p0) J Gl J) J<|AT.am 1 J J<|AM.qv (aP J J J Gm) J<|AM.nil<|AT.yY (Ti:=[(aM,cO oN)]) (Pi:=[(aM,cO (oN.set n30.toNat v31))]) (fun _=>J) (fun _=>J) (fun _=>J) J J ?_ ?_
       ·exact br (g:=Shown.av) (uB:=v31) J J J J Gm J .p0 J<|ah.nil ⟨_,J⟩
       refine AT.qS (fun _=>J) fun β=>ah.ghost<|aj.eqs (s:=0) (bZ:=.sl 8 aM 0 (oN.set n30.toNat v31).length) J (by simp)<|aj.here<|ah.ghost<|aj.eqs (s:=113) (bZ:=.sl 8 aM 0 (oN.set n30.toNat v31).length) J (by simp)<|aj.here<|ah.ghost<|aj.eqs (s:=115) (bZ:=.sl 8 aM 0 (oN.set n30.toNat v31).length) J (by simp)<|aj.here<|ah.ghost<|aj.eqs (s:=118) (bZ:=.sl 8 aM 0 (oN.set n30.toNat v31).length) J (by simp)<|aj.here<|ah.ghost<|aj.eqs (s:=123) (bZ:=.sl 8 aM 0 (oN.set n30.toNat v31).length) J (by simp)<|aj.here<|aA h fun oH J0 h=>ah.qv (aP J J J J0) J<|br (g:=Shown.av) (uB:=v32) J J J J J0 J .p0 J<|ah.ghost<|aj.eqs (s:=0) (bZ:=.sl 8 aM 0 ((oN.set n30.toNat v31).set (aN (n30 - (1:Int))).toNat v32).length) J (by rw [List.length_set])<|aj.here<|ah.ghost<|aj.eqs (s:=113) (bZ:=.sl 8 aM 0 ((oN.set n30.toNat v31).set (aN (n30 - (1:Int))).toNat v32).length) J (by rw [List.length_set])<|aj.here<|ah.ghost<|aj.eqs (s:=115) (bZ:=.sl 8 aM 0 ((oN.set n30.toNat v31).set (aN (n30 - (1:Int))).toNat v32).length) J (by rw [List.length_set])<|aj.here<|ah.ghost<|aj.eqs (s:=118) (bZ:=.sl 8 aM 0 ((oN.set n30.toNat v31).set (aN (n30 - (1:Int))).toNat v32).length) J (by rw [List.length_set])<|aj.here<|ah.ghost<|aj.eqs (s:=123) (bZ:=.sl 8 aM 0 ((oN.set n30.toNat v31).set (aN (n30 - (1:Int))).toNat v32).length) J (by rw [List.length_set])<|aj.here<|rN<|ae.cd<|tR<|rM J J<|ah.qv (bF J J) J<|rA J J<|rN<|ae.stop<|?_
       cases h
       exact Tz _ _ J<|aj.lq [0] J J J
      ·refine ae.exit J<|have h:=bP h TA;ae.ret<|?_
       cases h
       exact aj.here ⟨_,.nil,_,.cons .p0 .nil,⟨J,J⟩⟩
  ·refine tK<|aI<|rM J J<|rM J J<|ah.qv (aV J J) J<|ah.qv (fj J) J<|ah.qv (zG J J (by decide)) J<|ah.qv (fj J) J<|rA J J<|rN<|aI<|rM J J<|rM J J<|ah.qv (aV J J) J<|rA J J<|rN<|aI<|rA J J<|rA J J<|rN<|tS<|aI<|rM J J<|rM J J<|ah.qv (gR J J) J<|rN<|ae.cut (fun aC=>∃ (n35:Int) (n36:Int),eQ self aa ai aq aT dt n35 n36=some r∧aC=⟨220,[(0,.sl 8 aM 0 aa.length),(1,I ai),(2,I aq),(3,I aT),(4,.func (.func bM) ch),(18,I (aN (bX .u64 (IntKind.u64.wrap (aN (ai+aT))) (1:Int)))),(19,I (aN ((aN (bX .u64 (IntKind.u64.wrap (aN (ai+aT))) (1:Int)))+aq))),(20,I n35),(21,I n36)],[(aM,cO aa)]⟩) ?_ ?_
   ·refine cD h J (fun h=>?_) (fun h=>?_)
    ·exact aI<|rM J J<|rM J J<|ah.qv (bF J J) J<|rA J J<|rN<|tR<|rM J J<|rA J J<|rN<|ae.stop<|aj.lq [0] ⟨aN ((aN ((aN (bX .u64 (IntKind.u64.wrap (aN (ai+aT))) (1:Int)))+aq)) - aT),aN (bX .u64 (IntKind.u64.wrap (aN (ai+aT))) (1:Int)),h,J⟩ J J
    ·exact aI<|rM J J<|rA J J<|rN<|tR<|rM J J<|rA J J<|rN<|ae.stop<|aj.lq [0] ⟨ai,aq,h,J⟩ J J
   ·rintro aC ⟨n35,n36,h,rfl⟩
    unfold eQ at h
    refine aI<|rM J J<|ah.qv (bF J J) J<|rA J J<|rN<|tS<|ae.block<|ae.bS (fun x:Int×Int=>eP self aa ai aq aT dt x.1 x.2) (fun x aC=>aC=⟨220,[(0,.sl 8 aM 0 aa.length),(1,I ai),(2,I aq),(3,I aT),(4,.func (.func bM) ch),(18,I (aN (bX .u64 (IntKind.u64.wrap (aN (ai+aT))) (1:Int)))),(19,I (aN ((aN (bX .u64 (IntKind.u64.wrap (aN (ai+aT))) (1:Int)))+aq))),(20,I x.1),(21,I x.2),(22,I (aN ((aN ((aN (bX .u64 (IntKind.u64.wrap (aN (ai+aT))) (1:Int)))+aq)) - (1:Int))))],[(aM,cO aa)]⟩) h ?_ ?_
    ·exact aj.lq [0] J J J
    ·intro x z5 aC J5 dL h TB TC
     obtain ⟨n39,n40⟩:=x
     obtain rfl:=dL
     replace h:eP self aa ai aq aT dt n39 n40=some z5:=h
     unfold eP at h
     refine tS<|aI<|rM J J<|rM J J<|ah.qv (bB J J) J<|rN<|cD h J (fun h=>?_) (fun h=>?_)
     ·refine tK<|ae.block<|aI<|rM J J<|rM J J<|ah.qv (aV J J) J<|ah.qv (fj J) J<|ah.qv (zG J J (by decide)) J<|ah.qv (fj J) J<|rA J J<|rN<|tS<|ae.bV (id:=35) (A:=[0,0,0,0,12,30,62,0,0,384,896,2047,4095,8191]) 14 mixed J (by kernel_rfl) (by kernel_rfl)<|AM.qv (ax J) J<|AM.qv (ax J) J<|AM.qv (ax J) J<|AM.qv (ax J) J<|AM.qv (bF J J) J<|aA h fun v41 Eh h=>AM.qv (aP J J J Eh) J<|AM.qv (aR (g:=Shown.av) J J (.inl .p0) J Eh J) J<|AM.qv (ax J) J<|AM.qv (ax J) J<|aA h fun ID Mn h=>AM.qv (aP J J J Mn) J<|AM.qv (aR (g:=Shown.av) J J (.inl .p0) J Mn J) J<|aA h fun zc OC h=>AM.tD J J (gV OC) cR J<|AM.qv (bB J J) J<|AM.qv (lM J) J<|AM.nil<|rN<|ae.cut (fun aC=>∃ (n44:Int) (n45:Int),eM n44 n45=some z5∧aC=⟨220,[(0,.sl 8 aM 0 aa.length),(1,I ai),(2,I aq),(3,I aT),(4,.func (.func bM) ch),(18,I (aN (bX .u64 (IntKind.u64.wrap (aN (ai+aT))) (1:Int)))),(19,I (aN ((aN (bX .u64 (IntKind.u64.wrap (aN (ai+aT))) (1:Int)))+aq))),(20,I n44),(21,I n45),(22,I (aN ((aN ((aN (bX .u64 (IntKind.u64.wrap (aN (ai+aT))) (1:Int)))+aq)) - (1:Int))))],[(aM,cO aa)]⟩) ?_ ?_
      ·refine cD h J (fun h=>?_) (fun h=>?_)
       ·exact tR<|rM J J<|ah.qv (aV J J) J<|rA J J<|rN<|ae.stop<|aj.lq [0] ⟨aN ((aN (bX .u64 (IntKind.u64.wrap (aN (n39+n40))) (1:Int)))+(1:Int)),n40,h,J⟩ J J
       ·exact tR<|rM J J<|rA J J<|rN<|ae.stop<|aj.lq [0] ⟨n39,aN (bX .u64 (IntKind.u64.wrap (aN (n39+n40))) (1:Int)),h,J⟩ J J
      ·rintro aC ⟨n44,n45,h,rfl⟩
       unfold eM at h
       refine ae.cd<|ae.stop<|?_
       cases h
       exact TB _ _ J<|aj.lq [0] J J J
     ·refine ae.exit J<|have h:=bP h TC;aI<|rM J J<|rM J J<|ah.qv (bF J J) J<|rA J J<|rN<|tS<|tS<|ae.cut (fun aC=>∃ (JR:Bool),gL self aa ai aq aT dt n39 JR=some r∧aC=⟨220,[(0,.sl 8 aM 0 aa.length),(1,I ai),(2,I aq),(3,I aT),(4,.func (.func bM) ch),(18,I (aN (bX .u64 (IntKind.u64.wrap (aN (ai+aT))) (1:Int)))),(20,I n39),(24,I (aN ((aN ((aN (bX .u64 (IntKind.u64.wrap (aN (ai+aT))) (1:Int)))+aq)) - n39))),(185,.bool JR)],[(aM,cO aa)]⟩) ?_ ?_
      ·refine tR<|rM J J<|rM J J<|ah.qv (bB J J) J<|rM J J<|ah.bJ J J J (fun hc=>?_) (fun hc=>?_)
       ·rw [lB hc] at h
        exact rM J J<|rY J J J<|rM J J<|rY J J J<|ah.qv (bB J J) J<|rT J J J<|rN<|ae.stop<|aj.lq [0] ⟨decide (aq < (aN ((aN ((aN (bX .u64 (IntKind.u64.wrap (aN (ai+aT))) (1:Int)))+aq)) - n39))),h,J⟩ J J
       ·rw [lC hc] at h
        exact rG J J J J<|rG J J J J<|rE J J J<|rN<|ae.stop<|aj.lq [0] ⟨false,h,J⟩ J J
      ·rintro aC ⟨JR,h,rfl⟩
       unfold gL at h
       refine ae.cut (fun aC=>∃ (vl:List Shown),eO self ai aq aT dt n39 vl=some r∧aC=⟨220,[(0,.sl 8 aM 0 vl.length),(1,I ai),(3,I aT),(4,.func (.func bM) ch),(18,I (aN (bX .u64 (IntKind.u64.wrap (aN (ai+aT))) (1:Int)))),(20,I n39),(24,I (aN ((aN ((aN (bX .u64 (IntKind.u64.wrap (aN (ai+aT))) (1:Int)))+aq)) - n39)))],[(aM,cO vl)]⟩) ?_ ?_
       ·refine cB h J (fun h=>?_) (fun h=>?_)
        ·exact tR<|rM J J<|rM J J<|rM J J<|rM J J<|rM J J<|aA h fun bD J7 h=>ba J (re gV (fL J7)) cR (.cons .p0 .nil) J J<|ah.ghost<|aj.eqs (s:=0) (bZ:=.sl 8 aM 0 bD.length) J (congrArg (AV.sl 8 aM 0) (bG J7))<|aj.here<|ah.ghost<|aj.eqs (s:=186) (bZ:=.sl 8 aM 0 bD.length) J (congrArg (AV.sl 8 aM 0) (bG J7))<|aj.here<|rN<|ae.stop<|aj.lq [0] ⟨bD,h,J⟩ J J
        ·exact tK<|ae.stop<|aj.lq [0] ⟨aa,h,J⟩ J J
       ·rintro aC ⟨vl,h,rfl⟩
        unfold eO at h
        refine tS<|tS<|ae.cut (fun aC=>∃ (c49:Bool),gK self ai aq aT dt n39 vl c49=some r∧aC=⟨220,[(0,.sl 8 aM 0 vl.length),(1,I ai),(3,I aT),(4,.func (.func bM) ch),(18,I (aN (bX .u64 (IntKind.u64.wrap (aN (ai+aT))) (1:Int)))),(20,I n39),(24,I (aN ((aN ((aN (bX .u64 (IntKind.u64.wrap (aN (ai+aT))) (1:Int)))+aq)) - n39))),(199,.bool c49)],[(aM,cO vl)]⟩) ?_ ?_
        ·refine tR<|rM J J<|rM J J<|ah.qv (bB J J) J<|rM J J<|ah.bJ J J J (fun hc=>?_) (fun hc=>?_)
         ·rw [lB hc] at h
          exact rM J J<|rY J J J<|rM J J<|rY J J J<|ah.qv (bB J J) J<|rT J J J<|rN<|ae.stop<|aj.lq [0] ⟨decide (n39 < (aN (bX .u64 (IntKind.u64.wrap (aN (ai+aT))) (1:Int)))),h,J⟩ J J
         ·rw [lC hc] at h
          exact rG J J J J<|rG J J J J<|rE J J J<|rN<|ae.stop<|aj.lq [0] ⟨false,h,J⟩ J J
        ·rintro aC ⟨c49,h,rfl⟩
         unfold gK at h
         refine ae.cut (fun aC=>∃ (wS:List Shown),eN self ai aq aT dt n39 wS=some r∧aC=⟨220,[(0,.sl 8 aM 0 wS.length),(3,I aT),(4,.func (.func bM) ch),(18,I (aN (bX .u64 (IntKind.u64.wrap (aN (ai+aT))) (1:Int)))),(24,I (aN ((aN ((aN (bX .u64 (IntKind.u64.wrap (aN (ai+aT))) (1:Int)))+aq)) - n39)))],[(aM,cO wS)]⟩) ?_ ?_
         ·refine cB h J (fun h=>?_) (fun h=>?_)
          ·exact tR<|rM J J<|rM J J<|rM J J<|rM J J<|rM J J<|aA h fun v51 J8 h=>ba J (Br gV (fL J8)) cR (.cons .p0 .nil) J J<|ah.ghost<|aj.eqs (s:=0) (bZ:=.sl 8 aM 0 v51.length) J (congrArg (AV.sl 8 aM 0) (bG J8))<|aj.here<|ah.ghost<|aj.eqs (s:=200) (bZ:=.sl 8 aM 0 v51.length) J (congrArg (AV.sl 8 aM 0) (bG J8))<|aj.here<|rN<|ae.stop<|aj.lq [0] ⟨v51,h,J⟩ J J
          ·exact tK<|ae.stop<|aj.lq [0] ⟨vl,h,J⟩ J J
         ·rintro aC ⟨wS,h,rfl⟩
          unfold eN at h
          refine tS<|ae.cut (fun aC=>∃ (JQ:Bool),gJ self ai aq aT dt n39 wS JQ=some r∧aC=⟨220,[(0,.sl 8 aM 0 wS.length),(3,I aT),(4,.func (.func bM) ch),(18,I (aN (bX .u64 (IntKind.u64.wrap (aN (ai+aT))) (1:Int)))),(24,I (aN ((aN ((aN (bX .u64 (IntKind.u64.wrap (aN (ai+aT))) (1:Int)))+aq)) - n39))),(213,.bool JQ)],[(aM,cO wS)]⟩) ?_ ?_
          ·refine tR<|rM J J<|rM J J<|ah.qv (bB J J) J<|rM J J<|ah.bJ J J J (fun hc=>?_) (fun hc=>?_)
           ·rw [lB hc] at h
            exact rM J J<|rY J J J<|rM J J<|rY J J J<|ah.qv (bB J J) J<|rT J J J<|rN<|ae.stop<|aj.lq [0] ⟨decide ((aN ((aN ((aN (bX .u64 (IntKind.u64.wrap (aN (ai+aT))) (1:Int)))+aq)) - n39)) < aT),h,J⟩ J J
           ·rw [lC hc] at h
            exact rG J J J J<|rG J J J J<|rE J J J<|rN<|ae.stop<|aj.lq [0] ⟨false,h,J⟩ J J
          ·rintro aC ⟨JQ,h,rfl⟩
           unfold gJ at h
           refine ae.cut (fun aC=>∃ (Gg:List Shown),et Gg=some r∧aC=⟨220,[],[(aM,cO Gg)]⟩) ?_ ?_
           ·refine cB h J (fun h=>?_) (fun h=>?_)
            ·exact tR<|rM J J<|rM J J<|rM J J<|rM J J<|rM J J<|aA h fun v54 Mo h=>ba J (Br gV (fL Mo)) cR (.cons .p0 .nil) J J<|ah.ghost<|aj.eqs (s:=0) (bZ:=.sl 8 aM 0 v54.length) J (congrArg (AV.sl 8 aM 0) (bG Mo))<|aj.here<|ah.ghost<|aj.eqs (s:=214) (bZ:=.sl 8 aM 0 v54.length) J (congrArg (AV.sl 8 aM 0) (bG Mo))<|aj.here<|rN<|ae.stop<|aj.lq [0] ⟨v54,h,J⟩ J J
            ·exact tK<|ae.stop<|aj.lq [0] ⟨wS,h,J⟩ J J
           ·rintro aC ⟨Gg,h,rfl⟩
            unfold et at h
            refine ae.nil<|?_
            cases h
            exact aj.here ⟨_,.nil,_,.cons .p0 .nil,⟨J,J⟩⟩
theorem pr [GI:bA]:∀ (k:Nat) {aM:Bk} {aa:List Shown} {ai:Int} {aq:Int} {aT:Int} {dt:Shown→Shown→Option Int} {bM:FuncId} [bq Tryz.prog bM] {ch:List AV} (gV:∀ {y0 y1:_} {u:Int},dt y0 y1=some u→Pu Tryz.prog bM (Shown.av y0 :: Shown.av y1 :: ch) (I u)) {r:(List Shown)},ib k aa ai aq aT dt=some r→aG Tryz.prog 228 [.sl 8 aM 0 aa.length,I ai,I aq,I aT,.func (.func bM) ch] [(aM,cO aa)] (T0 ([(aM,cO r)]) (.nI [])):=by
 intro k
 induction k with
 | zero=>intro aM aa ai aq aT dt bM _ ch gV r h;cases h
 | succ k ih=>intro aM aa ai aq aT dt bM _ ch gV r h;exact oU ih gV h
theorem lu [GI:bA] {aM:Bk} {aa:List Shown} {ai:Int} {aq:Int} {aT:Int} {dt:Shown→Shown→Option Int} {bM:FuncId} [bq Tryz.prog bM] {ch:List AV} (gV:∀ {y0 y1:_} {u:Int},dt y0 y1=some u→Pu Tryz.prog bM (Shown.av y0 :: Shown.av y1 :: ch) (I u)) {r:(List Shown)} (h:iV aa ai aq aT dt=some r):aG Tryz.prog 228 [.sl 8 aM 0 aa.length,I ai,I aq,I aT,.func (.func bM) ch] [(aM,cO aa)] (T0 ([(aM,cO r)]) (.nI [])):=pr depth gV h
theorem rf [GI:bA] {aM:Bk} {aa:List Shown} {ai:Int} {pc:Shown→Shown→Option Int} {sH:FuncId} [bq Tryz.prog sH] {uf:List AV} (ym:∀ {y0 y1:_} {u:Int},pc y0 y1=some u→Pu Tryz.prog sH (Shown.av y0 :: Shown.av y1 :: uf) (I u)) {r:(List Shown)} (h:eW aa ai pc=some r):aG Tryz.prog 177 [.sl 8 aM 0 aa.length,I ai,.func (.func sH) uf] [(aM,cO aa)] (T0 ([(aM,cO r)]) (.nI [])):=by
 unfold eW at h
 refine aG.dD ?_
 refine aG.bw Tryz.func177 J Tryz.ntmps177 Tryz.results177 J J ?_
 refine aI<|rA J J<|rN<|aI<|rM J J<|rA J J<|rA J J<|rN<|tS<|ae.block<|ae.bS (fun x:(List Shown)×Int×Int=>dx ai pc x.1 x.2.1 x.2.2) (fun x aC=>aC=⟨63,[(0,.sl 8 aM 0 x.1.length),(1,I ai),(2,.func (.func sH) uf),(6,I (20:Int)),(7,I x.2.1),(8,I x.2.2)],[(aM,cO x.1)]⟩) h ?_ ?_
 ·exact aj.lq [0] J J J
 ·intro x z1 aC J1 dL h jF fP
  obtain ⟨l4,n5,n6⟩:=x
  obtain rfl:=dL
  replace h:dx ai pc l4 n5 n6=some z1:=h
  unfold dx at h
  refine tS<|aI<|rM J J<|rM J J<|ah.qv (oW J J) J<|rN<|cD h J (fun h=>?_) (fun h=>?_)
  ·refine tK<|ae.block<|aI<|rM J J<|rM J J<|rM J J<|rM J J<|aA h fun v7 e1 h=>ba J (jr ym (fL e1)) cR (.cons .p0 .nil) J J<|ah.ghost<|aj.eqs (s:=0) (bZ:=.sl 8 aM 0 v7.length) J (congrArg (AV.sl 8 aM 0) (bG e1))<|aj.here<|ah.ghost<|aj.eqs (s:=14) (bZ:=.sl 8 aM 0 v7.length) J (congrArg (AV.sl 8 aM 0) (bG e1))<|aj.here<|rN<|aI<|rM J J<|rA J J<|rN<|tR<|rM J J<|rM J J<|ah.qv (aV J J) J<|rA J J<|rN<|ae.cd<|ae.stop<|?_
   cases h
   exact jF _ _ J<|aj.lq [0] J J J
  ·refine ae.exit J<|have h:=bP h fP;?_
   unfold iG at h
   refine aI<|rM J J<|rM J J<|rM J J<|rM J J<|aA h fun v8 e2 h=>ba J (jr ym (fL e2)) cR (.cons .p0 .nil) J J<|ah.ghost<|aj.eqs (s:=0) (bZ:=.sl 8 aM 0 v8.length) J (congrArg (AV.sl 8 aM 0) (bG e2))<|aj.here<|ah.ghost<|aj.eqs (s:=23) (bZ:=.sl 8 aM 0 v8.length) J (congrArg (AV.sl 8 aM 0) (bG e2))<|aj.here<|rN<|ae.block<|ae.bS (fun x:(List Shown)×Int=>dw ai pc x.1 x.2) (fun x aC=>aC=⟨63,[(0,.sl 8 aM 0 x.1.length),(1,I ai),(2,.func (.func sH) uf),(6,I x.2)],[(aM,cO x.1)]⟩) h ?_ ?_
   ·exact aj.lq [0] J J J
   ·intro x z2 aC J2 dL h xC wW
    obtain ⟨iY,n12⟩:=x
    obtain rfl:=dL
    replace h:dw ai pc iY n12=some z2:=h
    unfold dw at h
    refine tS<|aI<|rM J J<|rM J J<|ah.qv (bB J J) J<|rN<|cD h J (fun h=>?_) (fun h=>?_)
    ·refine tK<|ae.block<|aI<|rM J J<|ah.qv (vr J J) J<|rA J J<|rA J J<|rN<|tS<|ae.block<|ae.bS (fun x:(List Shown)×Int×Int=>fE ai pc n12 x.1 x.2.1 x.2.2) (fun x aC=>aC=⟨63,[(0,.sl 8 aM 0 x.1.length),(1,I ai),(2,.func (.func sH) uf),(6,I n12),(7,I x.2.1),(8,I x.2.2)],[(aM,cO x.1)]⟩) h ?_ ?_
     ·exact aj.lq [0] J J J
     ·intro x z3 aC J3 dL h H9 DI
      obtain ⟨sX,n17,n18⟩:=x
      obtain rfl:=dL
      replace h:fE ai pc n12 sX n17 n18=some z3:=h
      unfold fE at h
      refine tS<|aI<|rM J J<|rM J J<|ah.qv (oW J J) J<|rN<|cD h J (fun h=>?_) (fun h=>?_)
      ·refine tK<|ae.block<|aI<|rM J J<|rM J J<|rM J J<|rM J J<|ah.qv (aV J J) J<|rM J J<|rM J J<|aA h fun w9 e3 h=>ba J (lu ym (fL e3)) cR (.cons .p0 .nil) J J<|ah.ghost<|aj.eqs (s:=0) (bZ:=.sl 8 aM 0 w9.length) J (congrArg (AV.sl 8 aM 0) (bG e3))<|aj.here<|ah.ghost<|aj.eqs (s:=36) (bZ:=.sl 8 aM 0 w9.length) J (congrArg (AV.sl 8 aM 0) (bG e3))<|aj.here<|rN<|aI<|rM J J<|rA J J<|rN<|tR<|rM J J<|rM J J<|ah.qv (vr J J) J<|ah.qv (aV J J) J<|rA J J<|rN<|ae.cd<|ae.stop<|?_
       cases h
       exact H9 _ _ J<|aj.lq [0] J J J
      ·refine ae.exit J<|have h:=bP h DI;?_
       unfold lH at h
       refine tS<|aI<|rM J J<|rM J J<|ah.qv (aV J J) J<|rA J J<|rN<|aI<|rM J J<|rM J J<|ah.qv (bB J J) J<|rN<|ae.cut (fun aC=>∃ (qP:List Shown),fD n12 qP=some z2∧aC=⟨63,[(0,.sl 8 aM 0 qP.length),(1,I ai),(2,.func (.func sH) uf),(6,I n12)],[(aM,cO qP)]⟩) ?_ ?_
       ·refine cD h J (fun h=>?_) (fun h=>?_)
        ·exact tR<|rM J J<|rM J J<|rM J J<|rM J J<|rM J J<|aA h fun v21 e4 h=>ba J (lu ym (fL e4)) cR (.cons .p0 .nil) J J<|ah.ghost<|aj.eqs (s:=0) (bZ:=.sl 8 aM 0 v21.length) J (congrArg (AV.sl 8 aM 0) (bG e4))<|aj.here<|ah.ghost<|aj.eqs (s:=55) (bZ:=.sl 8 aM 0 v21.length) J (congrArg (AV.sl 8 aM 0) (bG e4))<|aj.here<|rN<|ae.stop<|aj.lq [0] ⟨v21,h,J⟩ J J
        ·exact tK<|ae.stop<|aj.lq [0] ⟨sX,h,J⟩ J J
       ·rintro aC ⟨qP,h,rfl⟩
        unfold fD at h
        refine tR<|rM J J<|ah.qv (vr J J) J<|rA J J<|rN<|ae.cd<|ae.stop<|?_
        cases h
        exact xC _ _ J<|aj.lq [0] J J J
    ·refine ae.exit J<|have h:=bP h wW;ae.nil<|?_
     cases h
     exact aj.here ⟨_,.nil,_,.cons .p0 .nil,⟨J,J⟩⟩
theorem nY [GI:bA] {aM:Bk} {aa:List Shown} {dH:Shown→Shown→Option Int} {cu:FuncId} [bq Tryz.prog cu] {dP:List AV} (kJ:∀ {y0 y1:_} {u:Int},dH y0 y1=some u→Pu Tryz.prog cu (Shown.av y0 :: Shown.av y1 :: dP) (I u)) {r:(List Shown)} (h:cA aa dH=some r):aG Tryz.prog 131 [.sl 8 aM 0 aa.length,.func (.func cu) dP] [(aM,cO aa)] (T0 ([(aM,cO r)]) (.nI [])):=by
 unfold cA at h
 refine aG.dD ?_
 refine aG.bw Tryz.func131 J Tryz.ntmps131 Tryz.results131 J J ?_
 refine tR<|rM J J<|rM J J<|ah.qv (eR J) J<|rM J J<|aA h fun v1 e1 h=>ba J (rf kJ (fL e1)) cR (.cons .p0 .nil) J J<|ah.ghost<|aj.eqs (s:=0) (bZ:=.sl 8 aM 0 v1.length) J (congrArg (AV.sl 8 aM 0) (bG e1))<|aj.here<|ah.ghost<|aj.eqs (s:=4) (bZ:=.sl 8 aM 0 v1.length) J (congrArg (AV.sl 8 aM 0) (bG e1))<|aj.here<|ah.ghost<|aj.eqs (s:=5) (bZ:=.sl 8 aM 0 v1.length) J (congrArg (AV.sl 8 aM 0) (bG e1))<|aj.here<|rN<|ae.nil<|?_
 cases h
 exact aj.here ⟨_,.nil,_,.cons .p0 .nil,⟨J,J⟩⟩
theorem Gr [GI:bA] {aa:bd} {ai:List Signal} {aq:Int} {r:(List Shown)} (h:vM aa ai aq=some r):aG Tryz.prog 60 [bd.av aa,nw ai,I aq] [] (T1 (fun lV=>[(lV,cO r)]) (fun lV=>.sl 8 lV 0 r.length)):=by
 unfold vM at h
 refine aG.dD ?_
 refine aG.bw Tryz.func60 J Tryz.ntmps60 Tryz.results60 J J ?_
 refine aI<|dC J J J J fun b1=>rA J J<|rN<|aI<|ah.qv (aL J J .p0 J) J<|rM J J<|rM J J<|aA h fun v2 e1 h=>ik J (Bz e1) cR .nil (fun _=>J) J fun b3=>rA J J<|rN<|aI<|rA J J<|rN<|tS<|aI<|rM J J<|ah.qv (eR J) J<|rM J J<|rN<|ae.block<|ae.bS (fun x:(List Shown)×Int=>ku aa ai aq v2 x.1 x.2) (fun x aC=>∃ (b7:Bk),aC=⟨76,[(1,nw ai),(2,I aq),(3,.ptr b1 0),(7,.sl 6 b3 0 v2.length),(8,.sl 8 b7 0 x.1.length),(19,.sl 6 b3 0 v2.length),(20,I (v2.length:Int)),(21,I x.2)],[(b1,.cells (xB aa)),(b3,vi v2),(b7,cO x.1)]⟩) h ?_ ?_
 ·exact aj.arr (s:=8) 8 J fun pz=>aj.lq [2,1,0] ⟨pz,J⟩ J J
 ·intro x z1 aC J1 dL h jF fP
  obtain ⟨l8,n9⟩:=x
  obtain ⟨b7,rfl⟩:=dL
  replace h:ku aa ai aq v2 l8 n9=some z1:=h
  unfold ku at h
  refine aI<|ah.qv (bB J J) J<|rN<|tS<|cD h J (fun h=>?_) (fun h=>?_)
  ·refine tK<|tS<|ae.cut (fun aC=>∃ (BY:Bk) (ly:List Shown),oL n9 ly=some z1∧aC=⟨76,[(1,nw ai),(2,I aq),(3,.ptr b1 0),(7,.sl 6 b3 0 v2.length),(8,.sl 8 BY 0 ly.length),(19,.sl 6 b3 0 v2.length),(20,I (v2.length:Int)),(21,I n9)],[(b1,.cells (xB aa)),(b3,vi v2),(BY,cO ly)]⟩) ?_ ?_
   ·refine ae.block<|aI<|aA h fun gb e2 h=>ah.qv (aP J J J e2) J<|ah.qv (aR (g:=aH.av) J J (.inl .p1) J e2 J) J<|bT J J J J fun ux=>aE J J J J .p0 J J<|rN<|tS<|aI<|ah.qv (aL J J .p1 J) J<|rM J J<|rF J J J<|rL J J .p0 J J<|rM J J<|aA h fun rS e3 h=>bc J (vX e3) cR J<|ah.qv (zu J J) J<|rN<|cD h J (fun h=>?_) (fun h=>?_)
    ·exact ae.exit J<|ae.stop<|aj.lq [1,1,1] ⟨b7,l8,h,J⟩ J J
    ·refine tK<|aI<|ah.qv (aL J J .p1 J) J<|rF J J J<|rL J J .p0 J J<|aA h fun kS e4 h=>bc J (zO e4) cR J<|bT J J J J fun tG=>aE J J J J .p0 J J<|rN<|aI<|ah.qv (aL J J .p1 J) J<|rF J J J<|rL J J .p0 J J<|ah.qv (cF J J J J J) J<|bT J J J J fun sS=>aE J J J J .p0 J J<|rN<|tS<|aI<|rM J J<|ah.qv (eR J) J<|rM J J<|rN<|ae.block<|ae.bS (fun x:Int×Int=>kr aa ai aq v2 l8 n9 gb kS x.1 x.2) (fun x aC=>aC=⟨76,[(1,nw ai),(2,I aq),(3,.ptr b1 0),(7,.sl 6 b3 0 v2.length),(8,.sl 8 b7 0 l8.length),(10,.ptr ux 0),(11,.ptr tG 0),(12,.ptr sS 0),(19,.sl 6 b3 0 v2.length),(20,I (v2.length:Int)),(21,I n9),(40,.sl 6 b3 0 v2.length),(41,I (v2.length:Int)),(42,I x.2)],[(b1,.cells (xB aa)),(b3,vi v2),(b7,cO l8),(ux,.cells [.str gb.Device,.str gb.aZ,I gb.State,I gb.Since,I gb.o3,I gb.gP]),(tG,.cells [.str kS.aZ,I kS.Level,.bool kS.o1]),(sS,.cells [.str gb.Device,.str gb.aZ,I gb.State,I gb.Since,I gb.o3,I gb.gP,I kS.Level,I x.1])]⟩) h ?_ ?_
     ·exact aj.lq [3,3,3,2,1,0] J J J
     ·intro x z2 aC J2 dL h xC wW
      obtain ⟨n21,n22⟩:=x
      obtain rfl:=dL
      replace h:kr aa ai aq v2 l8 n9 gb kS n21 n22=some z2:=h
      unfold kr at h
      refine aI<|ah.qv (bB J J) J<|rN<|tS<|cD h J (fun h=>?_) (fun h=>?_)
      ·refine tK<|tS<|ae.block<|aI<|aA h fun v23 e5 h=>ah.qv (aP J J J e5) J<|ah.qv (aR (g:=aH.av) J J (.inl .p1) J e5 J) J<|bT J J J J fun BX=>aE J J J J .p0 J J<|rN<|tS<|ae.cut (fun aC=>∃ (JW:Bool),ng n21 n22 JW=some z2∧aC=⟨76,[(1,nw ai),(2,I aq),(3,.ptr b1 0),(7,.sl 6 b3 0 v2.length),(8,.sl 8 b7 0 l8.length),(10,.ptr ux 0),(11,.ptr tG 0),(12,.ptr sS 0),(19,.sl 6 b3 0 v2.length),(20,I (v2.length:Int)),(21,I n9),(40,.sl 6 b3 0 v2.length),(41,I (v2.length:Int)),(42,I n22),(62,.bool JW)],[(b1,.cells (xB aa)),(b3,vi v2),(b7,cO l8),(ux,.cells [.str gb.Device,.str gb.aZ,I gb.State,I gb.Since,I gb.o3,I gb.gP]),(tG,.cells [.str kS.aZ,I kS.Level,.bool kS.o1]),(sS,.cells [.str gb.Device,.str gb.aZ,I gb.State,I gb.Since,I gb.o3,I gb.gP,I kS.Level,I n21])]⟩) ?_ ?_
       ·refine ae.bV (id:=12) (A:=[0,1,3,7,15,31,63,127,127,127,639,127,4095,127,8319,32767,65535]) 17 mixed J (by kernel_rfl) (by kernel_rfl)<|AM.qv (au J J) J<|AM.qv (aB J J .p5 J) J<|AM.qv (ax J) J<|AM.guard J J J (fun hc=>?_) (fun hc=>?_)
        ·refine have h:=rO hc h;AM.qv (aL J J .p4 J) J<|AM.aF J J J<|AM.jR J (Fi J) cR J<|AM.qv (jv J J) J<|AM.qv (ax J) J<|AM.guard J J J (fun hc=>?_) (fun hc=>?_)
         ·exact have h:=rO hc h;AM.qv (aL J J .p1 J) J<|AM.aF J J J<|AM.qv (ax J) J<|AM.aF J J J<|AM.qv (au J J) J<|AM.aF J J J<|AM.qv (aB J J .p0 J) J<|AM.aF J J J<|AM.qv (ax J) J<|AM.aF J J J<|aA h fun v26 e6 h=>AM.jR J (vX e6) cR J<|AM.aF J J J<|AM.qv (au J J) J<|AM.aF J J J<|AM.qv (aB J J .p4 J) J<|AM.aF J J J<|AM.qv (uX J J) J<|AM.qv (jv J J) J<|AM.nil<|rN<|ae.stop<|aj.lq [1,1,1,1,1,1] ⟨decide (v26=gb.Device),h,J⟩ J J
         ·exact have h:=vz hc h;AM.aJ J J J J<|AM.aJ J J J J<|AM.aJ J J J J<|AM.aJ J J J J<|AM.aJ J J J J<|AM.aJ J J J J<|AM.aJ J J J J<|AM.aJ J J J J<|AM.qv (iX J J) J<|AM.nil<|rN<|ae.stop<|aj.lq [1,1,1,1,1,1] ⟨false,h,J⟩ J J
        ·exact have h:=vz hc h;AM.aJ J J J J<|AM.qv (iX J J) J<|AM.qv (ax J) J<|AM.aJ J J J J<|AM.aJ J J J J<|AM.aJ J J J J<|AM.aJ J J J J<|AM.aJ J J J J<|AM.aJ J J J J<|AM.aJ J J J J<|AM.aJ J J J J<|AM.aJ J J J J<|AM.qv (iX J J) J<|AM.nil<|rN<|ae.stop<|aj.lq [1,1,1,1,1,1] ⟨false,h,J⟩ J J
       ·rintro aC ⟨JW,h,rfl⟩
        unfold ng at h
        refine ae.cut (fun aC=>∃ (n27:Int),qG n22 n27=some z2∧aC=⟨76,[(1,nw ai),(2,I aq),(3,.ptr b1 0),(7,.sl 6 b3 0 v2.length),(8,.sl 8 b7 0 l8.length),(10,.ptr ux 0),(11,.ptr tG 0),(12,.ptr sS 0),(19,.sl 6 b3 0 v2.length),(20,I (v2.length:Int)),(21,I n9),(40,.sl 6 b3 0 v2.length),(41,I (v2.length:Int)),(42,I n22)],[(b1,.cells (xB aa)),(b3,vi v2),(b7,cO l8),(ux,.cells [.str gb.Device,.str gb.aZ,I gb.State,I gb.Since,I gb.o3,I gb.gP]),(tG,.cells [.str kS.aZ,I kS.Level,.bool kS.o1]),(sS,.cells [.str gb.Device,.str gb.aZ,I gb.State,I gb.Since,I gb.o3,I gb.gP,I kS.Level,I n27])]⟩) ?_ ?_
        ·refine cB h J (fun h=>?_) (fun h=>?_)
         ·exact tR<|rF J J J<|rL J J .p5 J J<|ah.qv (aV J J) J<|rF J J J<|aE J J J J .p5 J J<|rN<|ae.stop<|aj.lq [0,0,0,0,0,0] ⟨aN (n21+(1:Int)),h,J⟩ J J
         ·exact tK<|ae.stop<|aj.lq [0,0,0,0,0,0] ⟨n21,h,J⟩ J J
        ·rintro aC ⟨n27,h,rfl⟩
         unfold qG at h
         refine ae.cd<|tR<|ah.qv (aV J J) J<|rM J J<|rN<|ae.stop<|?_
         cases h
         exact xC _ _ J<|aj.lq [0,0,0,0,0,0] J J J
      ·refine ae.exit J<|have h:=bP h wW;?_
       unfold tq at h
       exact tR<|rM J J<|ah.qv (aL J J .p5 J) J<|aY (xs:=([(⟨gb,kS.Level,n21⟩:Shown)]).map Shown.av) J J J J J J<|aA h fun yh e7 h=>dq (g:=Shown.av) J J J J J J J J (.list _) e7 (fun _=>.p2) J fun Mm=>rA J J<|rN<|ae.cd<|ae.stop<|aj.lq [0,0,0] ⟨Mm,yh,h,J⟩ J J
   ·rintro aC ⟨BY,ly,h,rfl⟩
    unfold oL at h
    refine tR<|ah.qv (aV J J) J<|rM J J<|rN<|ae.stop<|?_
    cases h
    exact jF _ _ J<|aj.lq [0,0,0] ⟨BY,J⟩ J J
  ·refine ae.exit J<|have h:=bP h fP;?_
   unfold qH at h
   refine aI<|rM J J<|aA h fun v30 e8 h=>ba J (nY (fun e=>Cl e) (fL e8)) cR (.cons .p2 .nil) J J<|ah.ghost<|aj.eqs (s:=8) (bZ:=.sl 8 b7 0 v30.length) J (congrArg (AV.sl 8 b7 0) (bG e8))<|aj.here<|ah.ghost<|aj.eqs (s:=73) (bZ:=.sl 8 b7 0 v30.length) J (congrArg (AV.sl 8 b7 0) (bG e8))<|aj.here<|rN<|aI<|rM J J<|rA J J<|rN<|ae.ret<|?_
   cases h
   exact hH J [0] J ⟨b7,J,J⟩
theorem sM [GI:bA] {aa:List Shown} {ai:List Shown} {r:Bool} (h:iv aa ai=some r):Pu Tryz.prog 59 [Mk aa,Mk ai] (.bool r):=by
 unfold iv at h
 refine aG.bw Tryz.func59 J Tryz.ntmps59 Tryz.results59 J J ?_
 refine aI<|rA J J<|rN<|tS<|aI<|rM J J<|ah.qv (ey J) J<|rM J J<|ah.qv (ey J) J<|ah.qv (jH J J) J<|rN<|cD h J (fun h=>?_) (fun h=>?_)
 ·refine aI<|rA J J<|rN<|ae.ret<|?_
  cases h
  exact hP J J
 ·refine tK<|tS<|aI<|rM J J<|ah.qv (ey J) J<|rM J J<|rN<|ae.block<|ae.bS (fun x:Int=>gd aa ai x) (fun x aC=>aC=⟨26,[(0,Mk aa),(1,Mk ai),(12,I (aa.length:Int)),(13,I x)],[]⟩) h ?_ ?_
  ·exact aj.lq [] J J J
  ·intro n2 z1 aC J1 dL h jF fP
   obtain rfl:=dL
   replace h:gd aa ai n2=some z1:=h
   unfold gd at h
   refine aI<|ah.qv (bB J J) J<|rN<|tS<|cD h J (fun h=>?_) (fun h=>?_)
   ·refine tK<|tS<|ae.block<|aI<|rM J J<|rA J J<|rN<|tS<|ae.bV (id:=6) (A:=[0,0,3,7,0,0,48,112,255]) 9 mixed J (by kernel_rfl) (by kernel_rfl)<|AM.qv (ax J) J<|AM.qv (ax J) J<|aA h fun v3 e1 h=>AM.qv (bO J J J e1 J J) J<|AM.qv (bn J J J) J<|AM.qv (ax J) J<|AM.qv (ax J) J<|aA h fun v4 e2 h=>AM.qv (bO J J J e2 J J) J<|AM.qv (bn J J J) J<|AM.qv (PW (g:=Shown.av) (X:=v3) (Y:=v4) J J J J J) J<|AM.nil<|rN<|cD h J (fun h=>?_) (fun h=>?_)
    ·refine aI<|rA J J<|rN<|ae.ret<|have h:=bP h fP;?_
     cases h
     exact hP J J
    ·refine tK<|ae.cd<|tR<|ah.qv (aV J J) J<|rM J J<|rN<|ae.stop<|?_
     cases h
     exact jF _ _ J<|aj.lq [] J J J
   ·refine ae.exit J<|have h:=bP h fP;aI<|rA J J<|rN<|ae.ret<|?_
    cases h
    exact hP J J
theorem yu [GI:bA] {aa:List Signal} {ai:aS} {aq:aS} {r:Int} (h:mh aa ai aq=some r):Pu Tryz.prog 97 [nw aa,.str ai,.str aq] (I r):=by
 unfold mh at h
 refine aG.bw Tryz.func97 J Tryz.ntmps97 Tryz.results97 J J ?_
 refine aI<|rA J J<|rN<|tS<|aI<|rM J J<|aA h fun v1 e1 h=>bc J (nh e1) cR J<|rA J J<|rN<|aI<|rM J J<|ah.qv (jH J J) J<|rN<|cD h J (fun h=>?_) (fun h=>?_)
 ·refine aI<|rM J J<|rA J J<|rN<|ae.ret<|?_
  cases h
  exact hP J J
 ·refine tK<|tS<|tS<|ae.cut (fun aC=>∃ (c2:Bool),jE c2=some r∧aC=⟨21,[(20,.bool c2)],[]⟩) ?_ ?_
  ·refine tR<|rM J J<|aA h fun v3 e2 h=>bc J (kG e2) cR J<|ah.qv (dB J) J<|rM J J<|ah.guard J J J (fun hc=>?_) (fun hc=>?_)
   ·exact have h:=vz hc h;rM J J<|rY J J J<|aA h fun v4 e3 h=>bc J (kG e3) cR J<|rY J J J<|ah.qv (dB J) J<|rE J J J<|rN<|ae.stop<|aj.lq [] ⟨!v4,h,J⟩ J J
   ·exact have h:=rO hc h;rG J J J J<|rG J J J J<|rT J J J<|rN<|ae.stop<|aj.lq [] ⟨true,h,J⟩ J J
  ·rintro aC ⟨c2,h,rfl⟩
   unfold jE at h
   refine cB h J (fun h=>?_) (fun h=>?_)
   ·refine aI<|rA J J<|rN<|ae.ret<|?_
    cases h
    exact hP J J
   ·refine tK<|aI<|rA J J<|rN<|ae.ret<|?_
    cases h
    exact hP J J
theorem Ap [GI:bA] {aa:List Signal} {ai:aS} {aq:aS} {aT:Int} {r:aH×Int} (h:nV aa ai aq aT=some r):Pu Tryz.prog 30 [nw aa,.str ai,.str aq,I aT] (.nI [aH.av r.1,I r.2]):=by
 unfold nV at h
 refine aG.bw Tryz.func30 J Tryz.ntmps30 Tryz.results30 J J ?_
 refine aI<|bT J J J J fun b1=>rA J J<|rN<|tS<|aI<|rM J J<|rM J J<|rM J J<|aA h fun v2 e1 h=>bc J (yu e1) cR J<|rA J J<|rN<|aI<|rM J J<|ah.qv (jH J J) J<|rN<|cD h J (fun h=>?_) (fun h=>?_)
 ·refine aI<|ah.qv (cF J J J J J) J<|rM J J<|aE J J J J .p0 J J<|rA J J<|rN<|ae.ret<|?_
  cases h
  exact aj.here ⟨_,.cons (.all _ _ _ _ _ _ J .p0 aD.h aX.h J J) (.cons (.tmp _ _ J) .nil),J⟩
 ·refine tK<|tS<|aI<|rM J J<|bc J (qk J) cR J<|ah.qv (dB J) J<|rN<|cB h J (fun h=>?_) (fun h=>?_)
  ·refine aI<|ah.qv (cF J J J J J) J<|aE J J J J .p0 J J<|rA J J<|rN<|ae.ret<|?_
   cases h
   exact aj.here ⟨_,.cons (.all _ _ _ _ _ _ J .p0 aD.h aX.h J J) (.cons (.tmp _ _ J) .nil),J⟩
  ·refine tK<|aI<|rM J J<|rM J J<|aA h fun v3 e2 h=>rQ J (Bv e2) cR .nil (fun _ _ _ _ _ _=>J) J fun b4 b5 b6 b7 Yc bs9=>ah.qv (ay J) J<|rF J J J<|rL J J .p0 J J<|rM J J<|rM J J<|ah.qv (cF J J J J J) J<|Of h (fun e3 h=>?_) (fun n10 e3 h=>?_)
   ·refine ah.qv (xw (gk:=al.av) (gv:=(pA Yc)) (M:=v3.sW) (key:=(⟨ai,aq⟩:al)) J J .p1 J e3) J<|rA J J<|rN<|tS<|aI<|rM J J<|ah.qv (ET J J) J<|rN<|ae.IN J<|aI<|rM J J<|rM J J<|ah.qv (cF J J J J J) J<|aE J J J J .p4 J J<|rA J J<|rN<|ae.ret<|?_
    cases h
    exact aj.here ⟨_,.cons (.all _ _ _ _ _ _ J .p4 aD.h aX.h J J) (.cons (.tmp _ _ J) .nil),J⟩
   ·refine ah.qv (xx (gk:=al.av) (gv:=(pA Yc)) (M:=v3.sW) (key:=(⟨ai,aq⟩:al)) J J .p1 e3) J<|rA J J<|rN<|tS<|aI<|rM J J<|ah.qv (Ha J J) J<|rN<|ae.IP J<|tK<|aI<|rM J J<|rM J J<|aA h fun v11 e4 h=>gi J (tv J) (.cons (nJ.Nq (bp:=b7) (kb:=yk) (bs:=bs9) (M:=v3.wQ) Tv e4 .p3) (.cons (.co (.refl _)) .nil)) J J<|rM J J<|rX J J J<|rX J J J<|bT J J J J fun wX=>aE J J J J .p0 J J<|rA J J<|rN<|aI<|ah.qv (aL J J .p0 J) J<|aE J J J J .p5 J J<|rA J J<|rN<|ae.ret<|?_
    cases h
    exact aj.here ⟨_,.cons (.all _ _ _ _ _ _ J .p5 aD.h aX.h J J) (.cons (.tmp _ _ J) .nil),J⟩
theorem zP [GI:bA] {r:Bool} (h:pX=some r):Pu Tryz.prog 32 [] (.bool r):=by
 unfold pX at h
 refine aG.bw Tryz.func32 J Tryz.ntmps32 Tryz.results32 J J ?_
 refine aI<|rA J J<|rN<|aI<|ah.qv (cF J J J J J) J<|aY (xs:=([(⟨(1:Int),(1:Int),([100]:aS),([114]:aS),[],(0:Int)⟩:Signal)]).map Signal.av) J J J J J J<|aA h fun v1 e1 h=>bc J (Ap e1) cR J<|rM J J<|rX J J J<|rX J J J<|bT J J J J fun b2=>aE J J J J .p0 J J<|rA J J<|rN<|tS<|ae.cut (fun aC=>∃ (c3:Bool),r4 c3=some r∧aC=⟨16,[(0,.bool c3)],[]⟩) ?_ ?_
 ·refine tR<|rM J J<|ah.qv (cH J J) J<|rM J J<|ah.bJ J J J (fun hc=>?_) (fun hc=>?_)
  ·rw [lB hc] at h
   exact rF J J J<|rY J J J<|rL J J .p0 J J<|rY J J J<|ah.qv (cH J J) J<|rT J J J<|rA J J<|rN<|ae.stop<|aj.lq [] ⟨decide (v1.1.State=(1:Int)),h,J⟩ J J
  ·rw [lC hc] at h
   exact rG J J J J<|rG J J J J<|rE J J J<|rA J J<|rN<|ae.stop<|aj.lq [] ⟨false,h,J⟩ J J
 ·rintro aC ⟨c3,h,rfl⟩
  unfold r4 at h
  refine ae.ret<|?_
  cases h
  exact hP J J
theorem Aq {aa:List Int} {r:Bool} (h:nW aa=some r):Pu Tryz.prog 5 [gQ aa] (.bool r):=by
 unfold nW at h
 refine aG.bw Tryz.func5 J Tryz.ntmps5 Tryz.results5 J J ?_
 refine aI<|rA J J<|rN<|aI<|rM J J<|ah.qv (cF J J J J J) J<|dC J J J J fun b1=>rA J J<|rN<|aI<|rM J J<|aA h fun v2 e1 h=>ba J (Bq e1) cR (.cons .p0 .nil) J J<|rM J J<|rM J J<|aA h fun v3 e2 h=>ba J (sG e2) cR (.cons .p0 .nil) J J<|aA h fun v4 e3 h=>ik J (zh e3) cR (.cons .p0 .nil) (fun _=>J) J fun b5=>rM J J<|aA h fun v6 e4 h=>ba J (Ce e4) cR (.cons .p0 .nil) J J<|rM J J<|aY (xs:=([([100,97]:aS),([100,98]:aS),([100,103]:aS),([65]:aS)]).map AV.str) J J J J J J<|aA h fun v7 e5 h=>ba J (iz e5) cR (.cons .p0 .nil) J J<|bT J J J J fun b8=>aE J J J J .p0 J J<|rA J J<|rA J J<|rA J J<|rN<|aI<|ah.qv (aL J J .p0 J) J<|aA h fun v9 e6 h=>bc J (Bs e6) cR J<|rA J J<|rN<|tS<|aI<|ah.qv (aL J J .p0 J) J<|aA h fun v10 e7 h=>bc J (lW e7) cR J<|rM J J<|ah.qv (jH J J) J<|rN<|cD h J (fun h=>?_) (fun h=>?_)
 ·refine aI<|rA J J<|rN<|ae.ret<|?_
  cases h
  exact hP J J
 ·refine tK<|aI<|ah.qv (aL J J .p0 J) J<|rM J J<|aA h fun v11 e8 h=>ik J (Cg e8) cR .nil (fun _=>J) J fun wX=>rM J J<|rX J J J<|rX J J J<|rA J J<|rA J J<|rN<|aI<|rM J J<|rM J J<|aA h fun gb e9 h=>bc J (yo e9) cR J<|aY (xs:=([v9,gb]:List Int).map I) J J J J J J<|aA h fun gh yl h=>bc J (sI yl) cR J<|rA J J<|rN<|tS<|tS<|ae.cut (fun aC=>∃ (Fb:Bool),ie v2 v4 v6 v7 v9 Fb=some r∧aC=⟨135,[(4,.ptr b8 0),(5,.sl 6 b5 0 v4.1.length),(6,I v6.1),(7,.str v7.1),(8,I v9),(63,.bool Fb)],[(b8,.cells (xB v2.1)),(b5,fS v4.1)]⟩) ?_ ?_
  ·refine tR<|rM J J<|rM J J<|ah.qv (jH J J) J<|rM J J<|gF h J J J (fun h=>?_) (fun h=>?_)
   ·refine rM J J<|rY J J J<|ah.qv (cH J J) J<|rY J J J<|rM J J<|gT h J J J (fun h=>?_) (fun h=>?_)
    ·exact rM J J<|rY J J J<|ah.qv (aL J J .p1 J) J<|rY J J J<|rM J J<|rY J J J<|aA h fun kS CX h=>ik J (Fe CX) cR .nil (fun _=>J) J fun tG=>rY J J J<|aA h fun zK Gl h=>gi J (qZ Gl) (.cons (nJ.qR .p1) (.cons (nJ.qR .p0) .nil)) J J<|rY J J J<|ah.qv (dB J) J<|rY J J J<|rT J J J<|rE J J J<|rN<|ae.stop<|aj.lq [2,3] ⟨!zK,h,J⟩ J J
    ·exact rG J J J J<|rG J J J J<|rG J J J J<|rG J J J J<|rG J J J J<|rY J J J<|rE J J J<|rE J J J<|rN<|ae.stop<|aj.lq [1,2] ⟨false,h,J⟩ J J
   ·exact rG J J J J<|rG J J J J<|ah.fT J J J<|ah.fT J J J<|ah.fT J J J<|ah.fT J J J<|ah.fT J J J<|ah.fT J J J<|rG J J J J<|rT J J J<|rN<|ae.stop<|aj.lq [1,2] ⟨true,h,J⟩ J J
  ·rintro aC ⟨Fb,h,rfl⟩
   unfold ie at h
   refine cB h J (fun h=>?_) (fun h=>?_)
   ·refine aI<|rA J J<|rN<|ae.ret<|?_
    cases h
    exact hP J J
   ·refine tK<|aI<|ah.qv (aL J J .p0 J) J<|rM J J<|rM J J<|rM J J<|aA h fun w9 Gm h=>gi J (Ak Gm) (.cons (.co (.refl _)) (.cons (nJ.qR .p1) (.cons (.co (.refl _)) (.cons (.co (.refl _)) .nil)))) J J<|rM J J<|rX J J J<|rX J J J<|rX J J J<|rA J J<|rA J J<|rA J J<|rN<|aI<|rM J J<|rM J J<|aA h fun v20 J0 h=>gi J (uh J0) (.cons (nJ.qR .p1) .nil) J J<|rM J J<|aA h fun v21 Eh h=>bc J (yo Eh) cR J<|rM J J<|bc J (ra J) cR J<|aY (xs:=([v9,v20,v21,(fJ v6.1)]:List Int).map I) J J J J J J<|aA h fun v22 Mn h=>bc J (sI Mn) cR J<|rA J J<|rN<|aI<|rA J J<|rN<|tS<|aI<|rM J J<|ah.qv (cH J J) J<|rN<|ae.cut (fun aC=>∃ (OA:aS),lp v2 v4 v6 v9 w9 v22 OA=some r∧aC=⟨135,[(4,.ptr b8 0),(5,.sl 6 b5 0 v4.1.length),(6,I v6.1),(8,I v9),(10,I w9.2.2),(12,.str w9.1),(13,.bool w9.2.1),(14,I v22),(15,.str OA)],[(b8,.cells (xB v2.1)),(b5,fS v4.1)]⟩) ?_ ?_
    ·refine cD h J (fun h=>?_) (fun h=>?_)
     ·exact tR<|ah.qv (aL J J .p0 J) J<|rM J J<|rM J J<|rM J J<|aA h fun v24 OC h=>gi J (vX OC) (.cons (.co (.refl _)) (.cons (nJ.qR .p1) (.cons (.co (.refl _)) (.cons (.co (.refl _)) .nil)))) J J<|rA J J<|rN<|ae.stop<|aj.lq [0,0] ⟨v24,h,J⟩ J J
     ·exact tK<|ae.stop<|aj.lq [0,0] ⟨([]:aS),h,J⟩ J J
    ·rintro aC ⟨OA,h,rfl⟩
     unfold lp at h
     refine tS<|tS<|ae.cut (fun aC=>∃ (JW:Bool),ln v2 v4 v6 v9 JW=some r∧aC=⟨135,[(4,.ptr b8 0),(5,.sl 6 b5 0 v4.1.length),(6,I v6.1),(8,I v9),(102,.bool JW)],[(b8,.cells (xB v2.1)),(b5,fS v4.1)]⟩) ?_ ?_
     ·refine tR<|rM J J<|rM J J<|ah.qv (jH J J) J<|rM J J<|ah.fU J J J (fun hc=>?_) (fun hc=>?_)
      ·rw [Ae hc] at h
       refine rM J J<|rY J J J<|rM J J<|rY J J J<|ah.qv (zu J J) J<|rE J J J<|rM J J<|ah.fU J J J (fun hc=>?_) (fun hc=>?_)
       ·rw [Ae hc] at h
        exact rM J J<|rY J J J<|rM J J<|rY J J J<|ah.qv (zu J J) J<|rY J J J<|ah.qv (PD J J) J<|rE J J J<|rN<|ae.stop<|aj.lq [0,0] ⟨w9.2.1!=(decide (OA≠([]:aS))),h,J⟩ J J
       ·rw [Ad hc] at h
        exact rG J J J J<|rG J J J J<|rG J J J J<|rT J J J<|rN<|ae.stop<|aj.lq [0,0] ⟨true,h,J⟩ J J
      ·rw [Ad hc] at h
       exact rG J J J J<|rG J J J J<|rT J J J<|rM J J<|rG J J J J<|rG J J J J<|rG J J J J<|rG J J J J<|rT J J J<|rN<|ae.stop<|aj.lq [0,0] ⟨true,h,J⟩ J J
     ·rintro aC ⟨JW,h,rfl⟩
      unfold ln at h
      refine cB h J (fun h=>?_) (fun h=>?_)
      ·refine aI<|rA J J<|rN<|ae.ret<|?_
       cases h
       exact hP J J
      ·refine tK<|aI<|ah.qv (aL J J .p0 J) J<|rM J J<|rM J J<|aA h fun v26 J7 h=>vB J (DN J7) .nil (.cons (.co (.refl _)) (.cons (nJ.qR .p1) (.cons (.co (.refl _)) .nil))) (fun _=>J) (fun _=>J) (fun _=>(.cons (La.qR (fun _=>J)) .nil)) J fun CW=>rM J J<|rX J J J<|rX J J J<|rA J J<|rA J J<|rN<|aI<|rM J J<|rM J J<|aA h fun v28 J8 h=>gi J (uh J8) (.cons (nJ.qR .p2) .nil) J J<|rM J J<|bc J (ra J) cR J<|aY (xs:=([v9,v28,(fJ v6.1)]:List Int).map I) J J J J J J<|aA h fun xz Mo h=>bc J (sI Mo) cR J<|rA J J<|rN<|tS<|ae.cut (fun aC=>∃ (Qu:Bool),ic Qu=some r∧aC=⟨135,[(2,.bool Qu)],[]⟩) ?_ ?_
       ·refine tR<|rM J J<|rM J J<|ah.qv (cH J J) J<|rM J J<|gT h J J J (fun h=>?_) (fun h=>?_)
        ·refine rM J J<|rY J J J<|ah.qv (jH J J) J<|rY J J J<|rM J J<|gF h J J J (fun h=>?_) (fun h=>?_)
         ·refine rM J J<|rY J J J<|ah.qv (aL J J .p1 J) J<|rY J J J<|rM J J<|rY J J J<|rM J J<|rY J J J<|aA h fun v31 e21 h=>vB J (Gr e21) .nil (.cons (.co (.refl _)) (.cons (nJ.qR .p2) (.cons (.co (.refl _)) .nil))) (fun _=>J) (fun _=>J) (fun _=>(.cons (La.qR (fun _=>J)) .nil)) J fun Pj=>rY J J J<|aA h fun v33 e22 h=>gi J (sM e22) (.cons (nJ.qR .p1) (.cons (nJ.qR .p0) .nil)) J J<|rY J J J<|rE J J J<|rT J J J<|rM J J<|ah.guard J J J (fun hc=>?_) (fun hc=>?_)
          ·exact have h:=rO hc h;aA h fun oH e23 h=>bc J (zP e23) cR J<|rT J J J<|rA J J<|rN<|ae.stop<|aj.lq [] ⟨oH,h,J⟩ J J
          ·exact have h:=vz hc h;rE J J J<|rA J J<|rN<|ae.stop<|aj.lq [] ⟨false,h,J⟩ J J
         ·exact rG J J J J<|rG J J J J<|rG J J J J<|rG J J J J<|rG J J J J<|rY J J J<|rT J J J<|rT J J J<|rM J J<|rY J J J<|aA h fun v35 e24 h=>bc J (zP e24) cR J<|rT J J J<|rA J J<|rN<|ae.stop<|aj.lq [] ⟨v35,h,J⟩ J J
        ·exact rG J J J J<|rG J J J J<|ah.fT J J J<|ah.fT J J J<|ah.fT J J J<|ah.fT J J J<|ah.fT J J J<|ah.fT J J J<|rG J J J J<|rE J J J<|rM J J<|rG J J J J<|rE J J J<|rA J J<|rN<|ae.stop<|aj.lq [] ⟨false,h,J⟩ J J
       ·rintro aC ⟨Qu,h,rfl⟩
        unfold ic at h
        refine ae.ret<|?_
        cases h
        exact hP J J
end Go.Proofs.YtifmjkaghhkhfaaGreatDoor
