/- The code computes the plain functions: proofs written by shal.py. -/
import Derived.Test.YtodkphmmhgkodaaGreatDoorNctW1
set_option maxHeartbeats 4000000
set_option maxRecDepth 100000
set_option linter.unusedVariables false
set_option linter.unusedSimpArgs false
namespace Go.Proofs.YtodkphmmhgkodaaGreatDoor
open Go Go.Eng Go.Proofs Go.Beacon
attribute [local irreducible] ae aa AQ QV aT aj NS AM
theorem tu [GI:bM] {ab:List aB} {ah:bO} {r:Int} (h:j6 ab ah=some r):Pu Tryz.prog 44 [nG ab,.str ah] (I r):=by
 unfold j6 at h
 refine aT.bJ Tryz.func44 J Tryz.ntmps44 Tryz.results44 J J ?_
 refine aS<|rA J J<|rN<|tS<|aS<|rM J J<|aK h fun v1 e1 h=>bB J (ox e1) cR J<|rA J J<|rN<|aS<|rM J J<|ae.qv (jU J J) J<|rN<|cD h J (fun h=>?_) (fun h=>?_)
 ·refine aS<|rM J J<|rA J J<|rN<|aa.ret<|?_
  cases h
  exact hP J J
 ·refine tK<|tS<|aS<|rM J J<|aK h fun v2 e2 h=>bB J (k7 e2) cR J<|ae.qv (eF J) J<|rN<|cB h J (fun h=>?_) (fun h=>?_)
  ·refine aS<|rA J J<|rN<|aa.ret<|?_
   cases h
   exact hP J J
  ·refine tK<|aS<|rA J J<|rN<|aa.ret<|?_
   cases h
   exact hP J J
theorem tJ [GI:bM] {ab:Int} {r:Bool} (h:jo ab=r):Pu Tryz.prog 45 [I ab] (.bool r):=by
 unfold jo at h
 refine aT.bJ Tryz.func45 J Tryz.ntmps45 Tryz.results45 J J ?_
 refine aS<|rA J J<|rN<|aS<|rM J J<|bB J (qt J) cR J<|ae.qv (eF J) J<|rA J J<|rN<|aa.ret<|?_
 obtain rfl:=h
 exact hP J J
theorem wb [GI:bM] {ab:List aB} {ah:bO} {ao:Int} {r:bO} (h:oc ab ah ao=some r):Pu Tryz.prog 46 [nG ab,.str ah,I ao] (.str r):=by
 unfold oc at h
 refine aT.bJ Tryz.func46 J Tryz.ntmps46 Tryz.results46 J J ?_
 refine aS<|rA J J<|rN<|tS<|aS<|rM J J<|ae.qv (cY J) J<|rM J J<|rN<|aa.block<|aa.cw (fun x:Int=>j8 ab ah ao x) (fun x aH=>aH=⟨36,[(1,.str ah),(2,I ao),(9,nG ab),(10,I (ab.length:Int)),(11,I x)],[]⟩) h ?_ ?_
 ·exact aj.lq [] J J J
 ·intro n2 z1 aH J1 fe h k6 fh
  obtain rfl:=fe
  replace h:j8 ab ah ao n2=some z1:=h
  unfold j8 at h
  refine aS<|ae.qv (bE J J) J<|rN<|tS<|cD h J (fun h=>?_) (fun h=>?_)
  ·refine tK<|tS<|aa.block<|aS<|aK h fun v3 e1 h=>ae.qv (bN J J J e1 J J) J<|ae.qv (bf J J J) J<|ct J J J J fun b4=>aQ J J J J .p0 J J<|rN<|tS<|aa.cut (fun aH=>∃ (c5:Bool),oO n2 v3 c5=some z1∧aH=⟨36,[(1,.str ah),(2,I ao),(8,.ptr b4 0),(9,nG ab),(10,I (ab.length:Int)),(11,I n2),(32,.bool c5)],[(b4,.cells (M9 v3))]⟩) ?_ ?_
   ·refine tR<|rF J J J<|rL J J .p0 J J<|rM J J<|ae.qv (uX J J) J<|rM J J<|ae.bH J J J (fun hc=>?_) (fun hc=>?_)
    ·rw [iD hc] at h
     refine rM J J<|rY J J J<|rF J J J<|rY J J J<|rF J J J<|rY J J J<|rL J J .p0 J J<|rY J J J<|ae.qv (tb J J) J<|rT J J J<|rM J J<|ae.bH J J J (fun hc=>?_) (fun hc=>?_)
     ·rw [iD hc] at h
      exact rM J J<|rY J J J<|rF J J J<|rY J J J<|rF J J J<|rY J J J<|rL J J .p0 J J<|rY J J J<|ae.qv (bE J J) J<|rT J J J<|rN<|aa.stop<|aj.lq [0] ⟨decide (ao < v3.Time.To),h,J⟩ J J
     ·rw [iE hc] at h
      exact rG J J J J<|rG J J J J<|rG J J J J<|rG J J J J<|rE J J J<|rN<|aa.stop<|aj.lq [0] ⟨false,h,J⟩ J J
    ·rw [iE hc] at h
     exact rG J J J J<|rG J J J J<|rG J J J J<|rG J J J J<|rE J J J<|rM J J<|rG J J J J<|rG J J J J<|rG J J J J<|rG J J J J<|rG J J J J<|rE J J J<|rN<|aa.stop<|aj.lq [0] ⟨false,h,J⟩ J J
   ·rintro aH ⟨c5,h,rfl⟩
    unfold oO at h
    refine cB h J (fun h=>?_) (fun h=>?_)
    ·refine aS<|rF J J J<|rL J J .p0 J J<|rA J J<|rN<|aa.ret<|have h:=bT h fh;?_
     cases h
     exact hP J J
    ·refine tK<|aa.cu<|tR<|ae.qv (bc J J) J<|rM J J<|rN<|aa.stop<|?_
     cases h
     exact k6 _ _ J<|aj.lq [] J J J
  ·refine aa.exit J<|have h:=bT h fh;aS<|rA J J<|rN<|aa.ret<|?_
   cases h
   exact hP J J
theorem BU [GI:bM] {ab:List aB} {ah:bO} {ao:Int} {r:bO×Bool×Int} (h:pL ab ah ao=some r):Pu Tryz.prog 16 [nG ab,.str ah,I ao] (.oL [.str r.1,.bool r.2.1,I r.2.2]):=by
 unfold pL at h
 refine aT.bJ Tryz.func16 J Tryz.ntmps16 Tryz.results16 J J ?_
 refine aS<|rA J J<|rA J J<|rA J J<|rN<|tS<|aS<|rM J J<|rM J J<|aK h fun v1 e1 h=>bB J (tu e1) cR J<|rA J J<|rN<|aS<|rM J J<|ae.qv (jU J J) J<|rN<|cD h J (fun h=>?_) (fun h=>?_)
 ·refine aS<|rM J J<|rA J J<|rA J J<|rA J J<|rN<|aa.ret<|?_
  cases h
  exact aj.here ⟨_,.cons (.tmp _ _ J) (.cons (.tmp _ _ J) (.cons (.tmp _ _ J) .nil)),J⟩
 ·refine tK<|tS<|aS<|rM J J<|bB J (tJ J) cR J<|ae.qv (eF J) J<|rN<|cB h J (fun h=>?_) (fun h=>?_)
  ·refine aS<|rA J J<|rA J J<|rA J J<|rN<|aa.ret<|?_
   cases h
   exact aj.here ⟨_,.cons (.tmp _ _ J) (.cons (.tmp _ _ J) (.cons (.tmp _ _ J) .nil)),J⟩
  ·refine tK<|aS<|rM J J<|rM J J<|rM J J<|aK h fun v2 e2 h=>bB J (wb e2) cR J<|rA J J<|rN<|aS<|rM J J<|rM J J<|ae.qv (A8 J J) J<|rA J J<|rA J J<|rA J J<|rN<|aa.ret<|?_
   cases h
   exact aj.here ⟨_,.cons (.tmp _ _ J) (.cons (.tmp _ _ J) (.cons (.tmp _ _ J) .nil)),J⟩
theorem yG {ab:bO} {r:Int} (h:qp ab=some r):Pu Tryz.prog 18 [.str ab] (I r):=by
 unfold qp at h
 refine aT.bJ Tryz.func18 J Tryz.ntmps18 Tryz.results18 J J ?_
 refine aS<|rA J J<|rN<|tS<|aS<|rM J J<|aK h fun v1 e1 h=>bB J (tt e1) cR J<|ae.qv (eF J) J<|rN<|cB h J (fun h=>?_) (fun h=>?_)
 ·refine aS<|rA J J<|rN<|aa.ret<|?_
  cases h
  exact hP J J
 ·refine tK<|aS<|rA J J<|rN<|aa.ret<|?_
  cases h
  exact hP J J
theorem u9 [GI:bM] {ab:Int} {r:Int} (h:iz ab=r):Pu Tryz.prog 19 [I ab] (I r):=by
 unfold iz at h
 refine aT.bJ Tryz.func19 J Tryz.ntmps19 Tryz.results19 J J ?_
 refine aS<|rA J J<|rN<|tS<|aS<|rM J J<|bB J (wa J) cR J<|ae.qv (eF J) J<|rN<|cB h J (fun h=>?_) (fun h=>?_)
 ·refine aS<|rA J J<|rN<|aa.ret<|?_
  obtain rfl:=h
  exact hP J J
 ·refine tK<|aS<|rA J J<|rN<|aa.ret<|?_
  obtain rfl:=h
  exact hP J J
theorem sH [GI:bM] {ab:List Int} {r:Int} (h:l0 ab=some r):Pu Tryz.prog 17 [eJ ab] (I r):=by
 unfold l0 at h
 refine aT.bJ Tryz.func17 J Tryz.ntmps17 Tryz.results17 J J ?_
 refine aS<|rA J J<|rN<|aS<|rA J J<|rN<|tS<|aS<|rM J J<|ae.qv (cY J) J<|rM J J<|rN<|aa.block<|aa.cw (fun x:Int=>oP ab x) (fun x aH=>aH=⟨18,[(3,I (0:Int)),(6,eJ ab),(7,I (ab.length:Int)),(8,I x)],[]⟩) h ?_ ?_
 ·exact aj.lq [] J J J
 ·intro n2 z1 aH J1 fe h k6 fh
  obtain rfl:=fe
  replace h:oP ab n2=some z1:=h
  unfold oP at h
  refine aS<|ae.qv (bE J J) J<|rN<|tS<|cD h J (fun h=>?_) (fun h=>?_)
  ·refine tK<|tS<|aa.block<|aS<|aK h fun v3 e1 h=>ae.qv (bN J J J e1 J J) J<|ae.qv (aJ J J J) J<|rA J J<|rN<|aS<|rM J J<|rM J J<|ae.qv (jU J J) J<|rN<|cD h J (fun h=>?_) (fun h=>?_)
   ·refine aS<|rM J J<|rA J J<|rN<|aa.ret<|have h:=bT h fh;?_
    cases h
    exact hP J J
   ·refine tK<|aa.cu<|tR<|ae.qv (bc J J) J<|rM J J<|rN<|aa.stop<|?_
    cases h
    exact k6 _ _ J<|aj.lq [] J J J
  ·refine aa.exit J<|have h:=bT h fh;aS<|rM J J<|rA J J<|rN<|aa.ret<|?_
   cases h
   exact hP J J
theorem yH [GI:bM] {ab:List aB} {ah:bO} {ao:Int} {r:bO} (h:qq ab ah ao=some r):Pu Tryz.prog 20 [nG ab,.str ah,I ao] (.str r):=by
 unfold qq at h
 refine aT.bJ Tryz.func20 J Tryz.ntmps20 Tryz.results20 J J ?_
 refine aS<|rA J J<|rN<|tS<|aS<|rM J J<|ae.qv (cY J) J<|rM J J<|rN<|aa.block<|aa.cw (fun x:Int=>mG ab ah ao x) (fun x aH=>aH=⟨36,[(1,.str ah),(2,I ao),(9,nG ab),(10,I (ab.length:Int)),(11,I x)],[]⟩) h ?_ ?_
 ·exact aj.lq [] J J J
 ·intro n2 z1 aH J1 fe h k6 fh
  obtain rfl:=fe
  replace h:mG ab ah ao n2=some z1:=h
  unfold mG at h
  refine aS<|ae.qv (bE J J) J<|rN<|tS<|cD h J (fun h=>?_) (fun h=>?_)
  ·refine tK<|tS<|aa.block<|aS<|aK h fun v3 e1 h=>ae.qv (bN J J J e1 J J) J<|ae.qv (bf J J J) J<|ct J J J J fun b4=>aQ J J J J .p0 J J<|rN<|tS<|aa.cut (fun aH=>∃ (c5:Bool),qA n2 v3 c5=some z1∧aH=⟨36,[(1,.str ah),(2,I ao),(8,.ptr b4 0),(9,nG ab),(10,I (ab.length:Int)),(11,I n2),(32,.bool c5)],[(b4,.cells (M9 v3))]⟩) ?_ ?_
   ·refine tR<|rF J J J<|rL J J .p0 J J<|rM J J<|ae.qv (uX J J) J<|rM J J<|ae.bH J J J (fun hc=>?_) (fun hc=>?_)
    ·rw [iD hc] at h
     refine rF J J J<|rY J J J<|rF J J J<|rY J J J<|rL J J .p0 J J<|rY J J J<|rM J J<|rY J J J<|ae.qv (ot J J) J<|rT J J J<|rM J J<|ae.bH J J J (fun hc=>?_) (fun hc=>?_)
     ·rw [iD hc] at h
      exact rM J J<|rY J J J<|rF J J J<|rY J J J<|rF J J J<|rY J J J<|rL J J .p0 J J<|rY J J J<|ae.qv (bE J J) J<|rT J J J<|rN<|aa.stop<|aj.lq [0] ⟨decide (ao < v3.Time.To),h,J⟩ J J
     ·rw [iE hc] at h
      exact rG J J J J<|rG J J J J<|rG J J J J<|rG J J J J<|rE J J J<|rN<|aa.stop<|aj.lq [0] ⟨false,h,J⟩ J J
    ·rw [iE hc] at h
     exact rG J J J J<|rG J J J J<|rG J J J J<|rG J J J J<|rE J J J<|rM J J<|rG J J J J<|rG J J J J<|rG J J J J<|rG J J J J<|rG J J J J<|rE J J J<|rN<|aa.stop<|aj.lq [0] ⟨false,h,J⟩ J J
   ·rintro aH ⟨c5,h,rfl⟩
    unfold qA at h
    refine cB h J (fun h=>?_) (fun h=>?_)
    ·refine aS<|rF J J J<|rL J J .p0 J J<|rA J J<|rN<|aa.ret<|have h:=bT h fh;?_
     cases h
     exact hP J J
    ·refine tK<|aa.cu<|tR<|ae.qv (bc J J) J<|rM J J<|rN<|aa.stop<|?_
     cases h
     exact k6 _ _ J<|aj.lq [] J J J
  ·refine aa.exit J<|have h:=bT h fh;aS<|rA J J<|rN<|aa.ret<|?_
   cases h
   exact hP J J
theorem xw [GI:bM] {ab:ar} {r:Bool} (h:gM ab=r):Pu Tryz.prog 47 [ar.av ab] (.bool r):=by
 unfold gM at h
 refine aT.bJ Tryz.func47 J Tryz.ntmps47 Tryz.results47 J J ?_
 refine aS<|gn J J J J fun b1=>rA J J<|rN<|tS<|aa.cut (fun aH=>∃ (c2:Bool),pM c2=r∧aH=⟨14,[(2,.bool c2)],[]⟩) ?_ ?_
 ·refine tR<|rF J J J<|rL J J .p0 J J<|rF J J J<|rL J J .p0 J J<|bB J (qt J) cR J<|ae.qv (eF J) J<|rM J J<|ae.guard J J J (fun hc=>?_) (fun hc=>?_)
  ·rw [JY hc] at h
   exact rF J J J<|rY J J J<|rL J J .p0 J J<|rY J J J<|ae.qv (ot J J) J<|rT J J J<|rA J J<|rN<|aa.stop<|aj.lq [] ⟨decide (ab.To≤(345686400000:Int)),h,J⟩ J J
  ·rw [JZ hc] at h
   exact rG J J J J<|rG J J J J<|rE J J J<|rA J J<|rN<|aa.stop<|aj.lq [] ⟨false,h,J⟩ J J
 ·rintro aH ⟨c2,h,rfl⟩
  unfold pM at h
  refine aa.ret<|?_
  obtain rfl:=h
  exact hP J J
theorem yI [GI:bM] {ab:List aB} {ah:bO} {ao:ar} {r:(List ar)×Int} (h:mr ab ah ao=some r):aT Tryz.prog 21 [nG ab,.str ah,ar.av ao] [] (T1 (fun sG=>[(sG,jx r.1)]) (fun sG=>.oL [.sl 2 sG 0 r.1.length,I r.2])):=by
 unfold mr at h
 refine aT.fM ?_
 refine aT.bJ Tryz.func21 J Tryz.ntmps21 Tryz.results21 J J ?_
 refine aS<|gn J J J J fun b1=>rA J J<|rA J J<|rN<|tS<|aS<|rM J J<|rM J J<|aK h fun v2 e1 h=>bB J (tu e1) cR J<|rA J J<|rN<|aS<|rM J J<|ae.qv (jU J J) J<|rN<|cD h J (fun h=>?_) (fun h=>?_)
 ·refine aS<|rM J J<|rA J J<|rA J J<|rN<|aa.ret<|?_
  cases h
  exact aj.arr (s:=6) 2 J fun b3=>aj.here ⟨_,.cons (.tmp _ _ J) (.cons (.tmp _ _ J) .nil),_,.cons .p0 .nil,⟨b3,J,J⟩⟩
 ·refine tK<|tS<|aS<|ae.qv (bq J J .p0 J) J<|bB J (xw J) cR J<|ae.qv (eF J) J<|rN<|cB h J (fun h=>?_) (fun h=>?_)
  ·refine aS<|rA J J<|rA J J<|rN<|aa.ret<|?_
   cases h
   exact aj.arr (s:=6) 2 J fun b4=>aj.here ⟨_,.cons (.tmp _ _ J) (.cons (.tmp _ _ J) .nil),_,.cons .p0 .nil,⟨b4,J,J⟩⟩
  ·refine tK<|aS<|rA J J<|rN<|aS<|rF J J J<|rL J J .p0 J J<|rA J J<|rN<|tS<|aS<|rM J J<|ae.qv (cY J) J<|rM J J<|rN<|aa.block<|aa.cw (fun x:(List ar)×Int×Int=>ia ab ah ao x.1 x.2.1 x.2.2) (fun x aH=>∃ (b9:Bk),aH=⟨73,[(1,.str ah),(5,.ptr b1 0),(9,.sl 2 b9 0 x.1.length),(10,I x.2.1),(25,nG ab),(26,I (ab.length:Int)),(27,I x.2.2)],[(b1,.cells [I ao.aM,I ao.To]),(b9,jx x.1)]⟩) h ?_ ?_
   ·exact aj.arr (s:=9) 2 J fun Ct=>aj.lq [1,0] ⟨Ct,J⟩ J J
   ·intro x z1 aH J1 fe h k6 fh
    obtain ⟨l10,n11,n12⟩:=x
    obtain ⟨b9,rfl⟩:=fe
    replace h:ia ab ah ao l10 n11 n12=some z1:=h
    unfold ia at h
    refine aS<|ae.qv (bE J J) J<|rN<|tS<|cD h J (fun h=>?_) (fun h=>?_)
    ·refine tK<|tS<|aa.cut (fun aH=>∃ (xf:Bk) (vm:List ar) (n16:Int),jE n12 vm n16=some z1∧aH=⟨73,[(1,.str ah),(5,.ptr b1 0),(9,.sl 2 xf 0 vm.length),(10,I n16),(25,nG ab),(26,I (ab.length:Int)),(27,I n12)],[(b1,.cells [I ao.aM,I ao.To]),(xf,jx vm)]⟩) ?_ ?_
     ·refine aa.block<|aS<|aK h fun v17 e2 h=>ae.qv (bN J J J e2 J J) J<|ae.qv (bf J J J) J<|ct J J J J fun zk=>aQ J J J J .p0 J J<|rN<|tS<|tS<|aa.cut (fun aH=>∃ (RR:Bool),ma ao l10 n11 n12 v17 RR=some z1∧aH=⟨73,[(1,.str ah),(5,.ptr b1 0),(9,.sl 2 b9 0 l10.length),(10,I n11),(12,.ptr zk 0),(25,nG ab),(26,I (ab.length:Int)),(27,I n12),(41,.bool RR)],[(b1,.cells [I ao.aM,I ao.To]),(b9,jx l10),(zk,.cells (M9 v17))]⟩) ?_ ?_
      ·refine tR<|rF J J J<|rL J J .p0 J J<|rM J J<|ae.qv (A8 J J) J<|rM J J<|ae.ff J J J (fun hc=>?_) (fun hc=>?_)
       ·rw [yh hc] at h
        exact rF J J J<|rY J J J<|rF J J J<|rY J J J<|rL J J .p0 J J<|rY J J J<|rM J J<|rY J J J<|ae.qv (ot J J) J<|rE J J J<|rN<|aa.stop<|aj.lq [1,1,0] ⟨decide (v17.Time.To≤n11),h,J⟩ J J
       ·rw [yg hc] at h
        exact rG J J J J<|rG J J J J<|rG J J J J<|rG J J J J<|rT J J J<|rN<|aa.stop<|aj.lq [1,1,0] ⟨true,h,J⟩ J J
      ·rintro aH ⟨RR,h,rfl⟩
       unfold ma at h
       refine cB h J (fun h=>?_) (fun h=>?_)
       ·exact aa.exit J<|aa.stop<|aj.lq [0,0] ⟨b9,l10,n11,h,J⟩ J J
       ·refine tK<|tS<|aS<|rF J J J<|rF J J J<|rL J J .p2 J J<|rF J J J<|rL J J .p0 J J<|ae.qv (CT J J) J<|rA J J<|rN<|aS<|rM J J<|rM J J<|ae.qv (fW J J) J<|rN<|aa.cut (fun aH=>∃ (KM:Bk) (xp:List ar),jF n12 v17 xp=some z1∧aH=⟨73,[(1,.str ah),(5,.ptr b1 0),(9,.sl 2 KM 0 xp.length),(12,.ptr zk 0),(25,nG ab),(26,I (ab.length:Int)),(27,I n12)],[(b1,.cells [I ao.aM,I ao.To]),(KM,jx xp),(zk,.cells (M9 v17))]⟩) ?_ ?_
        ·refine cD h J (fun h=>?_) (fun h=>?_)
         ·exact tR<|rM J J<|rM J J<|rM J J<|ae.qv (cJ J J J J J) J<|bj (xs:=([(⟨n11,min v17.Time.aM ao.To⟩:ar)]).map ar.av) J J J J J J<|aK h fun Eb e3 h=>eK (g:=ar.av) J J J J J J J J (.list _) e3 (fun _=>.p1) J fun L2=>rA J J<|rN<|aa.stop<|aj.lq [0,0,0] ⟨L2,Eb,h,J⟩ J J
         ·exact tK<|aa.stop<|aj.lq [0,0,0] ⟨b9,l10,h,J⟩ J J
        ·rintro aH ⟨KM,xp,h,rfl⟩
         unfold jF at h
         exact tR<|rF J J J<|rF J J J<|rL J J .p2 J J<|rA J J<|rN<|aa.cu<|aa.stop<|aj.lq [0,0] ⟨KM,xp,v17.Time.To,h,J⟩ J J
     ·rintro aH ⟨xf,vm,n16,h,rfl⟩
      unfold jE at h
      refine tR<|ae.qv (bc J J) J<|rM J J<|rN<|aa.stop<|?_
      cases h
      exact k6 _ _ J<|aj.lq [0,0] ⟨xf,J⟩ J J
    ·refine aa.exit J<|have h:=bT h fh;?_
     unfold oW at h
     refine tS<|aS<|rM J J<|rF J J J<|rL J J .p0 J J<|ae.qv (bE J J) J<|rN<|aa.cut (fun aH=>∃ (GU:Bk) (AY:List ar),jG AY=some r∧aH=⟨73,[(9,.sl 2 GU 0 AY.length)],[(GU,jx AY)]⟩) ?_ ?_
     ·refine cD h J (fun h=>?_) (fun h=>?_)
      ·exact tR<|rM J J<|rM J J<|rF J J J<|rL J J .p0 J J<|ae.qv (cJ J J J J J) J<|bj (xs:=([(⟨n11,ao.To⟩:ar)]).map ar.av) J J J J J J<|aK h fun sY e4 h=>eK (g:=ar.av) J J J J J J J J (.list _) e4 (fun _=>.p1) J fun VK=>rA J J<|rN<|aa.stop<|aj.lq [1] ⟨VK,sY,h,J⟩ J J
      ·exact tK<|aa.stop<|aj.lq [1] ⟨b9,l10,h,J⟩ J J
     ·rintro aH ⟨GU,AY,h,rfl⟩
      unfold jG at h
      refine aS<|rM J J<|rA J J<|rA J J<|rN<|aa.ret<|?_
      cases h
      exact hI J J [0] J ⟨GU,J,J⟩
theorem va [GI:bM] {ab:ar} {r:Int} (h:fP ab=r):Pu Tryz.prog 22 [ar.av ab] (I r):=by
 unfold fP at h
 refine aT.bJ Tryz.func22 J Tryz.ntmps22 Tryz.results22 J J ?_
 refine aS<|gn J J J J fun b1=>rA J J<|rN<|tS<|tS<|aa.cut (fun aH=>∃ (c2:Bool),od c2=r∧aH=⟨14,[(13,.bool c2)],[]⟩) ?_ ?_
 ·refine tR<|rF J J J<|rL J J .p0 J J<|rF J J J<|rL J J .p0 J J<|bB J (wa J) cR J<|ae.qv (eF J) J<|rM J J<|ae.guard J J J (fun hc=>?_) (fun hc=>?_)
  ·rw [Rb hc] at h
   exact rF J J J<|rY J J J<|rL J J .p0 J J<|rY J J J<|ae.qv (fW J J) J<|rE J J J<|rN<|aa.stop<|aj.lq [] ⟨decide ((345686400000:Int) < ab.To),h,J⟩ J J
  ·rw [Ra hc] at h
   exact rG J J J J<|rG J J J J<|rT J J J<|rN<|aa.stop<|aj.lq [] ⟨true,h,J⟩ J J
 ·rintro aH ⟨c2,h,rfl⟩
  unfold od at h
  refine cB h J (fun h=>?_) (fun h=>?_)
  ·refine aS<|rA J J<|rN<|aa.ret<|?_
   obtain rfl:=h
   exact hP J J
  ·refine tK<|aS<|rA J J<|rN<|aa.ret<|?_
   obtain rfl:=h
   exact hP J J
theorem sI [GI:bM] {ab:List aB} {r:(List aB)} (h:iA ab=some r):aT Tryz.prog 49 [.list 4 (ab.map aB.av)] [] (T1 (fun sG=>[(sG,.arr 4 (r.map aB.av))]) (fun sG=>.sl 4 sG 0 r.length)):=by
 unfold iA at h
 refine aT.fM ?_
 refine aT.bJ Tryz.func49 J Tryz.ntmps49 Tryz.results49 J J ?_
 refine aa.seq ?_
 refine aa.region ?_
 refine ae.qv (bZ J) J ?_
 refine ae.nil ?_
 refine aa.seq ?_
 refine aa.seq ?_
 refine aa.region ?_
 refine ae.qv (ax J) J ?_
 refine MG J J J J (fun c hc=>?_)
 refine ae.nil ?_
 refine aa.cond J (fun hT=>?_) (fun hF=>?_)
 ·obtain rfl:=D4 h (List.map_eq_nil_iff.1 (hc hT))
  refine aa.seq ?_
  refine aa.region ?_
  refine ae.qv (bZ J) J ?_
  refine ae.nil ?_
  refine aa.ret ?_
  refine aj.arr (s:=2) 4 J (fun b1=>?_)
  exact aj.here ⟨_,.cons (.tmp _ _ J) .nil,_,.cons .here .nil,⟨b1,J,J⟩⟩
 ·refine aa.skip ?_
  refine aa.seq ?_
  refine aa.region ?_
  refine DR (xs:=([]:List aB).map aB.av) J J J J J J (fun b2=>?_)
  refine ae.qv (ax J) J ?_
  refine eK (g:=aB.av) (Xs:=[]) J J J J J J J J (.list _) h (fun _=>.here) J (fun b3=>?_)
  refine ae.qv (bZ J) J ?_
  refine ae.nil ?_
  refine aa.ret ?_
  exact aj.here ⟨_,.cons (.tmp _ _ J) .nil,_,.cons .here .nil,⟨b3,J,J⟩⟩
theorem qu [GI:bM] {ab:List aB} {gZ:aB→Option Bool} {gG:FuncId} [bF Tryz.prog gG] {jP:List AV} (qS:∀ {y0:_} {u:Bool},gZ y0=some u→Pu Tryz.prog gG (aB.av y0 :: jP) (.bool u)) {r:Int} (h:iZ ab gZ=some r):Pu Tryz.prog 72 [nG ab,.func (.func gG) jP] (I r):=by
 unfold iZ at h
 refine aT.bJ Tryz.func72 J Tryz.ntmps72 Tryz.results72 J J ?_
 refine aS<|rA J J<|rN<|tS<|aS<|rM J J<|ae.qv (cY J) J<|rM J J<|rN<|aa.block<|aa.cw (fun x:Int=>eI ab gZ x) (fun x aH=>aH=⟨19,[(0,nG ab),(1,.func (.func gG) jP),(7,I (ab.length:Int)),(8,I x)],[]⟩) h ?_ ?_
 ·exact aj.lq [] J J J
 ·intro n2 z1 aH J1 fe h k6 fh
  obtain rfl:=fe
  replace h:eI ab gZ n2=some z1:=h
  unfold eI at h
  refine aS<|ae.qv (bE J J) J<|rN<|tS<|cD h J (fun h=>?_) (fun h=>?_)
  ·refine tK<|tS<|aa.block<|aS<|rM J J<|rA J J<|rN<|aS<|rM J J<|rM J J<|rM J J<|aK h fun v3 e1 h=>ae.qv (bN J J J e1 J J) J<|ae.qv (bf J J J) J<|aK h fun v4 e2 h=>yd J J (qS e2) cR J<|rN<|cB h J (fun h=>?_) (fun h=>?_)
   ·refine aS<|rM J J<|rA J J<|rN<|aa.ret<|have h:=bT h fh;?_
    cases h
    exact hP J J
   ·refine tK<|aa.cu<|tR<|ae.qv (bc J J) J<|rM J J<|rN<|aa.stop<|?_
    cases h
    exact k6 _ _ J<|aj.lq [] J J J
  ·refine aa.exit J<|have h:=bT h fh;aS<|rA J J<|rN<|aa.ret<|?_
   cases h
   exact hP J J
theorem pZ [GI:bM] {aR:Bk} {ab:List aB} {gZ:aB→Option Bool} {gG:FuncId} [bF Tryz.prog gG] {jP:List AV} (qS:∀ {y0:_} {u:Bool},gZ y0=some u→Pu Tryz.prog gG (aB.av y0 :: jP) (.bool u)) {r:(List aB)} (h:fy ab gZ=some r):aT Tryz.prog 48 [.sl 4 aR 0 ab.length,.func (.func gG) jP] [(aR,u6 ab)] (T1 (fun sG=>[(sG,u6 r)]) (fun sG=>.sl 4 sG 0 r.length)):=by
 unfold fy at h
 refine aT.fM ?_
 refine aT.bJ Tryz.func48 J Tryz.ntmps48 Tryz.results48 J J ?_
 refine aS<|rA J J<|rN<|aS<|rM J J<|rM J J<|aK h fun v1 e1 h=>lr J (qu qS e1) (.cons (pk.rP .p0) (.cons (.co (.refl _)) .nil)) J J<|rA J J<|rN<|tS<|aS<|rM J J<|ae.qv (cL J J) J<|rN<|cD h J (fun h=>?_) (fun h=>?_)
 ·refine aS<|rM J J<|rA J J<|rN<|aa.ret<|?_
  cases h
  exact hH J [0] J ⟨aR,J,J⟩
 ·refine tK<|tS<|aS<|rM J J<|ae.qv (bc J J) J<|rA J J<|rN<|aa.block<|aa.cw (fun x:(List aB)×Int×Int=>ef gZ x.1 x.2.1 x.2.2) (fun x aH=>aH=⟨42,[(0,.sl 4 aR 0 x.1.length),(1,.func (.func gG) jP),(5,I x.2.1),(6,I x.2.2)],[(aR,u6 x.1)]⟩) h ?_ ?_
  ·exact aj.lq [0] J J J
  ·intro x z1 aH J1 fe h k6 fh
   obtain ⟨l5,n6,n7⟩:=x
   obtain rfl:=fe
   replace h:ef gZ l5 n6 n7=some z1:=h
   unfold ef at h
   refine tS<|aS<|rM J J<|rM J J<|ae.qv (iC J) J<|ae.qv (bE J J) J<|rN<|cD h J (fun h=>?_) (fun h=>?_)
   ·refine tK<|tS<|aa.block<|aS<|rM J J<|rM J J<|aK h fun v8 e2 h=>ae.qv (ba J J J e2) J<|ae.qv (aZ (g:=aB.av) J J (.inl .p0) J e2 J) J<|ct J J J J fun b9=>aQ J J J J .p0 J J<|rN<|aS<|rM J J<|ae.qv (bq J J .p0 J) J<|aK h fun v10 e3 h=>yd J J (qS e3) cR J<|ae.qv (eF J) J<|rN<|aa.cut (fun aH=>∃ (dN:List aB) (n12:Int),ee n7 dN n12=some z1∧aH=⟨42,[(0,.sl 4 aR 0 dN.length),(1,.func (.func gG) jP),(5,I n12),(6,I n7)],[(aR,u6 dN)]⟩) ?_ ?_
    ·refine cB h J (fun h=>?_) (fun h=>?_)
     ·exact aS<|rM J J<|rM J J<|ae.qv (bq J J .p0 J) J<|aK h fun fo e4 h=>ae.qv (ba J J J e4) J<|bz (g:=aB.av) (uy:=v8) J J J J e4 J .p1 J<|ae.ghost<|aj.eqs (s:=0) (cy:=.sl 4 aR 0 (l5.set n6.toNat v8).length) J (by rw [List.length_set])<|aj.here<|ae.ghost<|aj.eqs (s:=17) (cy:=.sl 4 aR 0 (l5.set n6.toNat v8).length) J (by rw [List.length_set])<|aj.here<|ae.ghost<|aj.eqs (s:=22) (cy:=.sl 4 aR 0 (l5.set n6.toNat v8).length) J (by rw [List.length_set])<|aj.here<|ae.ghost<|aj.eqs (s:=30) (cy:=.sl 4 aR 0 (l5.set n6.toNat v8).length) J (by rw [List.length_set])<|aj.here<|rN<|tR<|rM J J<|ae.qv (bc J J) J<|rA J J<|rN<|aa.stop<|aj.lq [1] ⟨l5.set n6.toNat v8,aL (n6+(1:Int)),h,J⟩ J J
     ·exact tK<|aa.stop<|aj.lq [1] ⟨l5,n6,h,J⟩ J J
    ·rintro aH ⟨dN,n12,h,rfl⟩
     unfold ee at h
     refine aa.cu<|tR<|rM J J<|ae.qv (bc J J) J<|rA J J<|rN<|aa.stop<|?_
     cases h
     exact k6 _ _ J<|aj.lq [0] J J J
   ·refine aa.exit J<|have h:=bT h fh;?_
    unfold kH at h
    refine aS<|rM J J<|rM J J<|aK h fun sC e5 h=>ae.qv (sy J J (.some _ _ _ J) .none J J e5) J<|Hy (g:=aB.av) (Z:=(⟨[],[],(⟨(0:Int),(0:Int)⟩:ar)⟩:aB)) (L:=n6) J J J J J J e5 .p0<|ae.ghost<|aj.eqs (s:=0) (cy:=.sl 4 aR 0 (Dc l5 n6 sC.length (⟨[],[],(⟨(0:Int),(0:Int)⟩:ar)⟩:aB)).length) J (congrArg (AV.sl 4 aR 0) (yl e5))<|aj.here<|ae.ghost<|aj.eqs (s:=17) (cy:=.sl 4 aR 0 (Dc l5 n6 sC.length (⟨[],[],(⟨(0:Int),(0:Int)⟩:ar)⟩:aB)).length) J (congrArg (AV.sl 4 aR 0) (yl e5))<|aj.here<|ae.ghost<|aj.eqs (s:=36) (cy:=.sl 4 aR 0 (Dc l5 n6 sC.length (⟨[],[],(⟨(0:Int),(0:Int)⟩:ar)⟩:aB)).length) J (congrArg (AV.sl 4 aR 0) (yl e5))<|aj.here<|rN<|aS<|rM J J<|rM J J<|aK h fun vm e6 h=>ae.qv (sy J J .none (.some _ _ _ J) J J e6) J<|rA J J<|ae.ghost<|aj.N5 e6 .p0<|aj.here<|rN<|aa.ret<|?_
    cases h
    exact hH J [0] J ⟨aR,J,J⟩
theorem xQ [GI:bM] {ab:aB} {ah:bO} {r:Bool} (h:ga ab ah=r):Pu Tryz.prog 50 [aB.av ab,.bR [.str ah]] (.bool r):=by
 unfold ga at h
 refine aT.bJ Tryz.func50 J Tryz.ntmps50 Tryz.results50 J J ?_
 refine aS<|gn J J J J fun b1=>rA J J<|rN<|aS<|rF J J J<|rL J J .p0 J J<|ae.qv (aJ J J J) J<|ae.qv (A8 J J) J<|rA J J<|rN<|aa.ret<|?_
 obtain rfl:=h
 exact hP J J
theorem AG [GI:bM] {ab:List aB} {ah:bO} {ao:ar} {r:(List ar)} (h:oF ab ah ao=some r):aT Tryz.prog 24 [nG ab,.str ah,ar.av ao] [] (T1 (fun sG=>[(sG,jx r)]) (fun sG=>.sl 2 sG 0 r.length)):=by
 unfold oF at h
 refine aT.fM ?_
 refine aT.bJ Tryz.func24 J Tryz.ntmps24 Tryz.results24 J J ?_
 refine aS<|gn J J J J fun b1=>gn J J J J fun b2=>rA J J<|rN<|aS<|rA J J<|rN<|aS<|rF J J J<|rL J J .p0 J J<|rA J J<|rN<|tS<|tS<|aK h fun v3 e1 h=>aK h fun v5 e2 h=>aK h fun l7 e3 h=>aa.fT (id:=3) (A:=[0,1,0,7,0,16,0,64,240,496,1008,2047,4095,0]) (H0:=[]) (HH:=fun β=>[((β 11),u6 l7),(b2,.cells [I ao.aM,I ao.To]),(b1,.cells [.str ah])]) 14 mixed J (by kernel_rfl) (by kernel_rfl) [⟨some 1,some 3,[],fun b=>(b,u6 v3),none,[]⟩,⟨some 3,some 11,[],fun b=>(b,u6 v5),none,[]⟩,⟨some 11,none,[],fun b=>(b,u6 l7),none,[]⟩] [1,3,11] J (by kernel_rfl) J .nil (fun _=>J)<|AT.am 1 J J<|AM.qv (ax J) J<|AM.nil<|AT.BA (V:=fun b=>.sl 4 b 0 v3.length) (Ti:=[]) (Pi:=fun b=>[(b,u6 v3)]) (fun _=>J) (fun _=>J) (fun _ _=>J) J (fun _=>J) J J J ?_ ?_
 ·exact pt J (sI e1) cR .nil (fun _=>J) J fun b4=>ae.nil ⟨b4,_,J,J⟩
 refine AT.am 1 J J<|AM.qv (sk J) J<|AM.nil<|AT.RA (V:=fun b=>.sl 4 b 0 v5.length) (Ti:=fun β=>[((β 1),u6 v3)]) (Pi:=fun b=>[(b,u6 v5)]) (fun _=>J) (fun _=>J) (fun _ _=>J) (fun _=>J) (fun _=>J) J J J (fun β=>?_) ?_
 ·generalize β 1=b4
  exact vO J (pZ (fun e=>xQ (Option.some.inj e)) e2) (.cons .p0 .nil) (.cons (.co (.refl _)) (.cons (.Ho _ _ _ (.cons (.Ir _ _ _ .p1 (.cons (.co (.refl _)) .nil)) .nil)) .nil)) (fun _=>J) (fun _=>J) (fun _=>(.cons (LX.rP (fun _=>J)) .nil)) J fun b6=>ae.nil ⟨b6,_,J,J⟩
 refine AT.am 7 J J<|AM.qv (az J J) J<|AM.qv (aF J J .p0 J) J<|AM.qv (az J J) J<|AM.qv (aF J J .p0 J) J<|AM.qv (cJ J J J J J) J<|AM.qv (cJ J J J J J) J<|AM.bL (xs:=([(⟨[],[],(⟨ao.To,ao.To⟩:ar)⟩:aB)]).map aB.av) J J J J J J<|AM.nil<|AT.RA (V:=fun b=>.sl 4 b 0 l7.length) (Ti:=fun β=>[((β 3),u6 v5)]) (Pi:=fun b=>[(b,u6 l7)]) (fun _=>J) (fun _=>J) (fun _ _=>J) (fun _=>J) (fun _=>J) J J J (fun β=>?_) ?_
 ·generalize β 3=b6
  exact eK (g:=aB.av) J J J J J J J J (.list _) e3 (fun _=>.p0) J fun b8=>ae.nil ⟨b8,_,J,J⟩
 refine AT.Zc (fun _=>J) (fun _=>J) (fun _=>J) (fun β=>A9 J) J<|AT.am 1 J J<|AM.qv (ax J) J<|AM.nil<|AT.rb (fun _=>J) fun β=>?_
 generalize β 1=b4
 generalize β 3=b6
 generalize β 11=b8
 clear β
 refine rN<|aa.block<|aa.cw (fun x:(List ar)×Int×Int=>ib ao l7 x.1 x.2.1 x.2.2) (fun x aH=>∃ (Ct:Bk),aH=⟨53,[(5,.ptr b2 0),(7,.sl 2 Ct 0 x.1.length),(8,I x.2.1),(25,.sl 4 b8 0 l7.length),(26,I (l7.length:Int)),(27,I x.2.2)],[(b2,.cells [I ao.aM,I ao.To]),(Ct,jx x.1),(b8,u6 l7)]⟩) h ?_ ?_
 ·exact aj.arr (s:=7) 2 J fun Ed=>aj.lq [2,0,0] ⟨Ed,J⟩ J J
 ·intro x z1 aH J1 fe h k6 fh
  obtain ⟨sC,n15,n16⟩:=x
  obtain ⟨Ct,rfl⟩:=fe
  replace h:ib ao l7 sC n15 n16=some z1:=h
  unfold ib at h
  refine aS<|ae.qv (bE J J) J<|rN<|tS<|cD h J (fun h=>?_) (fun h=>?_)
  ·refine tK<|tS<|aa.block<|aS<|aK h fun zC e4 h=>ae.qv (ba J J J e4) J<|ae.qv (aZ (g:=aB.av) J J (.inl .p2) J e4 J) J<|ct J J J J fun Cu=>aQ J J J J .p0 J J<|rN<|tS<|aS<|rF J J J<|rF J J J<|rL J J .p0 J J<|rF J J J<|rL J J .p1 J J<|ae.qv (CT J J) J<|rA J J<|rN<|aS<|rM J J<|rM J J<|ae.qv (bE J J) J<|rN<|aa.cut (fun aH=>∃ (KM:Bk) (xp:List ar),lE n15 n16 zC xp=some z1∧aH=⟨53,[(5,.ptr b2 0),(7,.sl 2 KM 0 xp.length),(8,I n15),(10,.ptr Cu 0),(25,.sl 4 b8 0 l7.length),(26,I (l7.length:Int)),(27,I n16)],[(b2,.cells [I ao.aM,I ao.To]),(KM,jx xp),(Cu,.cells (M9 zC)),(b8,u6 l7)]⟩) ?_ ?_
   ·refine cD h J (fun h=>?_) (fun h=>?_)
    ·exact tR<|rM J J<|rM J J<|rM J J<|ae.qv (cJ J J J J J) J<|bj (xs:=([(⟨n15,min zC.Time.aM ao.To⟩:ar)]).map ar.av) J J J J J J<|aK h fun Eb e5 h=>eK (g:=ar.av) J J J J J J J J (.list _) e5 (fun _=>.p2) J fun L2=>rA J J<|rN<|aa.stop<|aj.lq [1,1,0,0] ⟨L2,Eb,h,J⟩ J J
    ·exact tK<|aa.stop<|aj.lq [1,1,0,0] ⟨Ct,sC,h,J⟩ J J
   ·rintro aH ⟨KM,xp,h,rfl⟩
    unfold lE at h
    refine tR<|rM J J<|rF J J J<|rF J J J<|rL J J .p2 J J<|ae.qv (JC J J) J<|rA J J<|rN<|aa.cu<|tR<|ae.qv (bc J J) J<|rM J J<|rN<|aa.stop<|?_
    cases h
    exact k6 _ _ J<|aj.lq [0,0,1] ⟨KM,J⟩ J J
  ·refine aa.exit J<|have h:=bT h fh;aS<|rM J J<|rA J J<|rN<|aa.ret<|?_
   cases h
   exact hH J [1] J ⟨Ct,J,J⟩
theorem rl [GI:bM] {ab:List ar} {ah:List ar} {r:Bool} (h:gx ab ah=some r):Pu Tryz.prog 23 [qY ab,qY ah] (.bool r):=by
 unfold gx at h
 refine aT.bJ Tryz.func23 J Tryz.ntmps23 Tryz.results23 J J ?_
 refine aS<|rA J J<|rN<|tS<|aS<|rM J J<|ae.qv (cY J) J<|rM J J<|ae.qv (cY J) J<|ae.qv (jU J J) J<|rN<|cD h J (fun h=>?_) (fun h=>?_)
 ·refine aS<|rA J J<|rN<|aa.ret<|?_
  cases h
  exact hP J J
 ·refine tK<|tS<|aS<|rM J J<|ae.qv (cY J) J<|rM J J<|rN<|aa.block<|aa.cw (fun x:Int=>fA ab ah x) (fun x aH=>aH=⟨26,[(0,qY ab),(1,qY ah),(12,I (ab.length:Int)),(13,I x)],[]⟩) h ?_ ?_
  ·exact aj.lq [] J J J
  ·intro n2 z1 aH J1 fe h k6 fh
   obtain rfl:=fe
   replace h:fA ab ah n2=some z1:=h
   unfold fA at h
   refine aS<|ae.qv (bE J J) J<|rN<|tS<|cD h J (fun h=>?_) (fun h=>?_)
   ·refine tK<|tS<|aa.block<|aS<|rM J J<|rA J J<|rN<|tS<|aa.bS (id:=6) (A:=[0,0,3,7,0,0,48,112,255]) 9 mixed J (by kernel_rfl) (by kernel_rfl)<|AM.qv (ax J) J<|AM.qv (ax J) J<|aK h fun v3 e1 h=>AM.qv (bN J J J e1 J J) J<|AM.qv (bf J J J) J<|AM.qv (ax J) J<|AM.qv (ax J) J<|aK h fun v4 e2 h=>AM.qv (bN J J J e2 J J) J<|AM.qv (bf J J J) J<|AM.qv (N0 (g:=ar.av) (X:=v3) (Y:=v4) J J J J J) J<|AM.nil<|rN<|cD h J (fun h=>?_) (fun h=>?_)
    ·refine aS<|rA J J<|rN<|aa.ret<|have h:=bT h fh;?_
     cases h
     exact hP J J
    ·refine tK<|aa.cu<|tR<|ae.qv (bc J J) J<|rM J J<|rN<|aa.stop<|?_
     cases h
     exact k6 _ _ J<|aj.lq [] J J J
   ·refine aa.exit J<|have h:=bT h fh;aS<|rA J J<|rN<|aa.ret<|?_
    cases h
    exact hP J J
theorem xg [GI:bM] {ab:Signal} {r:Int} (h:kL ab=some r):Pu Tryz.prog 73 [Signal.av ab] (I r):=by
 unfold kL at h
 refine aT.bJ Tryz.func73 J Tryz.ntmps73 Tryz.results73 J J ?_
 refine aS<|gn J J J J fun b1=>rA J J<|rN<|aS<|rF J J J<|rL J J .p0 J J<|ae.qv (tb J J) J<|rA J J<|rN<|aS<|rF J J J<|rL J J .p0 J J<|ae.qv (cL J J) J<|rA J J<|rN<|tS<|aa.block<|aS<|rF J J J<|rL J J .p0 J J<|bB J (tJ J) cR J<|ae.qv (eF J) J<|rA J J<|rN<|cB h J (fun h=>?_) (fun h=>?_)
 ·refine aS<|rA J J<|rN<|aa.ret<|?_
  cases h
  exact hP J J
 ·refine tS<|aa.cut (fun aH=>∃ (c2:Bool),gd ab c2=some r∧aH=⟨73,[(1,.ptr b1 0),(3,.bool (decide ((3:Int)≤ab.Kind))),(4,.bool (decide (ab.Kind=(4:Int)))),(16,.bool c2)],[(b1,.cells (vn ab))]⟩) ?_ ?_
  ·refine tR<|rF J J J<|rL J J .p0 J J<|aK h fun v3 e1 h=>bB J (k7 e1) cR J<|ae.qv (eF J) J<|rM J J<|ae.guard J J J (fun hc=>?_) (fun hc=>?_)
   ·exact have h:=ye hc h;rF J J J<|rY J J J<|rL J J .p0 J J<|rY J J J<|aK h fun v4 e2 h=>bB J (k7 e2) cR J<|rY J J J<|ae.qv (eF J) J<|rE J J J<|rA J J<|rN<|aa.stop<|aj.lq [0] ⟨!v4,h,J⟩ J J
   ·exact have h:=sW hc h;rG J J J J<|rG J J J J<|rG J J J J<|rT J J J<|rA J J<|rN<|aa.stop<|aj.lq [0] ⟨true,h,J⟩ J J
  ·rintro aH ⟨c2,h,rfl⟩
   unfold gd at h
   refine cB h J (fun h=>?_) (fun h=>?_)
   ·refine aS<|rA J J<|rN<|aa.ret<|?_
    cases h
    exact hP J J
   ·refine aS<|rF J J J<|rL J J .p0 J J<|bB J (qt J) cR J<|rA J J<|rN<|cB h J (fun h=>?_) (fun h=>?_)
    ·refine aS<|rA J J<|rN<|aa.ret<|?_
     cases h
     exact hP J J
    ·refine tS<|aa.cut (fun aH=>∃ (c5:Bool),gb ab c5=some r∧aH=⟨73,[(1,.ptr b1 0),(3,.bool (decide ((3:Int)≤ab.Kind))),(4,.bool (decide (ab.Kind=(4:Int)))),(31,.bool c5)],[(b1,.cells (vn ab))]⟩) ?_ ?_
     ·refine tR<|rM J J<|rM J J<|gT h J J J (fun h=>?_) (fun h=>?_)
      ·exact rF J J J<|rY J J J<|rL J J .p0 J J<|rY J J J<|aK h fun v6 e3 h=>bB J (k7 e3) cR J<|rY J J J<|ae.qv (eF J) J<|rT J J J<|rA J J<|rN<|aa.stop<|aj.lq [0] ⟨!v6,h,J⟩ J J
      ·exact rG J J J J<|rG J J J J<|rG J J J J<|rE J J J<|rA J J<|rN<|aa.stop<|aj.lq [0] ⟨false,h,J⟩ J J
     ·rintro aH ⟨c5,h,rfl⟩
      unfold gb at h
      refine cB h J (fun h=>?_) (fun h=>?_)
      ·refine aS<|rA J J<|rN<|aa.ret<|?_
       cases h
       exact hP J J
      ·refine tS<|aa.cut (fun aH=>∃ (c7:Bool),kK ab c7=some r∧aH=⟨73,[(1,.ptr b1 0),(4,.bool (decide (ab.Kind=(4:Int)))),(39,.bool c7)],[(b1,.cells (vn ab))]⟩) ?_ ?_
       ·refine tR<|rM J J<|ae.qv (lY J) J<|rM J J<|ae.bH J J J (fun hc=>?_) (fun hc=>?_)
        ·rw [iD hc] at h
         exact rF J J J<|rY J J J<|rL J J .p0 J J<|rY J J J<|ae.qv (A8 J J) J<|rT J J J<|rA J J<|rN<|aa.stop<|aj.lq [0] ⟨decide (ab.By≠([]:bO)),h,J⟩ J J
        ·rw [iE hc] at h
         exact rG J J J J<|rG J J J J<|rE J J J<|rA J J<|rN<|aa.stop<|aj.lq [0] ⟨false,h,J⟩ J J
       ·rintro aH ⟨c7,h,rfl⟩
        unfold kK at h
        refine cB h J (fun h=>?_) (fun h=>?_)
        ·refine aS<|rA J J<|rN<|aa.ret<|?_
         cases h
         exact hP J J
        ·refine tS<|aa.cut (fun aH=>∃ (c8:Bool),kJ ab c8=some r∧aH=⟨73,[(1,.ptr b1 0),(4,.bool (decide (ab.Kind=(4:Int)))),(47,.bool c8)],[(b1,.cells (vn ab))]⟩) ?_ ?_
         ·refine tR<|rM J J<|rM J J<|ae.bH J J J (fun hc=>?_) (fun hc=>?_)
          ·rw [iD hc] at h
           refine rF J J J<|rY J J J<|rL J J .p0 J J<|rY J J J<|rF J J J<|rY J J J<|rL J J .p0 J J<|rY J J J<|ae.qv (bc J J) J<|rY J J J<|rF J J J<|rY J J J<|rL J J .p0 J J<|rY J J J<|ae.qv (bc J J) J<|rY J J J<|bB J (qt J) cR J<|rY J J J<|rM J J<|ae.guard J J J (fun hc=>?_) (fun hc=>?_)
           ·rw [Rb hc] at h
            exact rF J J J<|rY J J J<|rL J J .p0 J J<|rY J J J<|ae.qv (fW J J) J<|rY J J J<|rE J J J<|rT J J J<|rA J J<|rN<|aa.stop<|aj.lq [0] ⟨decide ((345686400000:Int) < ab.bu),h,J⟩ J J
           ·rw [Ra hc] at h
            exact rG J J J J<|rG J J J J<|rY J J J<|rT J J J<|rT J J J<|rA J J<|rN<|aa.stop<|aj.lq [0] ⟨true,h,J⟩ J J
          ·rw [iE hc] at h
           exact rG J J J J<|rG J J J J<|rG J J J J<|rG J J J J<|rG J J J J<|rG J J J J<|rG J J J J<|rG J J J J<|rG J J J J<|ae.j0 J J J<|ae.j0 J J J<|ae.j0 J J J<|rG J J J J<|rE J J J<|rA J J<|rN<|aa.stop<|aj.lq [0] ⟨false,h,J⟩ J J
         ·rintro aH ⟨c8,h,rfl⟩
          unfold kJ at h
          refine cB h J (fun h=>?_) (fun h=>?_)
          ·refine aS<|rA J J<|rN<|aa.ret<|?_
           cases h
           exact hP J J
          ·refine tS<|aa.cut (fun aH=>∃ (c9:Bool),kI c9=some r∧aH=⟨73,[(65,.bool c9)],[]⟩) ?_ ?_
           ·refine tR<|rM J J<|ae.qv (lY J) J<|rM J J<|ae.bH J J J (fun hc=>?_) (fun hc=>?_)
            ·rw [iD hc] at h
             exact rF J J J<|rY J J J<|rL J J .p0 J J<|rY J J J<|ae.qv (jU J J) J<|rT J J J<|rA J J<|rN<|aa.stop<|aj.lq [] ⟨decide (ab.bu≠(0:Int)),h,J⟩ J J
            ·rw [iE hc] at h
             exact rG J J J J<|rG J J J J<|rE J J J<|rA J J<|rN<|aa.stop<|aj.lq [] ⟨false,h,J⟩ J J
           ·rintro aH ⟨c9,h,rfl⟩
            unfold kI at h
            refine cB h J (fun h=>?_) (fun h=>?_)
            ·refine aS<|rA J J<|rN<|aa.ret<|?_
             cases h
             exact hP J J
            ·refine tK<|aa.cu<|aS<|rA J J<|rN<|aa.ret<|?_
             cases h
             exact hP J J
theorem zF [GI:bM] {ab:Signal} {ah:Signal} {r:Int} (h:nx ab ah=some r):Pu Tryz.prog 74 [Signal.av ab,Signal.av ah] (I r):=by
 unfold nx at h
 refine aT.bJ Tryz.func74 J Tryz.ntmps74 Tryz.results74 J J ?_
 refine aS<|gn J J J J fun b1=>gn J J J J fun b2=>rA J J<|rN<|tS<|aa.bS (id:=1) (A:=[0,1,0,4,15,0,32,0,128,511,0,1024,0,4096,16383,0,32768,0,131072,524287,1048575,2097151,4194303]) 23 mixed J (by kernel_rfl) (by kernel_rfl)<|AM.qv (az J J) J<|AM.qv (aF J J .p1 J) J<|AM.qv (az J J) J<|AM.qv (aF J J .p0 J) J<|AM.fL J (fD J) cR J<|AM.qv (az J J) J<|AM.qv (aF J J .p1 J) J<|AM.qv (az J J) J<|AM.qv (aF J J .p0 J) J<|AM.fL J (cr J) cR J<|AM.qv (az J J) J<|AM.qv (aF J J .p1 J) J<|AM.qv (az J J) J<|AM.qv (aF J J .p0 J) J<|AM.fL J (cr J) cR J<|AM.qv (az J J) J<|AM.qv (aF J J .p1 J) J<|AM.qv (az J J) J<|AM.qv (aF J J .p0 J) J<|AM.fL J (fD J) cR J<|AM.bL (xs:=([(cmp_Compare_int ab.At ah.At),(Lib.compareBytes ab.Device ah.Device),(Lib.compareBytes ab.bg ah.bg),(cmp_Compare_int ab.Kind ah.Kind)]:List Int).map I) J J J J J J<|aK h fun v3 e1 h=>AM.fL J (kS e1) cR J<|AM.qv (bZ J) J<|AM.nil<|rN<|aa.ret<|?_
 cases h
 exact hP J J
theorem qU [GI:bM] {ab:List Signal} {r:Int} (h:ic ab=some r):Pu Tryz.prog 52 [lV ab] (I r):=by
 unfold ic at h
 refine aT.bJ Tryz.func52 J Tryz.ntmps52 Tryz.results52 J J ?_
 refine aS<|rA J J<|rN<|tS<|aS<|rM J J<|ae.qv (cY J) J<|ae.qv (fW J J) J<|rN<|cD h J (fun h=>?_) (fun h=>?_)
 ·refine aS<|rA J J<|rN<|aa.ret<|?_
  cases h
  exact hP J J
 ·refine tK<|tS<|aS<|rM J J<|ae.qv (cY J) J<|rM J J<|rN<|aa.block<|aa.cw (fun x:Int=>db ab x) (fun x aH=>aH=⟨34,[(0,lV ab),(9,lV ab),(10,I (ab.length:Int)),(11,I x)],[]⟩) h ?_ ?_
  ·exact aj.lq [] J J J
  ·intro n2 z1 aH J1 fe h k6 fh
   obtain rfl:=fe
   replace h:db ab n2=some z1:=h
   unfold db at h
   refine aS<|ae.qv (bE J J) J<|rN<|tS<|cD h J (fun h=>?_) (fun h=>?_)
   ·refine tK<|tS<|aa.block<|aS<|rM J J<|aK h fun v3 e1 h=>ae.qv (bN J J J e1 J J) J<|ae.qv (bf J J J) J<|ct J J J J fun b4=>rA J J<|aQ J J J J .p0 J J<|rN<|tS<|aS<|ae.qv (bq J J .p0 J) J<|aK h fun v5 e2 h=>bB J (xg e2) cR J<|rA J J<|rN<|aS<|rM J J<|ae.qv (jU J J) J<|rN<|cD h J (fun h=>?_) (fun h=>?_)
    ·refine aS<|rM J J<|rA J J<|rN<|aa.ret<|have h:=bT h fh;?_
     cases h
     exact hP J J
    ·refine tK<|tS<|aa.cut (fun aH=>∃ (c6:Bool),gU n2 c6=some z1∧aH=⟨34,[(0,lV ab),(9,lV ab),(10,I (ab.length:Int)),(11,I n2),(32,.bool c6)],[]⟩) ?_ ?_
     ·refine aa.bS (id:=9) (A:=[0,1,3,7,7,7,39,119,247,511,1023,2047]) 12 mixed J (by kernel_rfl) (by kernel_rfl)<|AM.qv (ax J) J<|AM.qv (fW J J) J<|AM.qv (ax J) J<|AM.bH J J J (fun hc=>?_) (fun hc=>?_)
      ·exact have h:=sW hc h;AM.qv (bq J J .p0 J) J<|AM.aI J J J<|AM.qv (ax J) J<|AM.aI J J J<|AM.qv (ax J) J<|AM.aI J J J<|AM.qv (bK J J) J<|AM.aI J J J<|aK h fun v7 e3 h=>AM.qv (bN J J J e3 J J) J<|AM.aI J J J<|AM.qv (bf J J J) J<|AM.aI J J J<|aK h fun v8 e4 h=>AM.fL J (zF e4) cR J<|AM.aI J J J<|AM.qv (ot J J) J<|AM.qv (kj J J) J<|AM.nil<|rN<|aa.stop<|aj.lq [] ⟨decide (v8≤(0:Int)),h,J⟩ J J
      ·exact have h:=zq hc h;AM.aN J J J J<|AM.aN J J J J<|AM.aN J J J J<|AM.aN J J J J<|AM.aN J J J J<|AM.aN J J J J<|AM.aN J J J J<|AM.qv (jz J J) J<|AM.nil<|rN<|aa.stop<|aj.lq [] ⟨false,h,J⟩ J J
     ·rintro aH ⟨c6,h,rfl⟩
      unfold gU at h
      refine cB h J (fun h=>?_) (fun h=>?_)
      ·refine aS<|rA J J<|rN<|aa.ret<|have h:=bT h fh;?_
       cases h
       exact hP J J
      ·refine tK<|aa.cu<|tR<|ae.qv (bc J J) J<|rM J J<|rN<|aa.stop<|?_
       cases h
       exact k6 _ _ J<|aj.lq [] J J J
   ·refine aa.exit J<|have h:=bT h fh;aS<|rA J J<|rN<|aa.ret<|?_
    cases h
    exact hP J J
theorem Ee [GI:bM] {ab:List Int} {r:Int} (h:uJ ab=some r):Pu Tryz.prog 51 [eJ ab] (I r):=by
 unfold uJ at h
 refine aT.bJ Tryz.func51 J Tryz.ntmps51 Tryz.results51 J J ?_
 refine aS<|rA J J<|rN<|tS<|aS<|rM J J<|ae.qv (cY J) J<|rM J J<|rN<|aa.block<|aa.cw (fun x:Int=>qB ab x) (fun x aH=>aH=⟨15,[(5,eJ ab),(6,I (ab.length:Int)),(7,I x)],[]⟩) h ?_ ?_
 ·exact aj.lq [] J J J
 ·intro n2 z1 aH J1 fe h k6 fh
  obtain rfl:=fe
  replace h:qB ab n2=some z1:=h
  unfold qB at h
  refine aS<|ae.qv (bE J J) J<|rN<|tS<|cD h J (fun h=>?_) (fun h=>?_)
  ·refine tK<|tS<|aa.block<|aS<|aK h fun v3 e1 h=>ae.qv (bN J J J e1 J J) J<|ae.qv (aJ J J J) J<|rA J J<|rN<|aS<|rM J J<|ae.qv (jU J J) J<|rN<|cD h J (fun h=>?_) (fun h=>?_)
   ·refine aS<|rM J J<|rA J J<|rN<|aa.ret<|have h:=bT h fh;?_
    cases h
    exact hP J J
   ·refine tK<|aa.cu<|tR<|ae.qv (bc J J) J<|rM J J<|rN<|aa.stop<|?_
    cases h
    exact k6 _ _ J<|aj.lq [] J J J
  ·refine aa.exit J<|have h:=bT h fh;aS<|rA J J<|rN<|aa.ret<|?_
   cases h
   exact hP J J
theorem BV [GI:bM] {ab:aq} {ah:aq} {r:Int} (h:rV ab ah=some r):Pu Tryz.prog 104 [aq.av ab,aq.av ah] (I r):=by
 unfold rV at h
 refine aT.bJ Tryz.func104 J Tryz.ntmps104 Tryz.results104 J J ?_
 refine aS<|gn J J J J fun b1=>gn J J J J fun b2=>rA J J<|rN<|tS<|aa.bS (id:=1) (A:=[0,1,0,4,15,0,32,0,128,511,1023,2047,4095]) 13 mixed J (by kernel_rfl) (by kernel_rfl)<|AM.qv (az J J) J<|AM.qv (aF J J .p1 J) J<|AM.qv (az J J) J<|AM.qv (aF J J .p0 J) J<|AM.fL J (cr J) cR J<|AM.qv (az J J) J<|AM.qv (aF J J .p1 J) J<|AM.qv (az J J) J<|AM.qv (aF J J .p0 J) J<|AM.fL J (cr J) cR J<|AM.bL (xs:=([(Lib.compareBytes ab.aG ah.aG),(Lib.compareBytes ab.a8 ah.a8)]:List Int).map I) J J J J J J<|aK h fun v3 e1 h=>AM.fL J (kS e1) cR J<|AM.qv (bZ J) J<|AM.nil<|rN<|aa.ret<|?_
 cases h
 exact hP J J
theorem xh [GI:bM] {ab:au} {ah:au} {r:Int} (h:iV ab ah=some r):Pu Tryz.prog 103 [.bR [.str ab.bl.aG,.str ab.bl.a8,I ab.aE,I ab.bX,eJ ab.aY,I ab.ay,qY ab.mj,qY ab.bt,qY ab.aW,eJ ab.cj,eJ ab.bG],.bR [.str ah.bl.aG,.str ah.bl.a8,I ah.aE,I ah.bX,eJ ah.aY,I ah.ay,qY ah.mj,qY ah.bt,qY ah.aW,eJ ah.cj,eJ ah.bG]] (I r):=by
 unfold iV at h
 refine aT.bJ Tryz.func103 J Tryz.ntmps103 Tryz.results103 J J ?_
 refine aS<|rA J J<|rN<|tS<|aa.bS (id:=1) (A:=[0,1,3,7,0,16,48,112,255,511]) 10 mixed J (by kernel_rfl) (by kernel_rfl)<|AM.qv (ax J) J<|AM.qv (bb J) J<|AM.qv (aO J J) J<|AM.qv (tV J J J J) J<|AM.qv (ax J) J<|AM.qv (bb J) J<|AM.qv (aO J J) J<|AM.qv (tV J J J J) J<|aK h fun v1 e1 h=>AM.fL J (BV e1) cR J<|AM.qv (bZ J) J<|AM.nil<|rN<|aa.ret<|?_
 cases h
 exact hP J J
theorem mP:HF Tryz.prog 102:=⟨fun enc h1 cf hO g cb cu off cap d w eg hc hH hb hs=>Any.slices_SortFunc_eq Tryz.FI enc h1 cf hO g cb cu off cap d w eg hc hH hb hs,fun p cap fv w=>AnyF.slices_SortFunc_none {Tryz.FI with} p cap fv w⟩
theorem zG [GI:bM] {ab:List Signal} {r:ch} (h:ny ab=some r):aT Tryz.prog 75 [lV ab] [] (T6 (fun sG BW BX FM uK BY=>[(sG,.cells [.sg BW,.sl 1 BX 0 r.kV.length]),(BW,.mp (r.sX.map (fun e=>(aq.av e.1,(pA uK) e.2)))),(BX,.arr 1 (r.kV.map (pA uK))),(FM,.cm (nT HM uK BY r.Cp))]) (fun sG BW BX FM uK BY=>.ptr sG 0)):=by
 unfold ny at h
 refine aT.fM ?_
 refine aT.bJ Tryz.func75 J Tryz.ntmps75 Tryz.results75 J J ?_
 refine aS<|rA J J<|rN<|aS<|zv J fun b1=>ae.qv (cJ J J J J J) J<|gn J J J J fun b2=>ae.ghost<|aj.HC (kb:=HM) fun b3 bo4 bs5=>aj.here<|rA J J<|rN<|tS<|aS<|rM J J<|ae.qv (cY J) J<|rM J J<|rN<|aa.block<|aa.cw (fun x:(List (aq×Int))×(List au)×(List Int)×Int=>eh ab x.1 x.2.1 x.2.2.1 x.2.2.2) (fun x aH=>∃ (FN:Nat→Bk) (Ef:Nat→Nat→Bk) (Ed:Bk),aH=⟨55,[(3,.ptr b2 0),(11,lV ab),(12,I (ab.length:Int)),(13,I x.2.2.2)],[(b2,.cells [.sg b1,.sl 1 Ed 0 x.2.2.1.length]),(b1,.mp (x.1.map (fun e=>(aq.av e.1,(pA FN) e.2)))),(b3,.cm (nT HM FN Ef x.2.1)),(Ed,.arr 1 (x.2.2.1.map (pA FN)))]⟩) h ?_ ?_
 ·exact aj.sv (j:=1) 1 (fun _=>.p1) J (fun _=>J) (fun _=>J) fun KM=>aj.lq [2,2,1,0] ⟨bo4,bs5,KM,J⟩ J J
 ·intro x z1 aH J1 fe h k6 fh
  obtain ⟨rj,sC,Dq,n19⟩:=x
  obtain ⟨FN,Ef,Ed,rfl⟩:=fe
  replace h:eh ab rj sC Dq n19=some z1:=h
  unfold eh at h
  refine aS<|ae.qv (bE J J) J<|rN<|tS<|cD h J (fun h=>?_) (fun h=>?_)
  ·refine tK<|tS<|aa.cut (fun aH=>∃ (KN:Nat→Bk) (GV:Nat→Nat→Bk) (xv:Bk) (xp:List (aq×Int)) (Eb:List au) (sY:List Int),kM n19 xp Eb sY=some z1∧aH=⟨55,[(3,.ptr b2 0),(11,lV ab),(12,I (ab.length:Int)),(13,I n19)],[(b2,.cells [.sg b1,.sl 1 xv 0 sY.length]),(b1,.mp (xp.map (fun e=>(aq.av e.1,(pA KN) e.2)))),(b3,.cm (nT HM KN GV Eb)),(xv,.arr 1 (sY.map (pA KN)))]⟩) ?_ ?_
   ·refine aa.block<|aS<|aK h fun rU e1 h=>ae.qv (bN J J J e1 J J) J<|ae.qv (bf J J J) J<|ct J J J J fun TH=>aQ J J J J .p0 J J<|rN<|aS<|rF J J J<|rL J J .p0 J J<|rF J J J<|rL J J .p0 J J<|ae.qv (cJ J J J J J) J<|ct J J J J fun Yg=>aQ J J J J .p0 J J<|rN<|tS<|aa.bS (id:=6) (A:=[0,1,3,7,0,31,63]) 7 mixed J (by kernel_rfl) (by kernel_rfl)<|AM.qv (ax J) J<|AM.qv (aC J) J<|AM.qv (az J J) J<|AM.qv (aF J J .p2 J) J<|AM.qv (bq J J .p0 J) J<|O5 h (fun e2 h=>?_) (fun n30 e2 h=>?_)
    ·exact AM.qv (xM (gk:=aq.av) (gv:=(pA FN)) (M:=rj) (key:=(⟨rU.Device,rU.bg⟩:aq)) J J .p3 J e2) J<|AM.qv (Fq J J) J<|AM.nil<|rN<|aa.Jz J<|aS<|ae.qv (bq J J .p0 J) J<|ae.qv (cJ J J J J J) J<|gn J J J J fun TI=>rA J J<|rN<|tS<|aa.bS (id:=8) (A:=[0,1,3,7,0,0,63]) 6 mixed J (by kernel_rfl) (by kernel_rfl)<|AM.qv (ax J) J<|AM.qv (aC J) J<|AM.qv (az J J) J<|AM.qv (aF J J .p3 J) J<|AM.qv (bq J J .p1 J) J<|AM.qv (ax J) J<|AM.nil<|ae.ghost<|aj.sv (j:=4) 1 (fun _=>.p0) J (fun _=>J) (fun _=>J) fun VH=>aj.here<|ae.ghost<|aj.sv (j:=6) 2 (fun _=>.p1) J (fun _=>J) (fun _=>J) fun Qx=>aj.here<|ae.ghost<|aj.sv (j:=7) 2 (fun _=>.p2) J (fun _=>J) (fun _=>J) fun KO=>aj.here<|ae.ghost<|aj.sv (j:=8) 2 (fun _=>.p3) J (fun _=>J) (fun _=>J) fun TJ=>aj.here<|ae.ghost<|aj.sv (j:=9) 1 (fun _=>.p4) J (fun _=>J) (fun _=>J) fun qZ=>aj.here<|ae.ghost<|aj.sv (j:=10) 1 (fun _=>.p5) J (fun _=>J) (fun _=>J) fun Gq=>aj.here<|aK h fun u38 e3 h=>ae.ghost<|aj.HE (kb:=HM) (v:=(⟨(⟨rU.Device,rU.bg⟩:aq),(0:Int),(0:Int),[],(0:Int),[],[],[],[],[]⟩:au)) (s:=Ta [VH,Qx,KO,TJ,qZ,Gq]) (.cons .p6 (.cons .p5 (.cons .p4 (.cons .p3 (.cons .p2 (.cons .p1 (.cons .p0 .nil))))))) J (fun _ _=>.p4) fun GW VL Sb Po=>aj.here<|ae.ghost<|aj.GN (RI Sb (RG e3)) .p3<|aj.here<|ae.ghost<|aj.GN (Ky Sb (RH e3)) .p5<|aj.here<|ae.ghost<|aj.eqs (s:=31) (cy:=.ptr (GW (sC.length:Int).toNat) 0) J (D8 Po _)<|aj.here<|ae.ghost<|aj.eqs (s:=7) (cy:=.ptr (GW (sC.length:Int).toNat) 0) J (D8 Po _)<|aj.here<|ae.ghost<|aj.eqs (s:=37) (cy:=.ptr (GW (sC.length:Int).toNat) 0) J (D8 Po _)<|aj.here<|Ab (gk:=aq.av) (gv:=(pA GW)) (M:=rj) (key:=(⟨rU.Device,rU.bg⟩:aq)) (v:=(sC.length:Int)) J J J J .p3<|rN<|tR<|rM J J<|rM J J<|ae.qv (aC J) J<|rF J J J<|rL J J .p2 J J<|rM J J<|bj (xs:=([(sC.length:Int)]).map (pA GW)) J J J J J J<|aK h fun M7 e5 h=>eK (g:=(pA GW)) J J J J J J J J (.list _) e5 (fun _=>.p5) J fun VM=>ae.qv (aC J) J<|rF J J J<|aQ J J J J .p2 J J<|rN<|aa.cu<|aa.stop<|aj.lq [2,2,2,2] ⟨GW,VL,VM,pz rj (⟨rU.Device,rU.bg⟩:aq) (sC.length:Int),sC++[(⟨(⟨rU.Device,rU.bg⟩:aq),(0:Int),(0:Int),[],(0:Int),[],[],[],[],[]⟩:au)],M7,h,J⟩ J J
    ·exact AM.qv (xN (gk:=aq.av) (gv:=(pA FN)) (M:=rj) (key:=(⟨rU.Device,rU.bg⟩:aq)) J J .p3 e2) J<|AM.qv (Hz J J) J<|AM.nil<|rN<|aa.JA J<|tK<|aa.cu<|aa.stop<|aj.lq [2,2,2,2] ⟨FN,Ef,Ed,rj,sC,Dq,h,J⟩ J J
   ·rintro aH ⟨KN,GV,xv,xp,Eb,sY,h,rfl⟩
    unfold kM at h
    refine tR<|ae.qv (bc J J) J<|rM J J<|rN<|aa.stop<|?_
    cases h
    exact k6 _ _ J<|aj.lq [0,0,0,0] ⟨KN,GV,xv,J⟩ J J
  ·refine aa.exit J<|have h:=bT h fh;?_
   unfold mV at h
   refine aS<|rM J J<|ae.qv (aC J) J<|rF J J J<|rL J J .p0 J J<|aK h fun TE e6 h=>bh J (Ae mP VA (fun e=>xh (GI:=nP) e) e6) cR (.cons .p3 (.cons .p2 .nil)) J J<|ae.ghost<|aj.eqs (s:=52) (cy:=.sl 1 Ed 0 TE.length) J (congrArg (AV.sl 1 Ed 0) (wQ e6))<|aj.here<|ae.ghost<|aj.Fg (j:=1) (cy:=.sl 1 Ed 0 TE.length) .p2 J (congrArg (AV.sl 1 Ed 0) (wQ e6)) J<|aj.here<|rN<|aS<|rM J J<|rA J J<|rN<|aa.ret<|?_
   cases h
   exact hH J [2,2,0,0] J ⟨b2,b1,Ed,b3,FN,Ef,J,J⟩
theorem qV [GI:bM] {aR:Bk} {ab:List ar} {r:Int} (h:ie ab=some r):aT Tryz.prog 154 [.sl 2 aR 0 ab.length] [(aR,jx ab)] (T0 ([(aR,jx ab)]) (.qH 2 aR r.toNat 0)):=by
 unfold ie at h
 refine aT.fM ?_
 refine aT.bJ Tryz.func154 J Tryz.ntmps154 Tryz.results154 J J ?_
 refine aS<|rA J J<|rN<|aS<|rM J J<|rM J J<|ae.qv (iC J) J<|ae.qv (bK J J) J<|aK h fun v1 e1 h=>ae.qv (ba J J J e1) J<|rA J J<|rN<|aa.ret<|?_
 cases h
 exact hH J [0] J ⟨J,J⟩
theorem mZ [GI:bM] {aR:Bk} {fi:Bk} {fj:Bk} {gj:Bk} {eC:Bk} {fk:Bk} {cM:Bk} {ab:au} {ah:Int} {ao:Int} {r:au} (h:gN ab ah ao=some r):aT Tryz.prog 126 [.ptr aR 0,I ah,I ao] [(aR,.cells (GS ab fi fj gj eC fk cM)),(fi,jy ab.aY),(fj,jx ab.mj),(gj,jx ab.bt),(eC,jx ab.aW),(fk,jy ab.cj),(cM,jy ab.bG)] (T6 (fun wc we wg wh wi sJ=>[(aR,.cells (GS r wc we wg wh wi sJ)),(wc,jy r.aY),(we,jx r.mj),(wg,jx r.bt),(wh,jx r.aW),(wi,jy r.cj),(sJ,jy r.bG)]) (fun wc we wg wh wi sJ=>.oL [])):=by
 unfold gN at h
 refine aT.fM ?_
 refine aT.bJ Tryz.func126 J Tryz.ntmps126 Tryz.results126 J J ?_
 refine aS<|rA J J<|rN<|tS<|aa.cut (fun aH=>∃ (c1:Bool) (c2:Bool),me ab ah ao c1 c2=some r∧aH=⟨92,[(0,.ptr aR 0),(1,I ah),(2,I ao),(6,.func (.func 154) []),(7,.bool c1),(8,.bool c2)],[(aR,.cells (GS ab fi fj gj eC fk cM)),(fi,jy ab.aY),(fj,jx ab.mj),(gj,jx ab.bt),(eC,jx ab.aW),(fk,jy ab.cj),(cM,jy ab.bG)]⟩) ?_ ?_
 ·refine tR<|rM J J<|ae.qv (aC J) J<|rF J J J<|rL J J .p0 J J<|ae.qv (cL J J) J<|rM J J<|ae.ff J J J (fun hc=>?_) (fun hc=>?_)
  ·rw [yh hc] at h
   refine rM J J<|rY J J J<|ae.qv (aC J) J<|rY J J J<|rF J J J<|rY J J J<|rL J J .p0 J J<|rY J J J<|ae.qv (cL J J) J<|rE J J J<|rM J J<|ae.qv (cL J J) J<|rM J J<|ae.ff J J J (fun hc=>?_) (fun hc=>?_)
   ·rw [yh hc] at h
    exact rM J J<|rY J J J<|ae.qv (cL J J) J<|rE J J J<|rA J J<|rA J J<|rN<|aa.stop<|aj.lq [0,0,0,0,0,0,0] ⟨decide (ab.aE=(2:Int)),decide (ah=(2:Int)),h,J⟩ J J
   ·rw [yg hc] at h
    exact rG J J J J<|rT J J J<|rA J J<|rA J J<|rN<|aa.stop<|aj.lq [0,0,0,0,0,0,0] ⟨decide (ab.aE=(2:Int)),true,h,J⟩ J J
  ·rw [yg hc] at h
   refine rG J J J J<|rG J J J J<|rG J J J J<|rG J J J J<|rT J J J<|rM J J<|ae.qv (cL J J) J<|rM J J<|ae.ff J J J (fun hc=>?_) (fun hc=>?_)
   ·rw [yh hc] at h
    exact rM J J<|rY J J J<|ae.qv (cL J J) J<|rE J J J<|rA J J<|rA J J<|rN<|aa.stop<|aj.lq [0,0,0,0,0,0,0] ⟨true,decide (ah=(2:Int)),h,J⟩ J J
   ·rw [yg hc] at h
    exact rG J J J J<|rT J J J<|rA J J<|rA J J<|rN<|aa.stop<|aj.lq [0,0,0,0,0,0,0] ⟨true,true,h,J⟩ J J
 ·rintro aH ⟨c1,c2,h,rfl⟩
  unfold me at h
  refine tS<|aS<|rM J J<|ae.qv (aC J) J<|rF J J J<|rL J J .p0 J J<|ae.qv (cL J J) J<|rN<|aa.cut (fun aH=>∃ (l3:List ar),ik ab ah ao c1 c2 l3=some r∧aH=⟨92,[(0,.ptr aR 0),(1,I ah),(2,I ao),(6,.func (.func 154) []),(7,.bool c1),(8,.bool c2)],[(aR,.cells [.str ab.bl.aG,.str ab.bl.a8,I ab.aE,I ab.bX,.sl 1 fi 0 ab.aY.length,I ab.ay,.sl 2 fj 0 ab.mj.length,.sl 2 gj 0 l3.length,.sl 2 eC 0 ab.aW.length,.sl 1 fk 0 ab.cj.length,.sl 1 cM 0 ab.bG.length]),(fi,jy ab.aY),(fj,jx ab.mj),(gj,jx l3),(eC,jx ab.aW),(fk,jy ab.cj),(cM,jy ab.bG)]⟩) ?_ ?_
  ·refine cD h J (fun h=>?_) (fun h=>?_)
   ·exact tR<|rM J J<|rM J J<|ae.qv (aC J) J<|rF J J J<|rL J J .p0 J J<|aK h fun v4 e1 h=>Fe J J J (qV e1) cR (.cons .p3 .nil) J J<|rM J J<|ae.qv (bD J) J<|ae.qv (bI J J) J<|aK h fun v5 e2 h=>bz (g:=ar.av) (uy:=(⟨v5.aM,ao⟩:ar)) J J J J e2 J .p0 J<|ae.ghost<|aj.eqs (s:=36) (cy:=.sl 2 gj 0 (ab.bt.set v4.toNat (⟨v5.aM,ao⟩:ar)).length) J (by rw [List.length_set])<|aj.here<|ae.ghost<|aj.Fg (j:=7) (cy:=.sl 2 gj 0 (ab.bt.set v4.toNat (⟨v5.aM,ao⟩:ar)).length) .p1 J (by rw [List.length_set]) J<|aj.here<|rN<|aa.stop<|aj.lq [1,1,1,0,0,0,0] ⟨ab.bt.set v4.toNat (⟨v5.aM,ao⟩:ar),h,J⟩ J J
   ·exact tK<|aa.stop<|aj.lq [0,0,0,0,0,0,0] ⟨ab.bt,h,J⟩ J J
  ·rintro aH ⟨l3,h,rfl⟩
   unfold ik at h
   refine tS<|tS<|aa.cut (fun aH=>∃ (c6:Bool),mc ab ah ao c1 c2 l3 c6=some r∧aH=⟨92,[(0,.ptr aR 0),(1,I ah),(2,I ao),(6,.func (.func 154) []),(7,.bool c1),(8,.bool c2),(45,.bool c6)],[(aR,.cells [.str ab.bl.aG,.str ab.bl.a8,I ab.aE,I ab.bX,.sl 1 fi 0 ab.aY.length,I ab.ay,.sl 2 fj 0 ab.mj.length,.sl 2 gj 0 l3.length,.sl 2 eC 0 ab.aW.length,.sl 1 fk 0 ab.cj.length,.sl 1 cM 0 ab.bG.length]),(fi,jy ab.aY),(fj,jx ab.mj),(gj,jx l3),(eC,jx ab.aW),(fk,jy ab.cj),(cM,jy ab.bG)]⟩) ?_ ?_
   ·refine tR<|rM J J<|rM J J<|ae.guard J J J (fun hc=>?_) (fun hc=>?_)
    ·rw [JY hc] at h
     exact rM J J<|rY J J J<|ae.qv (eF J) J<|rT J J J<|rN<|aa.stop<|aj.lq [0,0,0,0,0,0,0] ⟨!c2,h,J⟩ J J
    ·rw [JZ hc] at h
     exact rG J J J J<|rE J J J<|rN<|aa.stop<|aj.lq [0,0,0,0,0,0,0] ⟨false,h,J⟩ J J
   ·rintro aH ⟨c6,h,rfl⟩
    unfold mc at h
    refine aa.cut (fun aH=>∃ (l7:List ar),ij ab ah ao c1 c2 l3 l7=some r∧aH=⟨92,[(0,.ptr aR 0),(1,I ah),(2,I ao),(7,.bool c1),(8,.bool c2)],[(aR,.cells [.str ab.bl.aG,.str ab.bl.a8,I ab.aE,I ab.bX,.sl 1 fi 0 ab.aY.length,I ab.ay,.sl 2 fj 0 l7.length,.sl 2 gj 0 l3.length,.sl 2 eC 0 ab.aW.length,.sl 1 fk 0 ab.cj.length,.sl 1 cM 0 ab.bG.length]),(fi,jy ab.aY),(fj,jx l7),(gj,jx l3),(eC,jx ab.aW),(fk,jy ab.cj),(cM,jy ab.bG)]⟩) ?_ ?_
    ·refine cB h J (fun h=>?_) (fun h=>?_)
     ·exact tR<|rM J J<|rM J J<|ae.qv (aC J) J<|rF J J J<|rL J J .p0 J J<|aK h fun v8 e3 h=>Fe J J J (qV e3) cR (.cons .p2 .nil) J J<|rM J J<|ae.qv (bD J) J<|ae.qv (bI J J) J<|aK h fun v9 e4 h=>bz (g:=ar.av) (uy:=(⟨v9.aM,ao⟩:ar)) J J J J e4 J .p0 J<|ae.ghost<|aj.eqs (s:=50) (cy:=.sl 2 fj 0 (ab.mj.set v8.toNat (⟨v9.aM,ao⟩:ar)).length) J (by rw [List.length_set])<|aj.here<|ae.ghost<|aj.Fg (j:=6) (cy:=.sl 2 fj 0 (ab.mj.set v8.toNat (⟨v9.aM,ao⟩:ar)).length) .p1 J (by rw [List.length_set]) J<|aj.here<|rN<|aa.stop<|aj.lq [1,1,0,0,0,0,0] ⟨ab.mj.set v8.toNat (⟨v9.aM,ao⟩:ar),h,J⟩ J J
     ·exact tK<|aa.stop<|aj.lq [0,0,0,0,0,0,0] ⟨ab.mj,h,J⟩ J J
    ·rintro aH ⟨l7,h,rfl⟩
     unfold ij at h
     refine tS<|aS<|rM J J<|ae.qv (cL J J) J<|rN<|aa.cut (fun aH=>∃ (mF:Bk) (dN:List ar),ig ab ah ao c1 c2 l7 dN=some r∧aH=⟨92,[(0,.ptr aR 0),(1,I ah),(2,I ao),(7,.bool c1),(8,.bool c2)],[(aR,.cells [.str ab.bl.aG,.str ab.bl.a8,I ab.aE,I ab.bX,.sl 1 fi 0 ab.aY.length,I ab.ay,.sl 2 fj 0 l7.length,.sl 2 mF 0 dN.length,.sl 2 eC 0 ab.aW.length,.sl 1 fk 0 ab.cj.length,.sl 1 cM 0 ab.bG.length]),(fi,jy ab.aY),(fj,jx l7),(mF,jx dN),(eC,jx ab.aW),(fk,jy ab.cj),(cM,jy ab.bG)]⟩) ?_ ?_
     ·refine cD h J (fun h=>?_) (fun h=>?_)
      ·exact tR<|rM J J<|rM J J<|ae.qv (aC J) J<|rF J J J<|rL J J .p0 J J<|rM J J<|ae.qv (cJ J J J J J) J<|bj (xs:=([(⟨ao,(345686400000:Int)⟩:ar)]).map ar.av) J J J J J J<|aK h fun jT e5 h=>eK (g:=ar.av) J J J J J J J J (.list _) e5 (fun _=>.p3) J fun Ct=>ae.qv (aC J) J<|rF J J J<|aQ J J J J .p0 J J<|rN<|aa.stop<|aj.lq [0,0,0,0,0,0,0] ⟨Ct,jT,h,J⟩ J J
      ·exact tK<|aa.stop<|aj.lq [0,0,0,0,0,0,0] ⟨gj,l3,h,J⟩ J J
     ·rintro aH ⟨mF,dN,h,rfl⟩
      unfold ig at h
      refine tS<|tS<|aa.cut (fun aH=>∃ (RS:Bool),mb ab ah ao l7 dN RS=some r∧aH=⟨92,[(0,.ptr aR 0),(1,I ah),(2,I ao),(72,.bool RS)],[(aR,.cells [.str ab.bl.aG,.str ab.bl.a8,I ab.aE,I ab.bX,.sl 1 fi 0 ab.aY.length,I ab.ay,.sl 2 fj 0 l7.length,.sl 2 mF 0 dN.length,.sl 2 eC 0 ab.aW.length,.sl 1 fk 0 ab.cj.length,.sl 1 cM 0 ab.bG.length]),(fi,jy ab.aY),(fj,jx l7),(mF,jx dN),(eC,jx ab.aW),(fk,jy ab.cj),(cM,jy ab.bG)]⟩) ?_ ?_
      ·refine tR<|rM J J<|rM J J<|ae.guard J J J (fun hc=>?_) (fun hc=>?_)
       ·rw [JY hc] at h
        exact rM J J<|rY J J J<|ae.qv (eF J) J<|rT J J J<|rN<|aa.stop<|aj.lq [0,0,0,0,0,0,0] ⟨!c1,h,J⟩ J J
       ·rw [JZ hc] at h
        exact rG J J J J<|rE J J J<|rN<|aa.stop<|aj.lq [0,0,0,0,0,0,0] ⟨false,h,J⟩ J J
      ·rintro aH ⟨RS,h,rfl⟩
       unfold mb at h
       refine aa.cut (fun aH=>∃ (Oi:Bk) (nX:List ar),jH ab ah ao dN nX=some r∧aH=⟨92,[(0,.ptr aR 0),(1,I ah),(2,I ao)],[(aR,.cells [.str ab.bl.aG,.str ab.bl.a8,I ab.aE,I ab.bX,.sl 1 fi 0 ab.aY.length,I ab.ay,.sl 2 Oi 0 nX.length,.sl 2 mF 0 dN.length,.sl 2 eC 0 ab.aW.length,.sl 1 fk 0 ab.cj.length,.sl 1 cM 0 ab.bG.length]),(fi,jy ab.aY),(Oi,jx nX),(mF,jx dN),(eC,jx ab.aW),(fk,jy ab.cj),(cM,jy ab.bG)]⟩) ?_ ?_
       ·refine cB h J (fun h=>?_) (fun h=>?_)
        ·exact tR<|rM J J<|rM J J<|ae.qv (aC J) J<|rF J J J<|rL J J .p0 J J<|rM J J<|ae.qv (cJ J J J J J) J<|bj (xs:=([(⟨ao,(345686400000:Int)⟩:ar)]).map ar.av) J J J J J J<|aK h fun Cr e6 h=>eK (g:=ar.av) J J J J J J J J (.list _) e6 (fun _=>.p2) J fun zk=>ae.qv (aC J) J<|rF J J J<|aQ J J J J .p0 J J<|rN<|aa.stop<|aj.lq [0,0,0,0,0,0,0] ⟨zk,Cr,h,J⟩ J J
        ·exact tK<|aa.stop<|aj.lq [0,0,0,0,0,0,0] ⟨fj,l7,h,J⟩ J J
       ·rintro aH ⟨Oi,nX,h,rfl⟩
        unfold jH at h
        refine tR<|rM J J<|rM J J<|rM J J<|rM J J<|ae.qv (aC J) J<|rF J J J<|aQ J J J J .p0 J J<|ae.qv (aC J) J<|rF J J J<|aQ J J J J .p0 J J<|rN<|aa.nil<|?_
        cases h
        exact aj.here ⟨_,.nil,_,.cons .p0 (.cons .p0 (.cons .p0 (.cons .p0 (.cons .p0 (.cons .p0 (.cons .p0 .nil)))))),⟨fi,Oi,mF,eC,fk,cM,J,J⟩⟩
theorem xR [GI:bM] {aR:Bk} {fi:Bk} {fj:Bk} {gj:Bk} {eC:Bk} {fk:Bk} {cM:Bk} {ab:au} {ah:Signal} {r:Int×au} (h:lF ab ah=some r):aT Tryz.prog 127 [.ptr aR 0,Signal.av ah] [(aR,.cells (GS ab fi fj gj eC fk cM)),(fi,jy ab.aY),(fj,jx ab.mj),(gj,jx ab.bt),(eC,jx ab.aW),(fk,jy ab.cj),(cM,jy ab.bG)] (T6 (fun wc we wg wh wi sJ=>[(aR,.cells (GS r.2 wc we wg wh wi sJ)),(wc,jy r.2.aY),(we,jx r.2.mj),(wg,jx r.2.bt),(wh,jx r.2.aW),(wi,jy r.2.cj),(sJ,jy r.2.bG)]) (fun wc we wg wh wi sJ=>I r.1)):=by
 unfold lF at h
 refine aT.fM ?_
 refine aT.bJ Tryz.func127 J Tryz.ntmps127 Tryz.results127 J J ?_
 refine aS<|gn J J J J fun b1=>rA J J<|rN<|aS<|rF J J J<|rL J J .p0 J J<|ae.qv (cL J J) J<|rA J J<|rN<|tS<|aa.block<|tS<|aa.cut (fun aH=>∃ (c2:Bool),je ab ah c2=some r∧aH=⟨95,[(0,.ptr aR 0),(3,.ptr b1 0),(5,.bool (decide (ah.Kind=(2:Int)))),(9,.bool c2)],[(aR,.cells (GS ab fi fj gj eC fk cM)),(fi,jy ab.aY),(fj,jx ab.mj),(gj,jx ab.bt),(eC,jx ab.aW),(fk,jy ab.cj),(cM,jy ab.bG),(b1,.cells (vn ah))]⟩) ?_ ?_
 ·refine tR<|rM J J<|rM J J<|ae.bH J J J (fun hc=>?_) (fun hc=>?_)
  ·rw [iD hc] at h
   exact rM J J<|rY J J J<|ae.qv (aC J) J<|rY J J J<|rF J J J<|rY J J J<|rL J J .p1 J J<|rY J J J<|ae.qv (cL J J) J<|rT J J J<|rA J J<|rN<|aa.stop<|aj.lq [1,1,1,1,1,1,1,0] ⟨decide (ab.aE=(1:Int)),h,J⟩ J J
  ·rw [iE hc] at h
   exact rG J J J J<|rG J J J J<|rG J J J J<|rG J J J J<|rE J J J<|rA J J<|rN<|aa.stop<|aj.lq [1,1,1,1,1,1,1,0] ⟨false,h,J⟩ J J
 ·rintro aH ⟨c2,h,rfl⟩
  unfold je at h
  refine aa.cut (fun aH=>∃ (b7:Bk) (mF:Bk) (CL:Bk) (xf:Bk) (FK:Bk) (zk:Bk) (q3:bO) (q4:bO) (n5:Int) (n6:Int) (l8:List Int) (n9:Int) (dN:List ar) (rj:List ar) (vm:List ar) (Cr:List Int) (sB:List Int),dK ah q3 q4 n5 n6 l8 n9 dN rj vm Cr sB=some r∧aH=⟨95,[(0,.ptr aR 0),(3,.ptr b1 0),(5,.bool (decide (ah.Kind=(2:Int))))],[(aR,.cells [.str q3,.str q4,I n5,I n6,.sl 1 b7 0 l8.length,I n9,.sl 2 mF 0 dN.length,.sl 2 CL 0 rj.length,.sl 2 xf 0 vm.length,.sl 1 FK 0 Cr.length,.sl 1 zk 0 sB.length]),(b7,jy l8),(mF,jx dN),(CL,jx rj),(xf,jx vm),(FK,jy Cr),(zk,jy sB),(b1,.cells (vn ah))]⟩) ?_ ?_
  ·refine cB h J (fun h=>?_) (fun h=>?_)
   ·exact tR<|rM J J<|rF J J J<|rL J J .p7 J J<|aK h fun v20 e1 h=>rS J (mZ e1) cR (.cons .p0 (.cons .p0 (.cons .p0 (.cons .p0 (.cons .p0 (.cons .p0 (.cons .p0 .nil))))))) (fun _ _ _ _ _ _=>J) J fun L3 ES L2 GU xv IY=>rN<|aa.stop<|aj.lq [0,0,0,0,0,0,0,0] ⟨L3,ES,L2,GU,xv,IY,v20.bl.aG,v20.bl.a8,v20.aE,v20.bX,v20.aY,v20.ay,v20.mj,v20.bt,v20.aW,v20.cj,v20.bG,h,J⟩ J J
   ·refine tS<|tS<|aa.cut (fun aH=>∃ (Pk:Bool),jd ab ah Pk=some r∧aH=⟨95,[(0,.ptr aR 0),(3,.ptr b1 0),(5,.bool (decide (ah.Kind=(2:Int)))),(22,.bool Pk)],[(aR,.cells (GS ab fi fj gj eC fk cM)),(fi,jy ab.aY),(fj,jx ab.mj),(gj,jx ab.bt),(eC,jx ab.aW),(fk,jy ab.cj),(cM,jy ab.bG),(b1,.cells (vn ah))]⟩) ?_ ?_
    ·refine tR<|rM J J<|rM J J<|ae.bH J J J (fun hc=>?_) (fun hc=>?_)
     ·rw [iD hc] at h
      exact rM J J<|rY J J J<|ae.qv (aC J) J<|rY J J J<|rF J J J<|rY J J J<|rL J J .p0 J J<|rY J J J<|ae.qv (cL J J) J<|rT J J J<|rA J J<|rN<|aa.stop<|aj.lq [0,0,0,0,0,0,0,0] ⟨decide (ab.aE=(2:Int)),h,J⟩ J J
     ·rw [iE hc] at h
      exact rG J J J J<|rG J J J J<|rG J J J J<|rG J J J J<|rE J J J<|rA J J<|rN<|aa.stop<|aj.lq [0,0,0,0,0,0,0,0] ⟨false,h,J⟩ J J
    ·rintro aH ⟨Pk,h,rfl⟩
     unfold jd at h
     refine aa.cut (fun aH=>∃ (KF:Bool),fu ab ah KF=some r∧aH=⟨95,[(0,.ptr aR 0),(3,.ptr b1 0),(5,.bool (decide (ah.Kind=(2:Int)))),(22,.bool KF)],[(aR,.cells (GS ab fi fj gj eC fk cM)),(fi,jy ab.aY),(fj,jx ab.mj),(gj,jx ab.bt),(eC,jx ab.aW),(fk,jy ab.cj),(cM,jy ab.bG),(b1,.cells (vn ah))]⟩) ?_ ?_
     ·refine cB h J (fun h=>?_) (fun h=>?_)
      ·exact tK<|aa.stop<|aj.lq [0,0,0,0,0,0,0,0] ⟨Pk,h,J⟩ J J
      ·refine aa.cut (fun aH=>∃ (Jr:Bool),jc ab ah Jr=some r∧aH=⟨95,[(0,.ptr aR 0),(3,.ptr b1 0),(5,.bool (decide (ah.Kind=(2:Int)))),(22,.bool Jr)],[(aR,.cells (GS ab fi fj gj eC fk cM)),(fi,jy ab.aY),(fj,jx ab.mj),(gj,jx ab.bt),(eC,jx ab.aW),(fk,jy ab.cj),(cM,jy ab.bG),(b1,.cells (vn ah))]⟩) ?_ ?_
       ·refine tR<|rM J J<|ae.qv (lY J) J<|rM J J<|ae.bH J J J (fun hc=>?_) (fun hc=>?_)
        ·rw [iD hc] at h
         exact rM J J<|rY J J J<|ae.qv (aC J) J<|rY J J J<|rF J J J<|rY J J J<|rL J J .p0 J J<|rY J J J<|ae.qv (cL J J) J<|rT J J J<|rA J J<|rN<|aa.stop<|aj.lq [0,0,0,0,0,0,0,0] ⟨decide (ab.aE=(3:Int)),h,J⟩ J J
        ·rw [iE hc] at h
         exact rG J J J J<|rG J J J J<|rG J J J J<|rG J J J J<|rE J J J<|rA J J<|rN<|aa.stop<|aj.lq [0,0,0,0,0,0,0,0] ⟨false,h,J⟩ J J
       ·rintro aH ⟨Jr,h,rfl⟩
        unfold jc at h
        exact aa.stop<|aj.lq [0,0,0,0,0,0,0,0] ⟨Jr,h,J⟩ J J
     ·rintro aH ⟨KF,h,rfl⟩
      unfold fu at h
      refine aa.cut (fun aH=>∃ (KO:Bk) (Gq:Bk) (KL:Bk) (TK:Bk) (Qv:Bk) (Qy:Bk) (Qr:bO) (Qs:bO) (n32:Int) (n33:Int) (Pj:List Int) (n36:Int) (xP:List ar) (Cq:List ar) (LZ:List ar) (AB:List Int) (HL:List Int),fq ah Qr Qs n32 n33 Pj n36 xP Cq LZ AB HL=some r∧aH=⟨95,[(0,.ptr aR 0),(3,.ptr b1 0),(5,.bool (decide (ah.Kind=(2:Int))))],[(aR,.cells [.str Qr,.str Qs,I n32,I n33,.sl 1 KO 0 Pj.length,I n36,.sl 2 Gq 0 xP.length,.sl 2 KL 0 Cq.length,.sl 2 TK 0 LZ.length,.sl 1 Qv 0 AB.length,.sl 1 Qy 0 HL.length]),(KO,jy Pj),(Gq,jx xP),(KL,jx Cq),(TK,jx LZ),(Qv,jy AB),(Qy,jy HL),(b1,.cells (vn ah))]⟩) ?_ ?_
      ·refine cB h J (fun h=>?_) (fun h=>?_)
       ·exact tR<|rM J J<|rF J J J<|rL J J .p7 J J<|aK h fun kW e2 h=>rS J (mZ e2) cR (.cons .p0 (.cons .p0 (.cons .p0 (.cons .p0 (.cons .p0 (.cons .p0 (.cons .p0 .nil))))))) (fun _ _ _ _ _ _=>J) J fun b48 VN b50 Nh b52 b53=>rN<|aa.stop<|aj.lq [0,0,0,0,0,0,0,0] ⟨b48,VN,b50,Nh,b52,b53,kW.bl.aG,kW.bl.a8,kW.aE,kW.bX,kW.aY,kW.ay,kW.mj,kW.bt,kW.aW,kW.cj,kW.bG,h,J⟩ J J
       ·refine tS<|aa.cut (fun aH=>∃ (RU:Bool),jb ab ah RU=some r∧aH=⟨95,[(0,.ptr aR 0),(3,.ptr b1 0),(5,.bool (decide (ah.Kind=(2:Int)))),(44,.bool RU)],[(aR,.cells (GS ab fi fj gj eC fk cM)),(fi,jy ab.aY),(fj,jx ab.mj),(gj,jx ab.bt),(eC,jx ab.aW),(fk,jy ab.cj),(cM,jy ab.bG),(b1,.cells (vn ah))]⟩) ?_ ?_
        ·refine tR<|rM J J<|ae.qv (lY J) J<|rM J J<|ae.bH J J J (fun hc=>?_) (fun hc=>?_)
         ·rw [iD hc] at h
          exact rM J J<|rY J J J<|ae.qv (aC J) J<|rY J J J<|rF J J J<|rY J J J<|rL J J .p0 J J<|rY J J J<|ae.qv (cL J J) J<|rT J J J<|rA J J<|rN<|aa.stop<|aj.lq [0,0,0,0,0,0,0,0] ⟨decide (ab.aE=(1:Int)),h,J⟩ J J
         ·rw [iE hc] at h
          exact rG J J J J<|rG J J J J<|rG J J J J<|rG J J J J<|rE J J J<|rA J J<|rN<|aa.stop<|aj.lq [0,0,0,0,0,0,0,0] ⟨false,h,J⟩ J J
        ·rintro aH ⟨RU,h,rfl⟩
         unfold jb at h
         refine cB h J (fun h=>?_) (fun h=>?_)
         ·exact tR<|rM J J<|rF J J J<|rL J J .p7 J J<|aK h fun v55 e3 h=>rS J (mZ e3) cR (.cons .p0 (.cons .p0 (.cons .p0 (.cons .p0 (.cons .p0 (.cons .p0 (.cons .p0 .nil))))))) (fun _ _ _ _ _ _=>J) J fun b56 b57 b58 b59 b60 b61=>rN<|aa.stop<|aj.lq [0,0,0,0,0,0,0,0] ⟨b56,b57,b58,b59,b60,b61,v55.bl.aG,v55.bl.a8,v55.aE,v55.bX,v55.aY,v55.ay,v55.mj,v55.bt,v55.aW,v55.cj,v55.bG,h,J⟩ J J
         ·refine aS<|rA J J<|rN<|aa.ret<|?_
          cases h
          exact hH J [0,0,0,0,0,0,0] J ⟨fi,fj,gj,eC,fk,cM,J,J⟩
      ·rintro aH ⟨KO,Gq,KL,TK,Qv,Qy,Qr,Qs,n32,n33,Pj,n36,xP,Cq,LZ,AB,HL,h,rfl⟩
       unfold fq at h
       exact aa.stop<|aj.lq [0,0,0,0,0,0,0,0] ⟨KO,Gq,KL,TK,Qv,Qy,Qr,Qs,n32,n33,Pj,n36,xP,Cq,LZ,AB,HL,h,J⟩ J J
  ·rintro aH ⟨b7,mF,CL,xf,FK,zk,q3,q4,n5,n6,l8,n9,dN,rj,vm,Cr,sB,h,rfl⟩
   unfold dK at h
   refine aa.cu<|tS<|aS<|rM J J<|ae.qv (lY J) J<|rN<|aa.cut (fun aH=>∃ (TN:Bk) (Oj:Bk) (Qp:List Int) (Qq:List Int),dJ q3 q4 n5 n6 l8 n9 dN rj vm Qp Qq=some r∧aH=⟨95,[],[(aR,.cells [.str q3,.str q4,I n5,I n6,.sl 1 b7 0 l8.length,I n9,.sl 2 mF 0 dN.length,.sl 2 CL 0 rj.length,.sl 2 xf 0 vm.length,.sl 1 TN 0 Qp.length,.sl 1 Oj 0 Qq.length]),(b7,jy l8),(mF,jx dN),(CL,jx rj),(xf,jx vm),(TN,jy Qp),(Oj,jy Qq)]⟩) ?_ ?_
   ·refine cD h J (fun h=>?_) (fun h=>?_)
    ·refine tS<|aK h fun M8 e4 h=>aa.fT (id:=11) (A:=[0,0,2,6,14,0,32,96,254,511,1023,2047]) (H0:=[(FK,jy Cr)]) (HH:=fun β=>[((β 8),jy M8),(aR,.cells [.str q3,.str q4,I n5,I n6,.sl 1 b7 0 l8.length,I n9,.sl 2 mF 0 dN.length,.sl 2 CL 0 rj.length,.sl 2 xf 0 vm.length,.sl 1 FK 0 Cr.length,.sl 1 zk 0 sB.length]),(b7,jy l8),(mF,jx dN),(CL,jx rj),(xf,jx vm),(zk,jy sB),(b1,.cells (vn ah))]) 9 mixed J (by kernel_rfl) (by kernel_rfl) [⟨none,some 8,[],fun _=>(FK,jy Cr),none,[]⟩,⟨some 8,none,[],fun b=>(b,jy M8),none,[]⟩] [8] J (by kernel_rfl) J (.cons .p5 .nil) (fun _=>J)<|AT.am 8 J J<|AM.qv (ax J) J<|AM.qv (ax J) J<|AM.qv (aC J) J<|AM.qv (az J J) J<|AM.qv (aF J J .p0 J) J<|AM.qv (az J J) J<|AM.qv (aF J J .p6 J) J<|AM.bL (xs:=([ah.At]:List Int).map I) J J J J J J<|AM.nil<|AT.BA (V:=fun b=>.sl 1 b 0 M8.length) (Ti:=[(FK,jy Cr)]) (Pi:=fun b=>[(b,jy M8)]) (fun _=>J) (fun _=>J) (fun _ _=>J) J (fun _=>J) J J J ?_ ?_
     ·exact eK (g:=I) J J J J J J J J (.list _) e4 (fun _=>.p0) J fun Sc=>ae.nil ⟨Sc,_,J,J⟩
     refine AT.rb (fun _=>J) fun β=>?_
     generalize β 8=Sc
     clear β
     refine ae.qv (aC J) J<|rF J J J<|aQ J J J J .p1 J J<|rN<|aK h fun Vx e5 h=>aK h fun Ph e6 h=>aa.fT (id:=12) (A:=[0,0,2,6,14,0,32,0,128,384,896,0,2048,6144,14336,30720,63488,130944,262016,524256,1048544,2097150,4194303,8388607,16777215]) (H0:=[(zk,jy sB)]) (HH:=fun β=>[((β 21),jy Ph),(Sc,jy M8),(aR,.cells [.str q3,.str q4,I n5,I n6,.sl 1 b7 0 l8.length,I n9,.sl 2 mF 0 dN.length,.sl 2 CL 0 rj.length,.sl 2 xf 0 vm.length,.sl 1 Sc 0 M8.length,.sl 1 zk 0 sB.length]),(b7,jy l8),(mF,jx dN),(CL,jx rj),(xf,jx vm),(b1,.cells (vn ah))]) 22 mixed J (by kernel_rfl) (by kernel_rfl) [⟨none,some 21,[],fun _=>(zk,jy sB),none,[]⟩,⟨some 21,none,[],fun b=>(b,jy Ph),none,[]⟩] [21] J (by kernel_rfl) J (.cons .p6 .nil) (fun _=>J)<|AT.am 21 J J<|AM.qv (ax J) J<|AM.qv (ax J) J<|AM.qv (aC J) J<|AM.qv (az J J) J<|AM.qv (aF J J .p1 J) J<|AM.qv (az J J) J<|AM.qv (aF J J .p6 J) J<|AM.qv (ax J) J<|AM.qv (aC J) J<|AM.qv (az J J) J<|AM.qv (aF J J .p1 J) J<|AM.qv (ax J) J<|AM.qv (aC J) J<|AM.qv (az J J) J<|AM.qv (aF J J .p1 J) J<|AM.qv (iC J) J<|AM.qv (bK J J) J<|AM.qv (ba J J J e5) J<|AM.qv (fw (g:=I) J J (.inl .p2) e5 J) J<|AM.qv (bK J J) J<|AM.bL (xs:=([aL (ah.At - Vx)]:List Int).map I) J J J J J J<|AM.nil<|AT.BA (V:=fun b=>.sl 1 b 0 Ph.length) (Ti:=[(zk,jy sB)]) (Pi:=fun b=>[(b,jy Ph)]) (fun _=>J) (fun _=>J) (fun _ _=>J) J (fun _=>J) J J J ?_ ?_
     ·exact eK (g:=I) J J J J J J J J (.list _) e6 (fun _=>.p0) J fun VO=>ae.nil ⟨VO,_,J,J⟩
     refine AT.rb (fun _=>J) fun β=>?_
     generalize β 21=VO
     clear β
     exact ae.qv (aC J) J<|rF J J J<|aQ J J J J .p2 J J<|rN<|aa.stop<|aj.lq [2,2,2,2,2,1,0] ⟨Sc,VO,M8,Ph,h,J⟩ J J
    ·exact tK<|aa.stop<|aj.lq [0,0,0,0,0,0,0] ⟨FK,zk,Cr,sB,h,J⟩ J J
   ·rintro aH ⟨TN,Oj,Qp,Qq,h,rfl⟩
    unfold dJ at h
    refine aS<|rA J J<|rN<|aa.ret<|?_
    cases h
    exact hH J [0,0,0,0,0,0,0] J ⟨b7,mF,CL,xf,TN,Oj,J,J⟩
theorem xi [GI:bM] {aR:Bk} {fi:Bk} {fj:Bk} {gj:Bk} {eC:Bk} {fk:Bk} {cM:Bk} {ab:au} {ah:Signal} {r:Int×au} (h:kO ab ah=some r):aT Tryz.prog 105 [.ptr aR 0,Signal.av ah] [(aR,.cells (GS ab fi fj gj eC fk cM)),(fi,jy ab.aY),(fj,jx ab.mj),(gj,jx ab.bt),(eC,jx ab.aW),(fk,jy ab.cj),(cM,jy ab.bG)] (T6 (fun wc we wg wh wi sJ=>[(aR,.cells (GS r.2 wc we wg wh wi sJ)),(wc,jy r.2.aY),(we,jx r.2.mj),(wg,jx r.2.bt),(wh,jx r.2.aW),(wi,jy r.2.cj),(sJ,jy r.2.bG)]) (fun wc we wg wh wi sJ=>I r.1)):=by
 unfold kO at h
 refine aT.fM ?_
 refine aT.bJ Tryz.func105 J Tryz.ntmps105 Tryz.results105 J J ?_
 refine aS<|gn J J J J fun b1=>rA J J<|rN<|tS<|aS<|rF J J J<|rL J J .p0 J J<|rN<|aa.block<|aS<|ae.qv (cL J J) J<|rA J J<|rN<|cD h J (fun h=>?_) (fun h=>?_)
 ·refine tS<|tS<|aa.cut (fun aH=>∃ (c2:Bool),kN ab ah c2=some r∧aH=⟨96,[(0,.ptr aR 0),(3,.ptr b1 0),(20,.bool c2)],[(aR,.cells (GS ab fi fj gj eC fk cM)),(fi,jy ab.aY),(fj,jx ab.mj),(gj,jx ab.bt),(eC,jx ab.aW),(fk,jy ab.cj),(cM,jy ab.bG),(b1,.cells (vn ah))]⟩) ?_ ?_
  ·refine tR<|rM J J<|ae.qv (aC J) J<|rF J J J<|rL J J .p1 J J<|ae.qv (cL J J) J<|rM J J<|ae.ff J J J (fun hc=>?_) (fun hc=>?_)
   ·rw [yh hc] at h
    exact rM J J<|rY J J J<|ae.qv (aC J) J<|rY J J J<|rF J J J<|rY J J J<|rL J J .p1 J J<|rY J J J<|ae.qv (cL J J) J<|rE J J J<|rN<|aa.stop<|aj.lq [1,1,1,1,1,1,1,0] ⟨decide (ab.aE=(2:Int)),h,J⟩ J J
   ·rw [yg hc] at h
    exact rG J J J J<|rG J J J J<|rG J J J J<|rG J J J J<|rT J J J<|rN<|aa.stop<|aj.lq [1,1,1,1,1,1,1,0] ⟨true,h,J⟩ J J
  ·rintro aH ⟨c2,h,rfl⟩
   unfold kN at h
   refine cB h J (fun h=>?_) (fun h=>?_)
   ·refine aS<|rA J J<|rN<|aa.ret<|?_
    cases h
    exact hH J [0,0,0,0,0,0,0] J ⟨fi,fj,gj,eC,fk,cM,J,J⟩
   ·refine tK<|aS<|rM J J<|rF J J J<|rL J J .p7 J J<|aK h fun v3 e1 h=>rS J (mZ e1) cR (.cons .p0 (.cons .p0 (.cons .p0 (.cons .p0 (.cons .p0 (.cons .p0 (.cons .p0 .nil))))))) (fun _ _ _ _ _ _=>J) J fun b4 b5 b6 b7 b8 b9=>rN<|tS<|aK h fun l10 e2 h=>aa.fT (id:=6) (A:=[0,0,2,6,14,0,32,96,254,511,1023,2047]) (H0:=[(b4,jy v3.aY)]) (HH:=fun β=>[((β 8),jy l10),(aR,.cells (GS v3 b4 b5 b6 b7 b8 b9)),(b5,jx v3.mj),(b6,jx v3.bt),(b7,jx v3.aW),(b8,jy v3.cj),(b9,jy v3.bG),(b1,.cells (vn ah))]) 9 mixed J (by kernel_rfl) (by kernel_rfl) [⟨none,some 8,[],fun _=>(b4,jy v3.aY),none,[]⟩,⟨some 8,none,[],fun b=>(b,jy l10),none,[]⟩] [8] J (by kernel_rfl) J (.cons .p1 .nil) (fun _=>J)<|AT.am 8 J J<|AM.qv (ax J) J<|AM.qv (ax J) J<|AM.qv (aC J) J<|AM.qv (az J J) J<|AM.qv (aF J J .p0 J) J<|AM.qv (az J J) J<|AM.qv (aF J J .p6 J) J<|AM.bL (xs:=([ah.At]:List Int).map I) J J J J J J<|AM.nil<|AT.BA (V:=fun b=>.sl 1 b 0 l10.length) (Ti:=[(b4,jy v3.aY)]) (Pi:=fun b=>[(b,jy l10)]) (fun _=>J) (fun _=>J) (fun _ _=>J) J (fun _=>J) J J J ?_ ?_
    ·exact eK (g:=I) J J J J J J J J (.list _) e2 (fun _=>.p0) J fun vu=>ae.nil ⟨vu,_,J,J⟩
    refine AT.rb (fun _=>J) fun β=>?_
    generalize β 8=vu
    clear β
    refine ae.qv (aC J) J<|rF J J J<|aQ J J J J .p1 J J<|rN<|aS<|rA J J<|rN<|aa.ret<|?_
    cases h
    exact hH J [1,0,0,0,0,0,0] J ⟨vu,b5,b6,b7,b8,b9,J,J⟩
 ·refine tS<|aS<|ae.qv (cL J J) J<|rA J J<|rN<|aa.cut (fun aH=>∃ (vV:Bool),gg ab ah vV=some r∧aH=⟨96,[(0,.ptr aR 0),(3,.ptr b1 0),(6,I ah.Kind),(36,.bool vV)],[(aR,.cells (GS ab fi fj gj eC fk cM)),(fi,jy ab.aY),(fj,jx ab.mj),(gj,jx ab.bt),(eC,jx ab.aW),(fk,jy ab.cj),(cM,jy ab.bG),(b1,.cells (vn ah))]⟩) ?_ ?_
  ·refine cD h J (fun h=>?_) (fun h=>?_)
   ·exact tK<|aa.stop<|aj.lq [1,1,1,1,1,1,1,0] ⟨decide (ah.Kind=(2:Int)),h,J⟩ J J
   ·exact tR<|ae.qv (cL J J) J<|rA J J<|rN<|aa.stop<|aj.lq [1,1,1,1,1,1,1,0] ⟨decide (ah.Kind=(3:Int)),h,J⟩ J J
  ·rintro aH ⟨vV,h,rfl⟩
   unfold gg at h
   refine cB h J (fun h=>?_) (fun h=>?_)
   ·refine aS<|rM J J<|ae.qv (bq J J .p7 J) J<|aK h fun fo e3 h=>rS J (xR e3) cR (.cons .p0 (.cons .p0 (.cons .p0 (.cons .p0 (.cons .p0 (.cons .p0 (.cons .p0 .nil))))))) (fun _ _ _ _ _ _=>J) J fun xf Oi FK Ed zk Cu=>rA J J<|rN<|aa.ret<|?_
    cases h
    exact hH J [0,0,0,0,0,0,0] J ⟨xf,Oi,FK,Ed,zk,Cu,J,J⟩
   ·refine aS<|ae.qv (cL J J) J<|rA J J<|rN<|cD h J (fun h=>?_) (fun h=>?_)
    ·refine tS<|tS<|aa.bS (id:=12) (A:=[0,1,3,7,0,16,63]) 7 mixed J (by kernel_rfl) (by kernel_rfl)<|AM.qv (ax J) J<|AM.qv (aC J) J<|AM.qv (az J J) J<|AM.qv (aF J J .p0 J) J<|AM.qv (az J J) J<|AM.qv (aF J J .p7 J) J<|AM.qv (fW J J) J<|AM.nil<|rN<|cD h J (fun h=>?_) (fun h=>?_)
     ·refine aS<|rA J J<|rN<|aa.ret<|?_
      cases h
      exact hH J [0,0,0,0,0,0,0] J ⟨fi,fj,gj,eC,fk,cM,J,J⟩
     ·refine tK<|aS<|rM J J<|rF J J J<|rL J J .p7 J J<|ae.qv (aC J) J<|rF J J J<|aQ J J J J .p0 J J<|rN<|tS<|aK h fun mU e4 h=>aa.fT (id:=15) (A:=[0,0,2,6,14,0,32,0,128,480,992,2046,4095,8191,16383]) (H0:=[(eC,jx ab.aW)]) (HH:=fun β=>[((β 11),jx mU),(aR,.cells [.str ab.bl.aG,.str ab.bl.a8,I ab.aE,I ab.bX,.sl 1 fi 0 ab.aY.length,I ah.bu,.sl 2 fj 0 ab.mj.length,.sl 2 gj 0 ab.bt.length,.sl 2 eC 0 ab.aW.length,.sl 1 fk 0 ab.cj.length,.sl 1 cM 0 ab.bG.length]),(fi,jy ab.aY),(fj,jx ab.mj),(gj,jx ab.bt),(fk,jy ab.cj),(cM,jy ab.bG),(b1,.cells (vn ah))]) 12 mixed J (by kernel_rfl) (by kernel_rfl) [⟨none,some 11,[],fun _=>(eC,jx ab.aW),none,[]⟩,⟨some 11,none,[],fun b=>(b,jx mU),none,[]⟩] [11] J (by kernel_rfl) J (.cons .p4 .nil) (fun _=>J)<|AT.am 11 J J<|AM.qv (ax J) J<|AM.qv (ax J) J<|AM.qv (aC J) J<|AM.qv (az J J) J<|AM.qv (aF J J .p0 J) J<|AM.qv (az J J) J<|AM.qv (aF J J .p6 J) J<|AM.qv (az J J) J<|AM.qv (aF J J .p6 J) J<|AM.qv (cJ J J J J J) J<|AM.bL (xs:=([(⟨ah.At,ah.bu⟩:ar)]).map ar.av) J J J J J J<|AM.nil<|AT.BA (V:=fun b=>.sl 2 b 0 mU.length) (Ti:=[(eC,jx ab.aW)]) (Pi:=fun b=>[(b,jx mU)]) (fun _=>J) (fun _=>J) (fun _ _=>J) J (fun _=>J) J J J ?_ ?_
      ·exact eK (g:=ar.av) J J J J J J J J (.list _) e4 (fun _=>.p0) J fun L3=>ae.nil ⟨L3,_,J,J⟩
      refine AT.rb (fun _=>J) fun β=>?_
      generalize β 11=L3
      clear β
      refine ae.qv (aC J) J<|rF J J J<|aQ J J J J .p1 J J<|rN<|aS<|rA J J<|rN<|aa.ret<|?_
      cases h
      exact hH J [1,1,1,1,0,0,0] J ⟨fi,fj,gj,L3,fk,cM,J,J⟩
    ·refine tK<|aa.cu<|tS<|tS<|aa.bS (id:=17) (A:=[0,1,3,7,0,16,63]) 7 mixed J (by kernel_rfl) (by kernel_rfl)<|AM.qv (ax J) J<|AM.qv (aC J) J<|AM.qv (az J J) J<|AM.qv (aF J J .p0 J) J<|AM.qv (az J J) J<|AM.qv (aF J J .p7 J) J<|AM.qv (ot J J) J<|AM.nil<|rN<|cD h J (fun h=>?_) (fun h=>?_)
     ·refine aS<|rA J J<|rN<|aa.ret<|?_
      cases h
      exact hH J [0,0,0,0,0,0,0] J ⟨fi,fj,gj,eC,fk,cM,J,J⟩
     ·refine tK<|aS<|rM J J<|rF J J J<|rL J J .p7 J J<|ae.qv (aC J) J<|rF J J J<|aQ J J J J .p0 J J<|rN<|tS<|aa.bS (id:=20) (A:=[0,1,3,7,0,16,48,112,240,496,0,1024,4095,8191,16383]) 14 mixed J (by kernel_rfl) (by kernel_rfl)<|AM.qv (ax J) J<|AM.qv (aC J) J<|AM.qv (az J J) J<|AM.qv (aF J J .p0 J) J<|AM.qv (ax J) J<|AM.qv (aC J) J<|AM.qv (az J J) J<|AM.qv (aF J J .p0 J) J<|AM.qv (iC J) J<|AM.qv (bK J J) J<|AM.qv (az J J) J<|AM.qv (aF J J .p7 J) J<|aK h fun v22 e5 h=>AM.qv (ba J J J e5) J<|AM.qv (bI J J) J<|AM.nil<|bz (g:=ar.av) (uy:=(⟨v22.aM,ah.At⟩:ar)) J J J J e5 J .p4 J<|ae.ghost<|aj.eqs (s:=85) (cy:=.sl 2 eC 0 (ab.aW.set (aL ((ab.aW.length:Int) - (1:Int))).toNat (⟨v22.aM,ah.At⟩:ar)).length) J (by rw [List.length_set])<|aj.here<|ae.ghost<|aj.eqs (s:=89) (cy:=.sl 2 eC 0 (ab.aW.set (aL ((ab.aW.length:Int) - (1:Int))).toNat (⟨v22.aM,ah.At⟩:ar)).length) J (by rw [List.length_set])<|aj.here<|ae.ghost<|aj.Fg (j:=8) (cy:=.sl 2 eC 0 (ab.aW.set (aL ((ab.aW.length:Int) - (1:Int))).toNat (⟨v22.aM,ah.At⟩:ar)).length) .p0 J (by rw [List.length_set]) J<|aj.here<|rN<|aS<|rA J J<|rN<|aa.ret<|?_
      cases h
      exact hH J [0,0,0,0,0,0,0] J ⟨fi,fj,gj,eC,fk,cM,J,J⟩
theorem sK [GI:bM] {aR:Bk} {lg:Bk} {wj:Nat→Bk} {Pp:Nat→Nat→Bk} {HN:Bk} {KP:Bk} {ab:ch} {ah:Signal} {r:Int×ch} (h:fQ ab ah=some r):aT Tryz.prog 76 [.ptr aR 0,Signal.av ah] [(aR,.cells [.sg HN,.sl 1 KP 0 ab.kV.length]),(HN,.mp (ab.sX.map (fun e=>(aq.av e.1,(pA wj) e.2)))),(KP,.arr 1 (ab.kV.map (pA wj))),(lg,.cm (nT HM wj Pp ab.Cp))] (T2 (fun KQ KR=>[(aR,.cells [.sg HN,.sl 1 KQ 0 r.2.kV.length]),(HN,.mp (r.2.sX.map (fun e=>(aq.av e.1,(pA wj) e.2)))),(KQ,.arr 1 (r.2.kV.map (pA wj))),(lg,.cm (nT HM wj KR r.2.Cp))]) (fun KQ KR=>I r.1)):=by
 unfold fQ at h
 refine aT.fM ?_
 refine aT.bJ Tryz.func76 J Tryz.ntmps76 Tryz.results76 J J ?_
 refine aS<|gn J J J J fun b1=>rA J J<|rN<|tS<|aa.bS (id:=1) (A:=[0,1,3,7,0,16,0,64,240,511,0,2047,4095]) 11 mixed J (by kernel_rfl) (by kernel_rfl)<|AM.qv (ax J) J<|AM.qv (aC J) J<|AM.qv (az J J) J<|AM.qv (aF J J .p1 J) J<|AM.qv (az J J) J<|AM.qv (aF J J .p0 J) J<|AM.qv (az J J) J<|AM.qv (aF J J .p0 J) J<|AM.qv (cJ J J J J J) J<|O5 h (fun e1 h=>?_) (fun n2 e1 h=>?_)
 ·refine AM.qv (xM (gk:=aq.av) (gv:=(pA wj)) (M:=ab.sX) (key:=(⟨ah.Device,ah.bg⟩:aq)) J J .p2 J e1) J<|AM.qv (bq J J .p0 J) J<|AM.nil<|?_
  cases h
 ·refine AM.qv (xN (gk:=aq.av) (gv:=(pA wj)) (M:=ab.sX) (key:=(⟨ah.Device,ah.bg⟩:aq)) J J .p2 e1) J<|AM.qv (bq J J .p0 J) J<|AM.nil<|aK h fun v3 e2 h=>ae.ghost<|aj.Fw (kb:=HM) e2 .p4 J<|aj.here<|aK h fun v4 e3 h=>rS J (xi e3) cR (.cons .p0 (.cons .p0 (.cons .p0 (.cons .p0 (.cons .p0 (.cons .p0 (.cons .p0 .nil))))))) (fun _ _ _ _ _ _=>J) J fun b5 b6 b7 b8 b9 mF=>rA J J<|ae.ghost<|aj.HD (kb:=HM) (v':=v4.2) (s:=Ta [b5,b6,b7,b8,b9,mF]) e2 (.cons .p0 (.cons .p0 (.cons .p0 (.cons .p0 (.cons .p0 (.cons .p0 (.cons .p0 .nil))))))) J (fun _=>.p4) fun VP=>aj.here<|rN<|aa.ret<|?_
  cases h
  exact hH J [1,1,1,1] J ⟨KP,VP,J,J⟩
theorem BZ [GI:bM] {ab:List Signal} {ah:Int} {r:ch} (h:qO ab ah=some r):aT Tryz.prog 53 [lV ab,I ah] [] (T6 (fun sG BW BX FM uK BY=>[(sG,.cells [.sg BW,.sl 1 BX 0 r.kV.length]),(BW,.mp (r.sX.map (fun e=>(aq.av e.1,(pA uK) e.2)))),(BX,.arr 1 (r.kV.map (pA uK))),(FM,.cm (nT HM uK BY r.Cp))]) (fun sG BW BX FM uK BY=>.ptr sG 0)):=by
 unfold qO at h
 refine aT.fM ?_
 refine aT.bJ Tryz.func53 J Tryz.ntmps53 Tryz.results53 J J ?_
 refine aS<|rA J J<|rN<|aS<|rM J J<|aK h fun v1 e1 h=>rS J (zG e1) cR .nil (fun _ _ _ _ _ _=>J) J fun b2 b3 b4 b5 Pq bs7=>rA J J<|rN<|tS<|aS<|rM J J<|ae.qv (cY J) J<|rM J J<|rN<|aa.block<|aa.cw (fun x:(List (aq×Int))×(List au)×(List Int)×Int=>o9 ab ah x.1 x.2.1 x.2.2.1 x.2.2.2) (fun x aH=>∃ (Ef:Nat→Nat→Bk) (Ed:Bk),aH=⟨25,[(1,I ah),(5,.ptr b2 0),(10,lV ab),(11,I (ab.length:Int)),(12,I x.2.2.2)],[(b2,.cells [.sg b3,.sl 1 Ed 0 x.2.2.1.length]),(b3,.mp (x.1.map (fun e=>(aq.av e.1,(pA Pq) e.2)))),(b5,.cm (nT HM Pq Ef x.2.1)),(Ed,.arr 1 (x.2.2.1.map (pA Pq)))]⟩) h ?_ ?_
 ·exact aj.lq [0,0,1,0] ⟨bs7,b4,J⟩ J J
 ·intro x z1 aH J1 fe h k6 fh
  obtain ⟨sC,vm,Dq,n19⟩:=x
  obtain ⟨Ef,Ed,rfl⟩:=fe
  replace h:o9 ab ah sC vm Dq n19=some z1:=h
  unfold o9 at h
  refine aS<|ae.qv (bE J J) J<|rN<|tS<|cD h J (fun h=>?_) (fun h=>?_)
  ·refine tK<|tS<|aa.block<|aS<|aK h fun v20 e2 h=>ae.qv (bN J J J e2 J J) J<|ae.qv (bf J J J) J<|ct J J J J fun L3=>aQ J J J J .p0 J J<|rN<|aS<|rF J J J<|rL J J .p0 J J<|rM J J<|ae.qv (ot J J) J<|rN<|aa.cut (fun aH=>∃ (GV:Nat→Nat→Bk) (xv:Bk) (Eb:List (aq×Int)) (ri:List au) (sY:List Int),qN n19 Eb ri sY=some z1∧aH=⟨25,[(1,I ah),(5,.ptr b2 0),(10,lV ab),(11,I (ab.length:Int)),(12,I n19)],[(b2,.cells [.sg b3,.sl 1 xv 0 sY.length]),(b3,.mp (Eb.map (fun e=>(aq.av e.1,(pA Pq) e.2)))),(b5,.cm (nT HM Pq GV ri)),(xv,.arr 1 (sY.map (pA Pq)))]⟩) ?_ ?_
   ·refine cD h J (fun h=>?_) (fun h=>?_)
    ·exact tR<|rM J J<|ae.qv (bq J J .p0 J) J<|aK h fun rU e3 h=>Mx J (sK e3) cR (.cons .p1 (.cons .p1 (.cons .p2 (.cons .p1 .nil)))) (fun _ _=>J) J fun TH VQ=>rN<|aa.stop<|aj.lq [0,0,1,0] ⟨VQ,TH,rU.2.sX,rU.2.Cp,rU.2.kV,h,J⟩ J J
    ·exact tK<|aa.stop<|aj.lq [1,1,1,1] ⟨Ef,Ed,sC,vm,Dq,h,J⟩ J J
   ·rintro aH ⟨GV,xv,Eb,ri,sY,h,rfl⟩
    unfold qN at h
    refine aa.cu<|tR<|ae.qv (bc J J) J<|rM J J<|rN<|aa.stop<|?_
    cases h
    exact k6 _ _ J<|aj.lq [0,0,0,0] ⟨GV,xv,J⟩ J J
  ·refine aa.exit J<|have h:=bT h fh;aS<|rM J J<|rA J J<|rN<|aa.ret<|?_
   cases h
   exact hH J [0,0,1,0] J ⟨b2,b3,Ed,b5,Pq,Ef,J,J⟩
theorem xS [GI:bM] {ab:aA} {ah:au} {r:Bool} (h:eU ab ah=r):Pu Tryz.prog 55 [aA.av ab,.bR [.bR [.str ah.bl.aG,.str ah.bl.a8,I ah.aE,I ah.bX,eJ ah.aY,I ah.ay,qY ah.mj,qY ah.bt,qY ah.aW,eJ ah.cj,eJ ah.bG]]] (.bool r):=by
 unfold eU at h
 refine aT.bJ Tryz.func55 J Tryz.ntmps55 Tryz.results55 J J ?_
 refine aS<|gn J J J J fun b1=>rA J J<|rN<|tS<|aa.bS (id:=1) (A:=[0,1,0,4,12,28,60,127,255]) 9 mixed J (by kernel_rfl) (by kernel_rfl)<|AM.qv (az J J) J<|AM.qv (aF J J .p0 J) J<|AM.qv (aJ J J J) J<|AM.qv (bb J) J<|AM.qv (aO J J) J<|AM.qv (aO J J) J<|AM.qv (aJ J J J) J<|AM.qv (uX J J) J<|AM.qv (bZ J) J<|AM.nil<|rN<|aa.ret<|?_
 obtain rfl:=h
 exact hP J J
theorem kT [GI:bM] {ab:List aA} {gZ:aA→Option Bool} {gG:FuncId} [bF Tryz.prog gG] {jP:List AV} (qS:∀ {y0:_} {u:Bool},gZ y0=some u→Pu Tryz.prog gG (aA.av y0 :: jP) (.bool u)) {r:Int} (h:cA ab gZ=some r):Pu Tryz.prog 54 [tN ab,.func (.func gG) jP] (I r):=by
 unfold cA at h
 refine aT.bJ Tryz.func54 J Tryz.ntmps54 Tryz.results54 J J ?_
 refine aS<|rA J J<|rN<|tS<|aS<|rM J J<|ae.qv (cY J) J<|rM J J<|rN<|aa.block<|aa.cw (fun x:Int=>dB ab gZ x) (fun x aH=>aH=⟨19,[(0,tN ab),(1,.func (.func gG) jP),(7,I (ab.length:Int)),(8,I x)],[]⟩) h ?_ ?_
 ·exact aj.lq [] J J J
 ·intro n2 z1 aH J1 fe h k6 fh
  obtain rfl:=fe
  replace h:dB ab gZ n2=some z1:=h
  unfold dB at h
  refine aS<|ae.qv (bE J J) J<|rN<|tS<|cD h J (fun h=>?_) (fun h=>?_)
  ·refine tK<|tS<|aa.block<|aS<|rM J J<|rA J J<|rN<|aS<|rM J J<|rM J J<|rM J J<|aK h fun v3 e1 h=>ae.qv (bN J J J e1 J J) J<|ae.qv (bf J J J) J<|aK h fun v4 e2 h=>yd J J (qS e2) cR J<|rN<|cB h J (fun h=>?_) (fun h=>?_)
   ·refine aS<|rM J J<|rA J J<|rN<|aa.ret<|have h:=bT h fh;?_
    cases h
    exact hP J J
   ·refine tK<|aa.cu<|tR<|ae.qv (bc J J) J<|rM J J<|rN<|aa.stop<|?_
    cases h
    exact k6 _ _ J<|aj.lq [] J J J
  ·refine aa.exit J<|have h:=bT h fh;aS<|rA J J<|rN<|aa.ret<|?_
   cases h
   exact hP J J
theorem tv [GI:bM] {ab:au} {ah:Int} {r:Int} (h:j9 ab ah=some r):Pu Tryz.prog 77 [.bR [.str ab.bl.aG,.str ab.bl.a8,I ab.aE,I ab.bX,eJ ab.aY,I ab.ay,qY ab.mj,qY ab.bt,qY ab.aW,eJ ab.cj,eJ ab.bG],I ah] (I r):=by
 unfold j9 at h
 refine aT.bJ Tryz.func77 J Tryz.ntmps77 Tryz.results77 J J ?_
 refine aS<|rA J J<|rN<|tS<|aS<|rM J J<|ae.qv (bb J) J<|ae.qv (aO J J) J<|ae.qv (aJ J J J) J<|ae.qv (cY J) J<|rM J J<|rN<|aa.block<|aa.cw (fun x:Int=>il ab ah x) (fun x aH=>aH=⟨30,[(1,I ah),(10,qY ab.aW),(11,I (ab.aW.length:Int)),(12,I x)],[]⟩) h ?_ ?_
 ·exact aj.lq [] J J J
 ·intro n2 z1 aH J1 fe h k6 fh
  obtain rfl:=fe
  replace h:il ab ah n2=some z1:=h
  unfold il at h
  refine aS<|ae.qv (bE J J) J<|rN<|tS<|cD h J (fun h=>?_) (fun h=>?_)
  ·refine tK<|tS<|aa.block<|aS<|aK h fun v3 e1 h=>ae.qv (bN J J J e1 J J) J<|ae.qv (bf J J J) J<|ct J J J J fun b4=>aQ J J J J .p0 J J<|rN<|tS<|aa.cut (fun aH=>∃ (c5:Bool),mf n2 v3 c5=some z1∧aH=⟨30,[(1,I ah),(6,.ptr b4 0),(10,qY ab.aW),(11,I (ab.aW.length:Int)),(12,I n2),(25,.bool c5)],[(b4,.cells [I v3.aM,I v3.To])]⟩) ?_ ?_
   ·refine tR<|rM J J<|rF J J J<|rL J J .p0 J J<|ae.qv (tb J J) J<|rM J J<|ae.bH J J J (fun hc=>?_) (fun hc=>?_)
    ·rw [iD hc] at h
     exact rM J J<|rY J J J<|rF J J J<|rY J J J<|rL J J .p0 J J<|rY J J J<|ae.qv (bE J J) J<|rT J J J<|rN<|aa.stop<|aj.lq [0] ⟨decide (ah < v3.To),h,J⟩ J J
    ·rw [iE hc] at h
     exact rG J J J J<|rG J J J J<|rG J J J J<|rE J J J<|rN<|aa.stop<|aj.lq [0] ⟨false,h,J⟩ J J
   ·rintro aH ⟨c5,h,rfl⟩
    unfold mf at h
    refine cB h J (fun h=>?_) (fun h=>?_)
    ·refine aS<|rF J J J<|rL J J .p0 J J<|rA J J<|rN<|aa.ret<|have h:=bT h fh;?_
     cases h
     exact hP J J
    ·refine tK<|aa.cu<|tR<|ae.qv (bc J J) J<|rM J J<|rN<|aa.stop<|?_
     cases h
     exact k6 _ _ J<|aj.lq [] J J J
  ·refine aa.exit J<|have h:=bT h fh;aS<|rM J J<|rA J J<|rN<|aa.ret<|?_
   cases h
   exact hP J J
theorem rD [GI:bM] {aR:Bk} {uk:Bk} {ab:bC} {ah:au} {ao:Int} {aD:Int} {fV:bO} {r:bC} (h:iW ab ah ao aD fV=some r):aT Tryz.prog 78 [.ptr aR 0,.bR [.str ah.bl.aG,.str ah.bl.a8,I ah.aE,I ah.bX,eJ ah.aY,I ah.ay,qY ah.mj,qY ah.bt,qY ah.aW,eJ ah.cj,eJ ah.bG],I ao,I aD,.str fV] [(aR,.cells [nG ab.lj,I ab.w_.aM,I ab.w_.To,.sl 6 uk 0 ab.rf.length]),(uk,gp ab.rf)] (T1 (fun B0=>[(aR,.cells [nG r.lj,I r.w_.aM,I r.w_.To,.sl 6 B0 0 r.rf.length]),(B0,gp r.rf)]) (fun B0=>.oL [])):=by
 unfold iW at h
 refine aT.fM ?_
 refine aT.bJ Tryz.func78 J Tryz.ntmps78 Tryz.results78 J J ?_
 refine tS<|aa.cut (fun aH=>∃ (c1:Bool),kP ab ah ao aD fV c1=some r∧aH=⟨56,[(0,.ptr aR 0),(1,.bR [.str ah.bl.aG,.str ah.bl.a8,I ah.aE,I ah.bX,eJ ah.aY,I ah.ay,qY ah.mj,qY ah.bt,qY ah.aW,eJ ah.cj,eJ ah.bG]),(2,I ao),(3,I aD),(4,.str fV),(25,.bool c1)],[(aR,.cells [nG ab.lj,I ab.w_.aM,I ab.w_.To,.sl 6 uk 0 ab.rf.length]),(uk,gp ab.rf)]⟩) ?_ ?_
 ·refine tR<|rM J J<|rM J J<|ae.qv (aC J) J<|rF J J J<|rF J J J<|rL J J .p0 J J<|ae.qv (tb J J) J<|rM J J<|ae.bH J J J (fun hc=>?_) (fun hc=>?_)
  ·rw [iD hc] at h
   exact rM J J<|rY J J J<|rM J J<|rY J J J<|ae.qv (aC J) J<|rY J J J<|rF J J J<|rY J J J<|rF J J J<|rY J J J<|rL J J .p0 J J<|rY J J J<|ae.qv (bE J J) J<|rT J J J<|rN<|aa.stop<|aj.lq [0,0] ⟨decide (ao < ab.w_.To),h,J⟩ J J
  ·rw [iE hc] at h
   exact rG J J J J<|rG J J J J<|rG J J J J<|rG J J J J<|rG J J J J<|rG J J J J<|rE J J J<|rN<|aa.stop<|aj.lq [0,0] ⟨false,h,J⟩ J J
 ·rintro aH ⟨c1,h,rfl⟩
  unfold kP at h
  refine aa.cut (fun aH=>∃ (b2:Bk) (l3:List ai),iG ab l3=some r∧aH=⟨56,[],[(aR,.cells [nG ab.lj,I ab.w_.aM,I ab.w_.To,.sl 6 b2 0 l3.length]),(b2,gp l3)]⟩) ?_ ?_
  ·refine cB h J (fun h=>?_) (fun h=>?_)
   ·refine aK h fun v4 e1 h=>aK h fun l5 e2 h=>aa.fT (id:=1) (A:=[0,0,2,6,14,0,0,64,192,448,960,0,2048,6144,14336,30720,0,0,131072,393216,917504,0,0,8257536,0,33554400,67108832,134217726,268435455,536870911,1073741823]) (H0:=[(uk,gp ab.rf)]) (HH:=fun β=>[((β 27),gp l5),(aR,.cells [nG ab.lj,I ab.w_.aM,I ab.w_.To,.sl 6 uk 0 ab.rf.length])]) 28 mixed J (by kernel_rfl) (by kernel_rfl) [⟨none,some 27,[],fun _=>(uk,gp ab.rf),none,[]⟩,⟨some 27,none,[],fun b=>(b,gp l5),none,[]⟩] [27] J (by kernel_rfl) J (.cons .p1 .nil) (fun _=>J)<|AT.am 27 J J<|AM.qv (ax J) J<|AM.qv (ax J) J<|AM.qv (aC J) J<|AM.qv (az J J) J<|AM.qv (aF J J .p0 J) J<|AM.qv (ax J) J<|AM.qv (ax J) J<|AM.qv (bb J) J<|AM.qv (aO J J) J<|AM.qv (aO J J) J<|AM.qv (aJ J J J) J<|AM.qv (ax J) J<|AM.qv (bb J) J<|AM.qv (aO J J) J<|AM.qv (aO J J) J<|AM.qv (aJ J J J) J<|AM.qv (ax J) J<|AM.qv (ax J) J<|AM.qv (aC J) J<|AM.qv (az J J) J<|AM.qv (aF J J .p0 J) J<|AM.qv (ax J) J<|AM.qv (ax J) J<|AM.fL J (wb e1) cR J<|AM.qv (ax J) J<|AM.qv (cJ J J J J J) J<|AM.bL (xs:=([(⟨ao,ah.bl.aG,ah.bl.a8,fV,v4,aD⟩:ai)]).map ai.av) J J J J J J<|AM.nil<|AT.BA (V:=fun b=>.sl 6 b 0 l5.length) (Ti:=[(uk,gp ab.rf)]) (Pi:=fun b=>[(b,gp l5)]) (fun _=>J) (fun _=>J) (fun _ _=>J) J (fun _=>J) J J J ?_ ?_
    ·exact eK (g:=ai.av) J J J J J J J J (.list _) e2 (fun _=>.p0) J fun b6=>ae.nil ⟨b6,_,J,J⟩
    refine AT.rb (fun _=>J) fun β=>?_
    generalize β 27=b6
    clear β
    exact ae.qv (aC J) J<|rF J J J<|aQ J J J J .p1 J J<|rN<|aa.stop<|aj.lq [1,0] ⟨b6,l5,h,J⟩ J J
   ·exact tK<|aa.stop<|aj.lq [0,0] ⟨uk,ab.rf,h,J⟩ J J
  ·rintro aH ⟨b2,l3,h,rfl⟩
   unfold iG at h
   refine aa.nil<|?_
   cases h
   exact aj.here ⟨_,.nil,_,.cons .p0 (.cons .p0 .nil),⟨b2,J,J⟩⟩
theorem rH [GI:bM] {ab:bC} {r:Bool} (h:ei ab=r):Pu Tryz.prog 57 [.bR [nG ab.lj,I ab.w_.aM,I ab.w_.To,R9 ab.rf]] (.bool r):=by
 unfold ei at h
 refine aT.bJ Tryz.func57 J Tryz.ntmps57 Tryz.results57 J J ?_
 refine aS<|rA J J<|rN<|aS<|rM J J<|ae.qv (bb J) J<|ae.qv (aO J J) J<|ae.qv (aJ J J J) J<|ae.qv (cY J) J<|ae.qv (fW J J) J<|rA J J<|rN<|aa.ret<|?_
 obtain rfl:=h
 exact hP J J
theorem wk [GI:bM] {aR:Bk} {uk:Bk} {ab:bC} {ah:au} {ao:aA} {aD:ar} {r:bC} (h:im ab ah ao aD=some r):aT Tryz.prog 56 [.ptr aR 0,.bR [.str ah.bl.aG,.str ah.bl.a8,I ah.aE,I ah.bX,eJ ah.aY,I ah.ay,qY ah.mj,qY ah.bt,qY ah.aW,eJ ah.cj,eJ ah.bG],aA.av ao,ar.av aD] [(aR,.cells [nG ab.lj,I ab.w_.aM,I ab.w_.To,.sl 6 uk 0 ab.rf.length]),(uk,gp ab.rf)] (T1 (fun B0=>[(aR,.cells [nG r.lj,I r.w_.aM,I r.w_.To,.sl 6 B0 0 r.rf.length]),(B0,gp r.rf)]) (fun B0=>.oL [])):=by
 unfold im at h
 refine aT.fM ?_
 refine aT.bJ Tryz.func56 J Tryz.ntmps56 Tryz.results56 J J ?_
 refine aS<|gn J J J J fun b1=>gn J J J J fun b2=>rN<|aS<|rF J J J<|rL J J .p1 J J<|ae.qv (cY J) J<|ae.qv (bK J J) J<|rA J J<|rN<|tS<|aS<|rF J J J<|rL J J .p1 J J<|ae.qv (cY J) J<|rM J J<|rN<|aa.block<|aa.cw (fun x:(List aB)×Int×Int×(List ai)×Int=>fK ah ao aD x.1 x.2.1 x.2.2.1 x.2.2.2.1 x.2.2.2.2) (fun x aH=>∃ (CL:Bk),aH=⟨136,[(0,.ptr aR 0),(1,.bR [.str ah.bl.aG,.str ah.bl.a8,I ah.aE,I ah.bX,eJ ah.aY,I ah.ay,qY ah.mj,qY ah.bt,qY ah.aW,eJ ah.cj,eJ ah.bG]),(6,.ptr b1 0),(7,.ptr b2 0),(8,I (aL ((ao.aV.length:Int) - (1:Int)))),(22,x6 ao.aV),(23,I (ao.aV.length:Int)),(24,I x.2.2.2.2)],[(aR,.cells [nG x.1,I x.2.1,I x.2.2.1,.sl 6 CL 0 x.2.2.2.1.length]),(CL,gp x.2.2.2.1),(b1,.cells [.str ao.bg,x6 ao.aV,I ao.aX]),(b2,.cells [I aD.aM,I aD.To])]⟩) h ?_ ?_
 ·exact aj.lq [2,2,1,0] ⟨uk,J⟩ J J
 ·intro x z1 aH J1 fe h k6 fh
  obtain ⟨l9,n10,n11,rj,n14⟩:=x
  obtain ⟨CL,rfl⟩:=fe
  replace h:fK ah ao aD l9 n10 n11 rj n14=some z1:=h
  unfold fK at h
  refine aS<|ae.qv (bE J J) J<|rN<|tS<|cD h J (fun h=>?_) (fun h=>?_)
  ·refine tK<|tS<|aa.block<|aS<|rM J J<|aK h fun ll e1 h=>ae.qv (bN J J J e1 J J) J<|ae.qv (bf J J J) J<|ct J J J J fun FK=>rA J J<|aQ J J J J .p0 J J<|rN<|aS<|rF J J J<|rL J J .p4 J J<|rF J J J<|rL J J .p0 J J<|ae.qv (bc J J) J<|rA J J<|rN<|tS<|aa.cut (fun aH=>∃ (RW:Bool),fI ah aD l9 n10 n11 rj n14 ll RW=some z1∧aH=⟨136,[(0,.ptr aR 0),(1,.bR [.str ah.bl.aG,.str ah.bl.a8,I ah.aE,I ah.bX,eJ ah.aY,I ah.ay,qY ah.mj,qY ah.bt,qY ah.aW,eJ ah.cj,eJ ah.bG]),(6,.ptr b1 0),(7,.ptr b2 0),(8,I (aL ((ao.aV.length:Int) - (1:Int)))),(9,I n14),(10,.ptr FK 0),(11,I (aL (aD.aM+ll.bn))),(22,x6 ao.aV),(23,I (ao.aV.length:Int)),(24,I n14),(44,.bool RW)],[(aR,.cells [nG l9,I n10,I n11,.sl 6 CL 0 rj.length]),(CL,gp rj),(b1,.cells [.str ao.bg,x6 ao.aV,I ao.aX]),(b2,.cells [I aD.aM,I aD.To]),(FK,.cells [I ll.bn,.str ll.cO])]⟩) ?_ ?_
   ·refine tR<|rM J J<|rF J J J<|rL J J .p4 J J<|ae.qv (bE J J) J<|rM J J<|gT h J J J (fun h=>?_) (fun h=>?_)
    ·exact rM J J<|rY J J J<|rM J J<|rY J J J<|aK h fun zC e2 h=>bB J (tv e2) cR J<|rY J J J<|rM J J<|rY J J J<|ae.qv (cL J J) J<|rT J J J<|rN<|aa.stop<|aj.lq [1,1,1,1,0] ⟨decide (zC=(aL (aD.aM+ll.bn))),h,J⟩ J J
    ·exact rG J J J J<|rG J J J J<|rG J J J J<|rG J J J J<|rE J J J<|rN<|aa.stop<|aj.lq [1,1,1,1,0] ⟨false,h,J⟩ J J
   ·rintro aH ⟨RW,h,rfl⟩
    unfold fI at h
    refine aa.cut (fun aH=>∃ (ES:Bk) (sB:List aB) (n20:Int) (n21:Int) (ri:List ai),fH n14 sB n20 n21 ri=some z1∧aH=⟨136,[(0,.ptr aR 0),(1,.bR [.str ah.bl.aG,.str ah.bl.a8,I ah.aE,I ah.bX,eJ ah.aY,I ah.ay,qY ah.mj,qY ah.bt,qY ah.aW,eJ ah.cj,eJ ah.bG]),(6,.ptr b1 0),(7,.ptr b2 0),(8,I (aL ((ao.aV.length:Int) - (1:Int)))),(22,x6 ao.aV),(23,I (ao.aV.length:Int)),(24,I n14)],[(aR,.cells [nG sB,I n20,I n21,.sl 6 ES 0 ri.length]),(ES,gp ri),(b1,.cells [.str ao.bg,x6 ao.aV,I ao.aX]),(b2,.cells [I aD.aM,I aD.To])]⟩) ?_ ?_
    ·refine cB h J (fun h=>?_) (fun h=>?_)
     ·exact tR<|rM J J<|rM J J<|rM J J<|rM J J<|rF J J J<|rL J J .p4 J J<|aK h fun v24 e3 h=>pt J (rD e3) cR (.cons .p0 (.cons .p0 .nil)) (fun _=>J) J fun xv=>rN<|aa.stop<|aj.lq [0,0,0,0] ⟨xv,v24.lj,v24.w_.aM,v24.w_.To,v24.rf,h,J⟩ J J
     ·exact tK<|aa.stop<|aj.lq [0,0,0,0] ⟨CL,l9,n10,n11,rj,h,J⟩ J J
    ·rintro aH ⟨ES,sB,n20,n21,ri,h,rfl⟩
     unfold fH at h
     refine aa.cu<|tR<|ae.qv (bc J J) J<|rM J J<|rN<|aa.stop<|?_
     cases h
     exact k6 _ _ J<|aj.lq [0,0,0,0] ⟨ES,J⟩ J J
  ·refine aa.exit J<|have h:=bT h fh;?_
   unfold gX at h
   refine tS<|aS<|rF J J J<|rL J J .p2 J J<|ae.qv (cL J J) J<|rN<|cD h J (fun h=>?_) (fun h=>?_)
   ·refine aa.ret<|?_
    cases h
    exact aj.here ⟨_,.nil,_,.cons .p0 (.cons .p0 .nil),⟨CL,J,J⟩⟩
   ·refine tK<|tS<|aa.bS (id:=10) (A:=[0,1,0,4,0,28,60,124,255,511]) 10 mixed J (by kernel_rfl) (by kernel_rfl)<|AM.qv (az J J) J<|AM.qv (aF J J .p3 J) J<|AM.qv (az J J) J<|AM.qv (aF J J .p2 J) J<|AM.qv (ax J) J<|aK h fun v26 e4 h=>AM.qv (bN J J J e4 J J) J<|AM.qv (aO J J) J<|AM.qv (aJ J J J) J<|AM.qv (bc J J) J<|AM.qv (bZ J) J<|AM.nil<|rN<|tS<|aa.bS (id:=11) (A:=[0,1,0,4,12,28,60,127,255]) 9 mixed J (by kernel_rfl) (by kernel_rfl)<|AM.qv (az J J) J<|AM.qv (aF J J .p3 J) J<|AM.qv (ax J) J<|AM.qv (aC J) J<|AM.qv (az J J) J<|AM.qv (az J J) J<|AM.qv (aF J J .p0 J) J<|AM.qv (CT J J) J<|AM.qv (bZ J) J<|AM.nil<|rN<|tS<|aa.bS (id:=12) (A:=[0,1,3,7,15,0,63,0,128,511,1023,0,2048,8191,16383,32767]) 16 mixed J (by kernel_rfl) (by kernel_rfl)<|AM.qv (ax J) J<|AM.qv (aC J) J<|AM.qv (az J J) J<|AM.qv (az J J) J<|AM.qv (aF J J .p0 J) J<|AM.qv (ax J) J<|AM.qv (bK J J) J<|AM.qv (az J J) J<|AM.qv (aF J J .p2 J) J<|AM.qv (bc J J) J<|AM.qv (bK J J) J<|AM.qv (az J J) J<|AM.qv (aF J J .p2 J) J<|aK h fun n27 e5 h=>AM.qv (DY J J e5) J<|AM.qv (JC J J) J<|AM.qv (bZ J) J<|AM.nil<|rN<|aa.block<|aa.cw (fun x:(List aB)×Int×Int×(List ai)×Int=>dM ah ao aD n11 v26 x.1 x.2.1 x.2.2.1 x.2.2.2.1 x.2.2.2.2) (fun x aH=>∃ (Gq:Bk),aH=⟨136,[(0,.ptr aR 0),(1,.bR [.str ah.bl.aG,.str ah.bl.a8,I ah.aE,I ah.bX,eJ ah.aY,I ah.ay,qY ah.mj,qY ah.bt,qY ah.aW,eJ ah.cj,eJ ah.bG]),(6,.ptr b1 0),(8,I (aL ((ao.aV.length:Int) - (1:Int)))),(12,I (aL (aD.aM+v26.bn))),(13,I (min aD.To n11)),(14,I x.2.2.2.2)],[(aR,.cells [nG x.1,I x.2.1,I x.2.2.1,.sl 6 Gq 0 x.2.2.2.1.length]),(Gq,gp x.2.2.2.1),(b1,.cells [.str ao.bg,x6 ao.aV,I ao.aX])]⟩) h ?_ ?_
    ·exact aj.lq [0,0,0] ⟨CL,J⟩ J J
    ·intro x z2 aH J2 fe h yD vr
     obtain ⟨vU,n35,n36,xP,n39⟩:=x
     obtain ⟨Gq,rfl⟩:=fe
     replace h:dM ah ao aD n11 v26 vU n35 n36 xP n39=some z2:=h
     unfold dM at h
     refine tS<|tS<|aa.cut (fun aH=>∃ (RX:Bool),gV ah ao aD v26 vU n35 n36 xP n39 RX=some z2∧aH=⟨136,[(0,.ptr aR 0),(1,.bR [.str ah.bl.aG,.str ah.bl.a8,I ah.aE,I ah.bX,eJ ah.aY,I ah.ay,qY ah.mj,qY ah.bt,qY ah.aW,eJ ah.cj,eJ ah.bG]),(6,.ptr b1 0),(8,I (aL ((ao.aV.length:Int) - (1:Int)))),(12,I (aL (aD.aM+v26.bn))),(13,I (min aD.To n11)),(14,I n39),(100,.bool RX)],[(aR,.cells [nG vU,I n35,I n36,.sl 6 Gq 0 xP.length]),(Gq,gp xP),(b1,.cells [.str ao.bg,x6 ao.aV,I ao.aX])]⟩) ?_ ?_
     ·refine tR<|rM J J<|rM J J<|rF J J J<|rL J J .p2 J J<|ae.qv (sj J J) J<|ae.qv (bc J J) J<|rM J J<|ae.qv (bE J J) J<|rM J J<|ae.bH J J J (fun hc=>?_) (fun hc=>?_)
      ·rw [iD hc] at h
       exact rM J J<|rY J J J<|lr J (rH (J:ei (⟨vU,(⟨n35,n36⟩:ar),xP⟩:bC)=_)) (.cons (.Ir _ _ _ .p0 (.cons (.co (.refl _)) (.cons (.co (.refl _)) (.cons (.co (.refl _)) (.cons (pk.rP .p1) .nil))))) .nil) J J<|rY J J J<|ae.qv (eF J) J<|rT J J J<|rN<|aa.stop<|aj.lq [0,0,0] ⟨!(ei (⟨vU,(⟨n35,n36⟩:ar),xP⟩:bC)),h,J⟩ J J
      ·rw [iE hc] at h
       exact rG J J J J<|rG J J J J<|rE J J J<|rN<|aa.stop<|aj.lq [0,0,0] ⟨false,h,J⟩ J J
     ·rintro aH ⟨RX,h,rfl⟩
      unfold gV at h
      refine cB h J (fun h=>?_) (fun h=>?_)
      ·refine tK<|aa.cut (fun aH=>∃ (Ni:Bk) (M7:List aB) (n42:Int) (n43:Int) (EP:List ai) (n46:Int),fJ M7 n42 n43 EP n46=some z2∧aH=⟨136,[(0,.ptr aR 0),(1,.bR [.str ah.bl.aG,.str ah.bl.a8,I ah.aE,I ah.bX,eJ ah.aY,I ah.ay,qY ah.mj,qY ah.bt,qY ah.aW,eJ ah.cj,eJ ah.bG]),(6,.ptr b1 0),(8,I (aL ((ao.aV.length:Int) - (1:Int)))),(12,I (aL (aD.aM+v26.bn))),(13,I (min aD.To n11)),(14,I n46)],[(aR,.cells [nG M7,I n42,I n43,.sl 6 Ni 0 EP.length]),(Ni,gp EP),(b1,.cells [.str ao.bg,x6 ao.aV,I ao.aX])]⟩) ?_ ?_
       ·refine aa.block<|aS<|rM J J<|rM J J<|rF J J J<|rL J J .p2 J J<|ae.qv (sj J J) J<|ae.qv (bc J J) J<|rA J J<|rN<|tS<|aS<|rM J J<|rM J J<|aK h fun kW e6 h=>bB J (tv e6) cR J<|rA J J<|rN<|aS<|rM J J<|rM J J<|ae.qv (fW J J) J<|rN<|cD h J (fun h=>?_) (fun h=>?_)
        ·exact aS<|rM J J<|rM J J<|ae.qv (bK J J) J<|rF J J J<|rL J J .p2 J J<|ae.qv (bc J J) J<|ae.qv (bK J J) J<|rF J J J<|rL J J .p2 J J<|aK h fun n48 e7 h=>ae.qv (DY J J e7) J<|rA J J<|rN<|aa.exit J<|aa.stop<|aj.lq [0,0,0] ⟨Gq,vU,n35,n36,xP,n48,h,J⟩ J J
        ·exact tK<|aS<|rM J J<|rM J J<|rM J J<|rM J J<|rF J J J<|rL J J .p2 J J<|rM J J<|aK h fun v49 e8 h=>ae.qv (bN J J J e8 J J) J<|ae.qv (aO J J) J<|ae.qv (aJ J J J) J<|aK h fun v50 e9 h=>pt J (rD e9) cR (.cons .p0 (.cons .p0 .nil)) (fun _=>J) J fun Nh=>rN<|tR<|rM J J<|ae.qv (bc J J) J<|rA J J<|rN<|aa.cu<|aa.stop<|aj.lq [0,0,0] ⟨Nh,v50.lj,v50.w_.aM,v50.w_.To,v50.rf,aL (n39+(1:Int)),h,J⟩ J J
       ·rintro aH ⟨Ni,M7,n42,n43,EP,n46,h,rfl⟩
        unfold fJ at h
        refine aa.stop<|?_
        cases h
        exact yD _ _ J<|aj.lq [0,0,0] ⟨Ni,J⟩ J J
      ·refine aa.exit J<|have h:=bT h vr;aa.nil<|?_
       cases h
       exact aj.here ⟨_,.nil,_,.cons .p0 (.cons .p0 .nil),⟨Gq,J,J⟩⟩
theorem xT [GI:bM] {ab:ai} {ah:ai} {r:Int} (h:ju ab ah=some r):Pu Tryz.prog 59 [ai.av ab,ai.av ah] (I r):=by
 unfold ju at h
 refine aT.bJ Tryz.func59 J Tryz.ntmps59 Tryz.results59 J J ?_
 refine aS<|gn J J J J fun b1=>gn J J J J fun b2=>rA J J<|rN<|tS<|aa.bS (id:=1) (A:=[0,1,0,4,15,0,32,0,128,511,0,1024,0,4096,16383,32767,65535,131071]) 18 mixed J (by kernel_rfl) (by kernel_rfl)<|AM.qv (az J J) J<|AM.qv (aF J J .p1 J) J<|AM.qv (az J J) J<|AM.qv (aF J J .p0 J) J<|AM.fL J (fD J) cR J<|AM.qv (az J J) J<|AM.qv (aF J J .p1 J) J<|AM.qv (az J J) J<|AM.qv (aF J J .p0 J) J<|AM.fL J (cr J) cR J<|AM.qv (az J J) J<|AM.qv (aF J J .p1 J) J<|AM.qv (az J J) J<|AM.qv (aF J J .p0 J) J<|AM.fL J (cr J) cR J<|AM.bL (xs:=([(cmp_Compare_int ab.At ah.At),(Lib.compareBytes ab.Device ah.Device),(Lib.compareBytes ab.bg ah.bg)]:List Int).map I) J J J J J J<|aK h fun v3 e1 h=>AM.fL J (kS e1) cR J<|AM.qv (bZ J) J<|AM.nil<|rN<|aa.ret<|?_
 cases h
 exact hP J J
theorem p9:N6 Tryz.prog 58 6:=⟨fun enc hk h1 cf hO g cb cu off cap d w eg hc hH hb hs=>AnyQ.slices_SortFunc_eq Tryz.HI 6 Tryz.isAgg61 Tryz.sizeOf61 enc hk h1 cf hO g cb cu off cap d w eg hc hH hb hs,fun p cap fv w=>AnyF.slices_SortFunc_none Tryz.HI p cap fv w⟩
theorem qa [GI:bM] {aR:Bk} {ab:List ai} {gZ:ai→ai→Option Int} {gG:FuncId} [bF Tryz.prog gG] {jP:List AV} (qS:∀ {y0 y1:_} {u:Int},gZ y0 y1=some u→@Pu nP Tryz.prog gG (ai.av y0 :: ai.av y1 :: jP) (I u)) {r:(List ai)} (h:iH ab gZ=some r):aT Tryz.prog 58 [.sl 6 aR 0 ab.length,.func (.func gG) jP] [(aR,.arr 6 (ab.map ai.av))] (T0 [(aR,.arr 6 (r.map ai.av))] (.oL [])):=
 GJ (fn:=gZ) p9 J @qS (fun _=>J) h
theorem AH [GI:bM] {ab:List Signal} {ah:List aA} {ao:List aB} {aD:ar} {r:(List ai)×Int} (h:kX ab ah ao aD=some r):aT Tryz.prog 25 [lV ab,tN ah,nG ao,ar.av aD] [] (T1 (fun sG=>[(sG,gp r.1)]) (fun sG=>.oL [.sl 6 sG 0 r.1.length,I r.2])):=by
 unfold kX at h
 refine aT.fM ?_
 refine aT.bJ Tryz.func25 J Tryz.ntmps25 Tryz.results25 J J ?_
 refine aS<|gn J J J J fun b1=>rA J J<|rA J J<|rN<|tS<|aS<|rM J J<|aK h fun v2 e1 h=>bB J (qU e1) cR J<|rM J J<|aK h fun v3 e2 h=>bB J (qT e2) cR J<|rM J J<|aK h fun v4 e3 h=>bB J (ox e3) cR J<|bj (xs:=([v2,v3,v4]:List Int).map I) J J J J J J<|aK h fun v5 e4 h=>bB J (Ee e4) cR J<|rA J J<|rN<|aS<|rM J J<|ae.qv (jU J J) J<|rN<|cD h J (fun h=>?_) (fun h=>?_)
 ·refine aS<|rM J J<|rA J J<|rA J J<|rN<|aa.ret<|?_
  cases h
  exact aj.arr (s:=8) 6 J fun b6=>aj.here ⟨_,.cons (.tmp _ _ J) (.cons (.tmp _ _ J) .nil),_,.cons .p0 .nil,⟨b6,J,J⟩⟩
 ·refine tK<|tS<|aS<|ae.qv (bq J J .p0 J) J<|bB J (xw J) cR J<|ae.qv (eF J) J<|rN<|cB h J (fun h=>?_) (fun h=>?_)
  ·refine aS<|rA J J<|rA J J<|rN<|aa.ret<|?_
   cases h
   exact aj.arr (s:=8) 6 J fun b7=>aj.here ⟨_,.cons (.tmp _ _ J) (.cons (.tmp _ _ J) .nil),_,.cons .p0 .nil,⟨b7,J,J⟩⟩
  ·refine tK<|aS<|rM J J<|ae.qv (bq J J .p0 J) J<|ae.qv (cJ J J J J J) J<|gn J J J J fun b8=>rA J J<|rN<|tS<|aS<|rM J J<|aK h fun v9 e5 h=>rS J (BZ e5) cR .nil (fun _ _ _ _ _ _=>J) J fun mF vu CL Ct adW adX=>ae.qv (aC J) J<|rF J J J<|rL J J .p0 J J<|aK h fun nX e6 h=>ae.ghost<|aj.Kz (s:=39) J (.cons .p2 (.cons .p2 .nil)) (pk.Pd VA e6 (.inl .p0) .p1)<|aj.here<|ae.qv (cY J) J<|rM J J<|rN<|aa.block<|aa.cw (fun x:(List aB)×Int×Int×(List ai)×Int=>eV ah nX x.1 x.2.1 x.2.2.1 x.2.2.2.1 x.2.2.2.2) (fun x aH=>∃ (IY:Bk),aH=⟨80,[(1,tN ah),(11,.ptr b8 0),(39,VB nX),(40,I (nX.length:Int)),(41,I x.2.2.2.2)],[(b8,.cells [nG x.1,I x.2.1,I x.2.2.1,.sl 6 IY 0 x.2.2.2.1.length]),(IY,gp x.2.2.2.1)]⟩) h ?_ ?_
   ·exact aj.sv (j:=3) 6 (fun _=>.p2) J (fun _=>J) (fun _=>J) fun Yg=>aj.lq [3,0] ⟨Yg,J⟩ J J
   ·intro x z1 aH J1 fe h k6 fh
    obtain ⟨ri,n24,n25,FJ,n28⟩:=x
    obtain ⟨IY,rfl⟩:=fe
    replace h:eV ah nX ri n24 n25 FJ n28=some z1:=h
    unfold eV at h
    refine aS<|ae.qv (bE J J) J<|rN<|tS<|cD h J (fun h=>?_) (fun h=>?_)
    ·refine tK<|tS<|aa.cut (fun aH=>∃ (Qx:Bk) (RY:List aB) (n31:Int) (n32:Int) (vU:List ai),iq n28 RY n31 n32 vU=some z1∧aH=⟨80,[(1,tN ah),(11,.ptr b8 0),(39,VB nX),(40,I (nX.length:Int)),(41,I n28)],[(b8,.cells [nG RY,I n31,I n32,.sl 6 Qx 0 vU.length]),(Qx,gp vU)]⟩) ?_ ?_
     ·refine aa.block<|aS<|aK h fun v35 e7 h=>ae.qv (bN J J J e7 J J) J<|ae.qv (aJ J J J) J<|ct J J J J fun qZ=>aQ J J J J .p0 J J<|rN<|aS<|rM J J<|ae.qv (sk J) J<|aK h fun v37 e8 h=>lr J (kT (fun e=>xS (Option.some.inj e)) e8) (.cons (.co (.refl _)) (.cons (.Ho _ _ _ (.cons (.Ir _ _ _ .p0 (.cons (.co (.refl _)) .nil)) .nil)) .nil)) J J<|rA J J<|rN<|tS<|aS<|rM J J<|ae.qv (bE J J) J<|rN<|cD h J (fun h=>?_) (fun h=>?_)
      ·exact aa.exit J<|aa.stop<|aj.lq [1,1] ⟨IY,ri,n24,n25,FJ,h,J⟩ J J
      ·refine tK<|aS<|rL J J .p0 J J<|ae.qv (bb J) J<|ae.qv (aO J J) J<|ae.qv (aJ J J J) J<|ae.qv (cY J) J<|rM J J<|rN<|aa.block<|aa.cw (fun x:(List aB)×Int×Int×(List ai)×Int=>gh ah n28 v35 v37 x.1 x.2.1 x.2.2.1 x.2.2.2.1 x.2.2.2.2) (fun x aH=>∃ (Qz:Bk),aH=⟨80,[(1,tN ah),(11,.ptr b8 0),(13,.ptr qZ 0),(14,I v37),(39,VB nX),(40,I (nX.length:Int)),(41,I n28),(53,qY v35.bt),(54,I (v35.bt.length:Int)),(55,I x.2.2.2.2)],[(b8,.cells [nG x.1,I x.2.1,I x.2.2.1,.sl 6 Qz 0 x.2.2.2.1.length]),(Qz,gp x.2.2.2.1),(qZ,.cells [.bR [.str v35.bl.aG,.str v35.bl.a8,I v35.aE,I v35.bX,eJ v35.aY,I v35.ay,qY v35.mj,qY v35.bt,qY v35.aW,eJ v35.cj,eJ v35.bG]])]⟩) h ?_ ?_
       ·exact aj.lq [1,1,0] ⟨IY,J⟩ J J
       ·intro x z2 aH J2 fe h yD vr
        obtain ⟨AB,n45,n46,Pl,n49⟩:=x
        obtain ⟨Qz,rfl⟩:=fe
        replace h:gh ah n28 v35 v37 AB n45 n46 Pl n49=some z2:=h
        unfold gh at h
        refine aS<|ae.qv (bE J J) J<|rN<|tS<|cD h J (fun h=>?_) (fun h=>?_)
        ·refine tK<|tS<|aa.block<|aS<|aK h fun v50 e9 h=>ae.qv (bN J J J e9 J J) J<|ae.qv (bf J J J) J<|ct J J J J fun Nh=>aQ J J J J .p0 J J<|rN<|tS<|aa.bS (id:=15) (A:=[0,0,0,0,12,28,0,127]) 7 mixed J (by kernel_rfl) (by kernel_rfl)<|AM.qv (ax J) J<|AM.qv (aF J J .p3 J) J<|AM.qv (ax J) J<|AM.qv (ax J) J<|aK h fun CG xd h=>AM.qv (bN J J J xd J J) J<|AM.qv (bf J J J) J<|AM.qv (bq J J .p0 J) J<|AM.nil<|aK h fun v53 Cs h=>pt J (wk Cs) cR (.cons .p1 (.cons .p1 .nil)) (fun _=>J) J fun VR=>rN<|aS<|rM J J<|lr J (rH J) (.cons (.Ir _ _ _ .p0 (.cons (.co (.refl _)) (.cons (.co (.refl _)) (.cons (.co (.refl _)) (.cons (pk.rP .p1) .nil))))) .nil) J J<|rN<|cB h J (fun h=>?_) (fun h=>?_)
         ·refine aS<|rA J J<|rA J J<|rN<|aa.ret<|have h:=bT h vr;have h:=bT h fh;?_
          cases h
          exact aj.arr (s:=8) 6 J fun b55=>aj.here ⟨_,.cons (.tmp _ _ J) (.cons (.tmp _ _ J) .nil),_,.cons .p0 .nil,⟨b55,J,J⟩⟩
         ·refine tK<|aa.cu<|tR<|ae.qv (bc J J) J<|rM J J<|rN<|aa.stop<|?_
          cases h
          exact yD _ _ J<|aj.lq [0,0,1] ⟨VR,J⟩ J J
        ·exact aa.exit J<|have h:=bT h vr;aa.cu<|aa.stop<|aj.lq [0,0] ⟨Qz,AB,n45,n46,Pl,h,J⟩ J J
     ·rintro aH ⟨Qx,RY,n31,n32,vU,h,rfl⟩
      unfold iq at h
      refine tR<|ae.qv (bc J J) J<|rM J J<|rN<|aa.stop<|?_
      cases h
      exact k6 _ _ J<|aj.lq [0,0] ⟨Qx,J⟩ J J
    ·refine aa.exit J<|have h:=bT h fh;?_
     unfold jw at h
     refine aS<|rM J J<|ae.qv (aC J) J<|rF J J J<|rL J J .p0 J J<|aK h fun tI zj h=>bh J (qa (fun e=>xT (GI:=nP) e) (fU zj)) cR (.cons .p1 .nil) J J<|ae.ghost<|aj.eqs (s:=74) (cy:=.sl 6 IY 0 tI.length) J (congrArg (AV.sl 6 IY 0) (bP zj))<|aj.here<|ae.ghost<|aj.Fg (j:=3) (cy:=.sl 6 IY 0 tI.length) .p1 J (congrArg (AV.sl 6 IY 0) (bP zj)) J<|aj.here<|rN<|aS<|rM J J<|ae.qv (aC J) J<|rF J J J<|rL J J .p1 J J<|rA J J<|rA J J<|rN<|aa.ret<|?_
     cases h
     exact hI J J [0] J ⟨IY,J,J⟩
theorem zH {ab:List Signal} {r:Int} (h:lG ab=some r):Pu Tryz.prog 26 [lV ab] (I r):=by
 unfold lG at h
 refine aT.bJ Tryz.func26 J Tryz.ntmps26 Tryz.results26 J J ?_
 refine aS<|rA J J<|rN<|tS<|aS<|rM J J<|ae.qv (cY J) J<|ae.qv (fW J J) J<|rN<|cD h J (fun h=>?_) (fun h=>?_)
 ·refine aS<|rA J J<|rN<|aa.ret<|?_
  cases h
  exact hP J J
 ·refine tK<|tS<|aS<|rM J J<|ae.qv (cY J) J<|rM J J<|rN<|aa.block<|aa.cw (fun x:Int=>fB ab x) (fun x aH=>aH=⟨97,[(0,lV ab),(10,lV ab),(11,I (ab.length:Int)),(12,I x)],[]⟩) h ?_ ?_
  ·exact aj.lq [] J J J
  ·intro n2 z1 aH J1 fe h k6 fh
   obtain rfl:=fe
   replace h:fB ab n2=some z1:=h
   unfold fB at h
   refine aS<|ae.qv (bE J J) J<|rN<|tS<|cD h J (fun h=>?_) (fun h=>?_)
   ·refine tK<|tS<|aa.block<|aS<|rM J J<|aK h fun v3 e1 h=>ae.qv (bN J J J e1 J J) J<|ae.qv (bf J J J) J<|ct J J J J fun b4=>rA J J<|aQ J J J J .p0 J J<|rN<|tS<|aa.bS (id:=6) (A:=[0,1,3,0,8,24,7,127]) 8 mixed J (by kernel_rfl) (by kernel_rfl)<|AM.qv (az J J) J<|AM.qv (aF J J .p0 J) J<|AM.qv (tb J J) J<|AM.qv (az J J) J<|AM.qv (aF J J .p0 J) J<|AM.qv (cL J J) J<|AM.qv (bZ J) J<|AM.qv (bZ J) J<|AM.nil<|rN<|aa.block<|aS<|rF J J J<|rL J J .p0 J J<|bB J (u9 J) cR J<|ae.qv (jU J J) J<|rA J J<|rN<|cD h J (fun h=>?_) (fun h=>?_)
    ·refine aS<|rA J J<|rN<|aa.ret<|have h:=bT h fh;?_
     cases h
     exact hP J J
    ·refine tS<|aa.cut (fun aH=>∃ (c5:Bool),iY ab n2 v3 c5=some z1∧aH=⟨97,[(0,lV ab),(3,I n2),(4,.ptr b4 0),(5,.bool (decide ((3:Int)≤v3.Kind))),(6,.bool (decide (v3.Kind=(4:Int)))),(10,lV ab),(11,I (ab.length:Int)),(12,I n2),(28,.bool c5)],[(b4,.cells (vn v3))]⟩) ?_ ?_
     ·refine tR<|rF J J J<|rL J J .p0 J J<|aK h fun v6 e2 h=>bB J (tt e2) cR J<|ae.qv (eF J) J<|rM J J<|ae.guard J J J (fun hc=>?_) (fun hc=>?_)
      ·exact have h:=ye hc h;rF J J J<|rY J J J<|rL J J .p0 J J<|rY J J J<|aK h fun v7 e3 h=>bB J (tt e3) cR J<|rY J J J<|ae.qv (eF J) J<|rE J J J<|rA J J<|rN<|aa.stop<|aj.lq [0] ⟨!v7,h,J⟩ J J
      ·exact have h:=sW hc h;rG J J J J<|rG J J J J<|rG J J J J<|rT J J J<|rA J J<|rN<|aa.stop<|aj.lq [0] ⟨true,h,J⟩ J J
     ·rintro aH ⟨c5,h,rfl⟩
      unfold iY at h
      refine cB h J (fun h=>?_) (fun h=>?_)
      ·refine aS<|rA J J<|rN<|aa.ret<|have h:=bT h fh;?_
       cases h
       exact hP J J
      ·refine aS<|rF J J J<|rL J J .p0 J J<|bB J (wa J) cR J<|ae.qv (eF J) J<|rA J J<|rN<|cB h J (fun h=>?_) (fun h=>?_)
       ·refine aS<|rA J J<|rN<|aa.ret<|have h:=bT h fh;?_
        cases h
        exact hP J J
       ·refine tS<|aa.cut (fun aH=>∃ (c8:Bool),iX ab n2 v3 c8=some z1∧aH=⟨97,[(0,lV ab),(3,I n2),(4,.ptr b4 0),(5,.bool (decide ((3:Int)≤v3.Kind))),(6,.bool (decide (v3.Kind=(4:Int)))),(10,lV ab),(11,I (ab.length:Int)),(12,I n2),(44,.bool c8)],[(b4,.cells (vn v3))]⟩) ?_ ?_
        ·refine tR<|rM J J<|rM J J<|gT h J J J (fun h=>?_) (fun h=>?_)
         ·exact rF J J J<|rY J J J<|rL J J .p0 J J<|rY J J J<|aK h fun v9 e4 h=>bB J (tt e4) cR J<|rY J J J<|ae.qv (eF J) J<|rT J J J<|rA J J<|rN<|aa.stop<|aj.lq [0] ⟨!v9,h,J⟩ J J
         ·exact rG J J J J<|rG J J J J<|rG J J J J<|rE J J J<|rA J J<|rN<|aa.stop<|aj.lq [0] ⟨false,h,J⟩ J J
        ·rintro aH ⟨c8,h,rfl⟩
         unfold iX at h
         refine cB h J (fun h=>?_) (fun h=>?_)
         ·refine aS<|rA J J<|rN<|aa.ret<|have h:=bT h fh;?_
          cases h
          exact hP J J
         ·refine tS<|aa.cut (fun aH=>∃ (R0:Bool),mY ab n2 v3 R0=some z1∧aH=⟨97,[(0,lV ab),(3,I n2),(4,.ptr b4 0),(6,.bool (decide (v3.Kind=(4:Int)))),(10,lV ab),(11,I (ab.length:Int)),(12,I n2),(52,.bool R0)],[(b4,.cells (vn v3))]⟩) ?_ ?_
          ·refine tR<|rM J J<|ae.qv (lY J) J<|rM J J<|ae.bH J J J (fun hc=>?_) (fun hc=>?_)
           ·rw [iD hc] at h
            exact rF J J J<|rY J J J<|rL J J .p0 J J<|rY J J J<|ae.qv (A8 J J) J<|rT J J J<|rA J J<|rN<|aa.stop<|aj.lq [0] ⟨decide (v3.By≠([]:bO)),h,J⟩ J J
           ·rw [iE hc] at h
            exact rG J J J J<|rG J J J J<|rE J J J<|rA J J<|rN<|aa.stop<|aj.lq [0] ⟨false,h,J⟩ J J
          ·rintro aH ⟨R0,h,rfl⟩
           unfold mY at h
           refine cB h J (fun h=>?_) (fun h=>?_)
           ·refine aS<|rA J J<|rN<|aa.ret<|have h:=bT h fh;?_
            cases h
            exact hP J J
           ·refine tS<|aa.cut (fun aH=>∃ (RZ:Bool),mX ab n2 v3 RZ=some z1∧aH=⟨97,[(0,lV ab),(3,I n2),(4,.ptr b4 0),(6,.bool (decide (v3.Kind=(4:Int)))),(10,lV ab),(11,I (ab.length:Int)),(12,I n2),(60,.bool RZ)],[(b4,.cells (vn v3))]⟩) ?_ ?_
            ·refine tR<|rM J J<|rM J J<|ae.bH J J J (fun hc=>?_) (fun hc=>?_)
             ·rw [iD hc] at h
              exact rF J J J<|rY J J J<|rL J J .p0 J J<|rY J J J<|rF J J J<|rY J J J<|rL J J .p0 J J<|rY J J J<|ae.qv (bc J J) J<|rY J J J<|rF J J J<|rY J J J<|rL J J .p0 J J<|rY J J J<|ae.qv (bc J J) J<|rY J J J<|ae.qv (CT J J) J<|rY J J J<|bB J (wa J) cR J<|rY J J J<|ae.qv (eF J) J<|rT J J J<|rA J J<|rN<|aa.stop<|aj.lq [0] ⟨!(xc v3.bu (aL (v3.At+(1:Int))) (min (aL (v3.At+(2592000000:Int))) (345686400000:Int))),h,J⟩ J J
             ·rw [iE hc] at h
              exact rG J J J J<|rG J J J J<|rG J J J J<|rG J J J J<|rG J J J J<|rG J J J J<|rG J J J J<|rG J J J J<|rG J J J J<|rG J J J J<|rE J J J<|rA J J<|rN<|aa.stop<|aj.lq [0] ⟨false,h,J⟩ J J
            ·rintro aH ⟨RZ,h,rfl⟩
             unfold mX at h
             refine cB h J (fun h=>?_) (fun h=>?_)
             ·refine aS<|rA J J<|rN<|aa.ret<|have h:=bT h fh;?_
              cases h
              exact hP J J
             ·refine tS<|aa.cut (fun aH=>∃ (vV:Bool),mW ab n2 v3 vV=some z1∧aH=⟨97,[(0,lV ab),(3,I n2),(4,.ptr b4 0),(10,lV ab),(11,I (ab.length:Int)),(12,I n2),(75,.bool vV)],[(b4,.cells (vn v3))]⟩) ?_ ?_
              ·refine tR<|rM J J<|ae.qv (lY J) J<|rM J J<|ae.bH J J J (fun hc=>?_) (fun hc=>?_)
               ·rw [iD hc] at h
                exact rF J J J<|rY J J J<|rL J J .p0 J J<|rY J J J<|ae.qv (jU J J) J<|rT J J J<|rA J J<|rN<|aa.stop<|aj.lq [0] ⟨decide (v3.bu≠(0:Int)),h,J⟩ J J
               ·rw [iE hc] at h
                exact rG J J J J<|rG J J J J<|rE J J J<|rA J J<|rN<|aa.stop<|aj.lq [0] ⟨false,h,J⟩ J J
              ·rintro aH ⟨vV,h,rfl⟩
               unfold mW at h
               refine cB h J (fun h=>?_) (fun h=>?_)
               ·refine aS<|rA J J<|rN<|aa.ret<|have h:=bT h fh;?_
                cases h
                exact hP J J
               ·refine tS<|aa.cut (fun aH=>∃ (KG:Bool),kQ n2 KG=some z1∧aH=⟨97,[(0,lV ab),(10,lV ab),(11,I (ab.length:Int)),(12,I n2),(83,.bool KG)],[]⟩) ?_ ?_
                ·refine aa.bS (id:=21) (A:=[0,1,3,7,7,23,63,127,7,511,1023,2047,4095]) 13 mixed J (by kernel_rfl) (by kernel_rfl)<|AM.qv (ax J) J<|AM.qv (fW J J) J<|AM.qv (ax J) J<|AM.bH J J J (fun hc=>?_) (fun hc=>?_)
                 ·exact have h:=sW hc h;AM.qv (ax J) J<|AM.aI J J J<|AM.qv (ax J) J<|AM.aI J J J<|AM.qv (bK J J) J<|AM.aI J J J<|aK h fun gR e5 h=>AM.qv (bN J J J e5 J J) J<|AM.aI J J J<|AM.qv (bf J J J) J<|AM.aI J J J<|AM.qv (bq J J .p0 J) J<|AM.aI J J J<|aK h fun ll e6 h=>AM.fL J (rk e6) cR J<|AM.aI J J J<|AM.qv (tb J J) J<|AM.qv (kj J J) J<|AM.qv (bZ J) J<|AM.nil<|rN<|aa.stop<|aj.lq [] ⟨decide ((0:Int)≤ll),h,J⟩ J J
                 ·exact have h:=zq hc h;AM.aN J J J J<|AM.aN J J J J<|AM.aN J J J J<|AM.aN J J J J<|AM.aN J J J J<|AM.aN J J J J<|AM.aN J J J J<|AM.qv (jz J J) J<|AM.qv (bZ J) J<|AM.nil<|rN<|aa.stop<|aj.lq [] ⟨false,h,J⟩ J J
                ·rintro aH ⟨KG,h,rfl⟩
                 unfold kQ at h
                 refine cB h J (fun h=>?_) (fun h=>?_)
                 ·refine aS<|rA J J<|rN<|aa.ret<|have h:=bT h fh;?_
                  cases h
                  exact hP J J
                 ·refine tK<|aa.cu<|aa.cu<|tR<|ae.qv (bc J J) J<|rM J J<|rN<|aa.stop<|?_
                  cases h
                  exact k6 _ _ J<|aj.lq [] J J J
   ·refine aa.exit J<|have h:=bT h fh;aS<|rA J J<|rN<|aa.ret<|?_
    cases h
    exact hP J J
theorem AI [GI:bM] {ab:an} {ah:Signal} {r:Bool} (h:jq ab ah=r):Pu Tryz.prog 82 [.bR [.str ab.aG,.str ab.a8,lV ab.bw,I ab.aE,I ab.ay.aM,I ab.ay.To],.bR [I ah.At,I ah.Kind,.str ah.Device,.str ah.bg,.str ah.By,I ah.bu]] (.bool r):=by
 unfold jq at h
 refine aT.bJ Tryz.func82 J Tryz.ntmps82 Tryz.results82 J J ?_
 refine aS<|rA J J<|rN<|tS<|aa.cut (fun aH=>∃ (c1:Bool),oe c1=r∧aH=⟨20,[(3,.bool c1)],[]⟩) ?_ ?_
 ·refine aa.bS (id:=1) (A:=[0,1,3,7,0,16,63,127,255,511,1023,2047,255,4351,16383,32767,65535]) 17 mixed J (by kernel_rfl) (by kernel_rfl)<|AM.qv (ax J) J<|AM.qv (bb J) J<|AM.qv (aO J J) J<|AM.qv (aJ J J J) J<|AM.qv (aO J J) J<|AM.qv (aJ J J J) J<|AM.qv (uX J J) J<|AM.qv (ax J) J<|AM.bH J J J (fun hc=>?_) (fun hc=>?_)
  ·rw [iD hc] at h
   exact AM.qv (ax J) J<|AM.aI J J J<|AM.qv (bb J) J<|AM.aI J J J<|AM.qv (aO J J) J<|AM.aI J J J<|AM.qv (aJ J J J) J<|AM.aI J J J<|AM.qv (aO J J) J<|AM.aI J J J<|AM.qv (aJ J J J) J<|AM.aI J J J<|AM.qv (uX J J) J<|AM.qv (kj J J) J<|AM.qv (bZ J) J<|AM.nil<|rN<|aa.stop<|aj.lq [] ⟨decide (ab.a8=ah.bg),h,J⟩ J J
  ·rw [iE hc] at h
   exact AM.aN J J J J<|AM.aN J J J J<|AM.aN J J J J<|AM.aN J J J J<|AM.aN J J J J<|AM.aN J J J J<|AM.qv (jz J J) J<|AM.qv (bZ J) J<|AM.nil<|rN<|aa.stop<|aj.lq [] ⟨false,h,J⟩ J J
 ·rintro aH ⟨c1,h,rfl⟩
  unfold oe at h
  refine aa.ret<|?_
  obtain rfl:=h
  exact hP J J
theorem oJ [GI:bM] {ab:List an} {gZ:an→Option Bool} {gG:FuncId} [bF Tryz.prog gG] {jP:List AV} (qS:∀ {y0:_} {u:Bool},gZ y0=some u→Pu Tryz.prog gG (.bR [.str y0.aG,.str y0.a8,lV y0.bw,I y0.aE,I y0.ay.aM,I y0.ay.To] :: jP) (.bool u)) {r:Int} (h:dC ab gZ=some r):Pu Tryz.prog 81 [Js ab,.func (.func gG) jP] (I r):=by
 unfold dC at h
 refine aT.bJ Tryz.func81 J Tryz.ntmps81 Tryz.results81 J J ?_
 refine aS<|rA J J<|rN<|tS<|aS<|rM J J<|ae.qv (cY J) J<|rM J J<|rN<|aa.block<|aa.cw (fun x:Int=>de ab gZ x) (fun x aH=>aH=⟨19,[(0,Js ab),(1,.func (.func gG) jP),(7,I (ab.length:Int)),(8,I x)],[]⟩) h ?_ ?_
 ·exact aj.lq [] J J J
 ·intro n2 z1 aH J1 fe h k6 fh
  obtain rfl:=fe
  replace h:de ab gZ n2=some z1:=h
  unfold de at h
  refine aS<|ae.qv (bE J J) J<|rN<|tS<|cD h J (fun h=>?_) (fun h=>?_)
  ·refine tK<|tS<|aa.block<|aS<|rM J J<|rA J J<|rN<|aS<|rM J J<|rM J J<|rM J J<|aK h fun v3 e1 h=>ae.qv (bN J J J e1 J J) J<|ae.qv (aJ J J J) J<|aK h fun v4 e2 h=>yd J J (qS e2) cR J<|rN<|cB h J (fun h=>?_) (fun h=>?_)
   ·refine aS<|rM J J<|rA J J<|rN<|aa.ret<|have h:=bT h fh;?_
    cases h
    exact hP J J
   ·refine tK<|aa.cu<|tR<|ae.qv (bc J J) J<|rM J J<|rN<|aa.stop<|?_
    cases h
    exact k6 _ _ J<|aj.lq [] J J J
  ·refine aa.exit J<|have h:=bT h fh;aS<|rA J J<|rN<|aa.ret<|?_
   cases h
   exact hP J J
theorem B1 [GI:bM] {aR:Bk} {lg:Bk} {ab:an} {ah:Signal} {r:Int×an} (h:pO ab ah=some r):aT Tryz.prog 83 [.ptr aR 0,Signal.av ah] [(aR,.cells [.str ab.aG,.str ab.a8,.sl 6 lg 0 ab.bw.length,I ab.aE,I ab.ay.aM,I ab.ay.To]),(lg,gi ab.bw)] (T1 (fun KS=>[(aR,.cells [.str r.2.aG,.str r.2.a8,.sl 6 KS 0 r.2.bw.length,I r.2.aE,I r.2.ay.aM,I r.2.ay.To]),(KS,gi r.2.bw)]) (fun KS=>I r.1)):=by
 unfold pO at h
 refine aT.fM ?_
 refine aT.bJ Tryz.func83 J Tryz.ntmps83 Tryz.results83 J J ?_
 refine aS<|gn J J J J fun b1=>rA J J<|rN<|tS<|aa.cut (fun aH=>∃ (c2:Bool),oS ab ah c2=some r∧aH=⟨110,[(0,.ptr aR 0),(3,.ptr b1 0),(5,.bool c2)],[(aR,.cells [.str ab.aG,.str ab.a8,.sl 6 lg 0 ab.bw.length,I ab.aE,I ab.ay.aM,I ab.ay.To]),(lg,gi ab.bw),(b1,.cells (vn ah))]⟩) ?_ ?_
 ·refine tR<|rM J J<|ae.qv (aC J) J<|rF J J J<|rL J J .p1 J J<|ae.qv (cL J J) J<|rM J J<|ae.ff J J J (fun hc=>?_) (fun hc=>?_)
  ·rw [yh hc] at h
   exact rM J J<|rY J J J<|ae.qv (aC J) J<|rY J J J<|rF J J J<|rY J J J<|rL J J .p1 J J<|rY J J J<|ae.qv (cL J J) J<|rE J J J<|rA J J<|rN<|aa.stop<|aj.lq [1,1,0] ⟨decide (ab.aE=(2:Int)),h,J⟩ J J
  ·rw [yg hc] at h
   exact rG J J J J<|rG J J J J<|rG J J J J<|rG J J J J<|rT J J J<|rA J J<|rN<|aa.stop<|aj.lq [1,1,0] ⟨true,h,J⟩ J J
 ·rintro aH ⟨c2,h,rfl⟩
  unfold oS at h
  refine tS<|aa.cut (fun aH=>∃ (c3:Bool),oR ab ah c2 c3=some r∧aH=⟨110,[(0,.ptr aR 0),(3,.ptr b1 0),(5,.bool c2),(6,.bool c3)],[(aR,.cells [.str ab.aG,.str ab.a8,.sl 6 lg 0 ab.bw.length,I ab.aE,I ab.ay.aM,I ab.ay.To]),(lg,gi ab.bw),(b1,.cells (vn ah))]⟩) ?_ ?_
  ·refine aa.bS (id:=2) (A:=[0,1,3,7,15,0,32,127,255,511,1023,511,2559,6655,14847,31231,65535,131071,262143]) 19 mixed J (by kernel_rfl) (by kernel_rfl)<|AM.qv (ax J) J<|AM.qv (aC J) J<|AM.qv (az J J) J<|AM.qv (az J J) J<|AM.qv (aF J J .p0 J) J<|AM.qv (az J J) J<|AM.qv (aF J J .p2 J) J<|AM.qv (ot J J) J<|AM.qv (ax J) J<|AM.bH J J J (fun hc=>?_) (fun hc=>?_)
   ·rw [iD hc] at h
    exact AM.qv (az J J) J<|AM.aI J J J<|AM.qv (aF J J .p2 J) J<|AM.aI J J J<|AM.qv (ax J) J<|AM.aI J J J<|AM.qv (aC J) J<|AM.aI J J J<|AM.qv (az J J) J<|AM.aI J J J<|AM.qv (az J J) J<|AM.aI J J J<|AM.qv (aF J J .p0 J) J<|AM.aI J J J<|AM.qv (bE J J) J<|AM.qv (kj J J) J<|AM.qv (bZ J) J<|AM.nil<|rN<|aa.stop<|aj.lq [0,0,0] ⟨decide (ah.At < ab.ay.To),h,J⟩ J J
   ·rw [iE hc] at h
    exact AM.aN J J J J<|AM.aN J J J J<|AM.aN J J J J<|AM.aN J J J J<|AM.aN J J J J<|AM.aN J J J J<|AM.aN J J J J<|AM.qv (jz J J) J<|AM.qv (bZ J) J<|AM.nil<|rN<|aa.stop<|aj.lq [0,0,0] ⟨false,h,J⟩ J J
  ·rintro aH ⟨c3,h,rfl⟩
   unfold oR at h
   refine tS<|aS<|rF J J J<|rL J J .p2 J J<|rN<|aa.block<|aS<|ae.qv (cL J J) J<|rA J J<|rN<|aa.cut (fun aH=>∃ (n4:Int) (n5:Int) (n6:Int),kc ab ah n4 n5 n6=some r∧aH=⟨110,[(0,.ptr aR 0),(3,.ptr b1 0)],[(aR,.cells [.str ab.aG,.str ab.a8,.sl 6 lg 0 ab.bw.length,I n4,I n5,I n6]),(lg,gi ab.bw),(b1,.cells (vn ah))]⟩) ?_ ?_
   ·refine cD h J (fun h=>?_) (fun h=>?_)
    ·refine tS<|aS<|rM J J<|rN<|cB h J (fun h=>?_) (fun h=>?_)
     ·refine aS<|rA J J<|rN<|aa.ret<|?_
      cases h
      exact hH J [0,0] J ⟨lg,J,J⟩
     ·exact tK<|tR<|rM J J<|ae.qv (aC J) J<|rF J J J<|aQ J J J J .p0 J J<|rN<|aa.stop<|aj.lq [0,0,0] ⟨(1:Int),ab.ay.aM,ab.ay.To,h,J⟩ J J
    ·refine aS<|ae.qv (cL J J) J<|rA J J<|rN<|aa.cut (fun aH=>∃ (n7:Int) (n8:Int) (n9:Int),gO ab ah n7 n8 n9=some r∧aH=⟨110,[(0,.ptr aR 0),(3,.ptr b1 0)],[(aR,.cells [.str ab.aG,.str ab.a8,.sl 6 lg 0 ab.bw.length,I n7,I n8,I n9]),(lg,gi ab.bw),(b1,.cells (vn ah))]⟩) ?_ ?_
     ·refine cD h J (fun h=>?_) (fun h=>?_)
      ·refine tS<|aS<|rM J J<|ae.qv (eF J) J<|rN<|cB h J (fun h=>?_) (fun h=>?_)
       ·refine aS<|rA J J<|rN<|aa.ret<|?_
        cases h
        exact hH J [0,0] J ⟨lg,J,J⟩
       ·exact tK<|tR<|rM J J<|zv J fun mF=>yr (gk:=I) (gv:=I) (M:=([]:List (Int×Int))) (key:=(1:Int)) (v:=(3:Int)) J J J J .p0<|yr (gk:=I) (gv:=I) (M:=(pz ([]:List (Int×Int)) (1:Int) (3:Int))) (key:=(2:Int)) (v:=(0:Int)) J J J J .p0<|rM J J<|rM J J<|ae.qv (aC J) J<|rF J J J<|rL J J .p1 J J<|aK h fun v11 e1 h=>ae.qv (Fo (gk:=I) (gv:=I) (M:=(pz (pz ([]:List (Int×Int)) (1:Int) (3:Int)) (2:Int) (0:Int))) (key:=ab.aE) (Z:=(0:Int)) J J .p0 J J J e1 J) J<|ae.qv (aC J) J<|rF J J J<|aQ J J J J .p1 J J<|rN<|aa.stop<|aj.lq [1,1,1] ⟨v11,ab.ay.aM,ab.ay.To,h,J⟩ J J
      ·refine aS<|ae.qv (cL J J) J<|rA J J<|rN<|aa.cut (fun aH=>∃ (n12:Int) (n13:Int) (n14:Int),ke ab ah n12 n13 n14=some r∧aH=⟨110,[(0,.ptr aR 0),(3,.ptr b1 0)],[(aR,.cells [.str ab.aG,.str ab.a8,.sl 6 lg 0 ab.bw.length,I n12,I n13,I n14]),(lg,gi ab.bw),(b1,.cells (vn ah))]⟩) ?_ ?_
       ·refine cD h J (fun h=>?_) (fun h=>?_)
        ·refine tS<|tS<|aa.cut (fun aH=>∃ (BS:Bool),oQ ab ah BS=some r∧aH=⟨110,[(0,.ptr aR 0),(3,.ptr b1 0),(78,.bool BS)],[(aR,.cells [.str ab.aG,.str ab.a8,.sl 6 lg 0 ab.bw.length,I ab.aE,I ab.ay.aM,I ab.ay.To]),(lg,gi ab.bw),(b1,.cells (vn ah))]⟩) ?_ ?_
         ·refine tR<|rM J J<|ae.qv (aC J) J<|rF J J J<|rL J J .p0 J J<|ae.qv (jU J J) J<|rM J J<|ae.bH J J J (fun hc=>?_) (fun hc=>?_)
          ·rw [iD hc] at h
           exact rM J J<|rY J J J<|ae.qv (aC J) J<|rY J J J<|rF J J J<|rY J J J<|rL J J .p0 J J<|rY J J J<|ae.qv (jU J J) J<|rT J J J<|rN<|aa.stop<|aj.lq [0,0,0] ⟨decide (ab.aE≠(3:Int)),h,J⟩ J J
          ·rw [iE hc] at h
           exact rG J J J J<|rG J J J J<|rG J J J J<|rG J J J J<|rE J J J<|rN<|aa.stop<|aj.lq [0,0,0] ⟨false,h,J⟩ J J
         ·rintro aH ⟨BS,h,rfl⟩
          unfold oQ at h
          refine cB h J (fun h=>?_) (fun h=>?_)
          ·refine aS<|rA J J<|rN<|aa.ret<|?_
           cases h
           exact hH J [0,0] J ⟨lg,J,J⟩
          ·exact tK<|tR<|rM J J<|zv J fun FK=>yr (gk:=I) (gv:=I) (M:=([]:List (Int×Int))) (key:=(1:Int)) (v:=(2:Int)) J J J J .p0<|yr (gk:=I) (gv:=I) (M:=(pz ([]:List (Int×Int)) (1:Int) (2:Int))) (key:=(3:Int)) (v:=(0:Int)) J J J J .p0<|rM J J<|rM J J<|ae.qv (aC J) J<|rF J J J<|rL J J .p1 J J<|aK h fun v17 e2 h=>ae.qv (Fo (gk:=I) (gv:=I) (M:=(pz (pz ([]:List (Int×Int)) (1:Int) (2:Int)) (3:Int) (0:Int))) (key:=ab.aE) (Z:=(0:Int)) J J .p0 J J J e2 J) J<|ae.qv (aC J) J<|rF J J J<|aQ J J J J .p1 J J<|rN<|aa.stop<|aj.lq [1,1,1] ⟨v17,ab.ay.aM,ab.ay.To,h,J⟩ J J
        ·refine aS<|ae.qv (cL J J) J<|rA J J<|rN<|aa.cut (fun aH=>∃ (n18:Int) (n19:Int),mu ab ah n18 n19=some r∧aH=⟨110,[(0,.ptr aR 0),(3,.ptr b1 0)],[(aR,.cells [.str ab.aG,.str ab.a8,.sl 6 lg 0 ab.bw.length,I ab.aE,I n18,I n19]),(lg,gi ab.bw),(b1,.cells (vn ah))]⟩) ?_ ?_
         ·refine cD h J (fun h=>?_) (fun h=>?_)
          ·refine tS<|aS<|rM J J<|rN<|cB h J (fun h=>?_) (fun h=>?_)
           ·refine aS<|rA J J<|rN<|aa.ret<|?_
            cases h
            exact hH J [0,0] J ⟨lg,J,J⟩
           ·exact tK<|tR<|rM J J<|rF J J J<|rL J J .p2 J J<|rF J J J<|rL J J .p2 J J<|ae.qv (cJ J J J J J) J<|ae.qv (aC J) J<|rF J J J<|aQ J J J J .p0 J J<|rN<|aa.stop<|aj.lq [0,0,0] ⟨ah.At,ah.bu,h,J⟩ J J
          ·refine tS<|aS<|rM J J<|ae.qv (eF J) J<|rN<|cB h J (fun h=>?_) (fun h=>?_)
           ·refine aS<|rA J J<|rN<|aa.ret<|?_
            cases h
            exact hH J [0,0] J ⟨lg,J,J⟩
           ·exact tK<|tR<|rM J J<|ae.qv (cJ J J J J J) J<|ae.qv (aC J) J<|rF J J J<|aQ J J J J .p0 J J<|rN<|aa.stop<|aj.lq [0,0,0] ⟨(0:Int),(0:Int),h,J⟩ J J
         ·rintro aH ⟨n18,n19,h,rfl⟩
          unfold mu at h
          exact aa.stop<|aj.lq [0,0,0] ⟨ab.aE,n18,n19,h,J⟩ J J
       ·rintro aH ⟨n12,n13,n14,h,rfl⟩
        unfold ke at h
        exact aa.stop<|aj.lq [0,0,0] ⟨n12,n13,n14,h,J⟩ J J
     ·rintro aH ⟨n7,n8,n9,h,rfl⟩
      unfold gO at h
      exact aa.stop<|aj.lq [0,0,0] ⟨n7,n8,n9,h,J⟩ J J
   ·rintro aH ⟨n4,n5,n6,h,rfl⟩
    unfold kc at h
    refine aa.cu<|tS<|aK h fun mU e3 h=>aa.fT (id:=23) (A:=[0,0,2,6,14,0,32,126,255,511,1023]) (H0:=[(lg,gi ab.bw)]) (HH:=fun β=>[((β 7),gi mU),(aR,.cells [.str ab.aG,.str ab.a8,.sl 6 lg 0 ab.bw.length,I n4,I n5,I n6]),(b1,.cells (vn ah))]) 8 mixed J (by kernel_rfl) (by kernel_rfl) [⟨none,some 7,[],fun _=>(lg,gi ab.bw),none,[]⟩,⟨some 7,none,[],fun b=>(b,gi mU),none,[]⟩] [7] J (by kernel_rfl) J (.cons .p1 .nil) (fun _=>J)<|AT.am 7 J J<|AM.qv (ax J) J<|AM.qv (ax J) J<|AM.qv (aC J) J<|AM.qv (az J J) J<|AM.qv (aF J J .p0 J) J<|AM.qv (bq J J .p1 J) J<|AM.bL (xs:=([ah]:List Signal).map Signal.av) J J J J J J<|AM.nil<|AT.BA (V:=fun b=>.sl 6 b 0 mU.length) (Ti:=[(lg,gi ab.bw)]) (Pi:=fun b=>[(b,gi mU)]) (fun _=>J) (fun _=>J) (fun _ _=>J) J (fun _=>J) J J J ?_ ?_
    ·exact eK (g:=Signal.av) J J J J J J J J (.list _) e3 (fun _=>.p0) J fun L3=>ae.nil ⟨L3,_,J,J⟩
    refine AT.rb (fun _=>J) fun β=>?_
    generalize β 7=L3
    clear β
    refine ae.qv (aC J) J<|rF J J J<|aQ J J J J .p1 J J<|rN<|aS<|rA J J<|rN<|aa.ret<|?_
    cases h
    exact hH J [1,0] J ⟨L3,J,J⟩
theorem AJ [GI:bM] {ab:an} {ah:an} {r:Int} (h:mH ab ah=some r):Pu Tryz.prog 85 [.bR [.str ab.aG,.str ab.a8,lV ab.bw,I ab.aE,I ab.ay.aM,I ab.ay.To],.bR [.str ah.aG,.str ah.a8,lV ah.bw,I ah.aE,I ah.ay.aM,I ah.ay.To]] (I r):=by
 unfold mH at h
 refine aT.bJ Tryz.func85 J Tryz.ntmps85 Tryz.results85 J J ?_
 refine aS<|rA J J<|rN<|tS<|aa.bS (id:=1) (A:=[0,1,3,7,0,16,48,112,255,0,512,1536,3584,0,8192,24576,57344,131071,262143,524287,1048575]) 21 mixed J (by kernel_rfl) (by kernel_rfl)<|AM.qv (ax J) J<|AM.qv (bb J) J<|AM.qv (aO J J) J<|AM.qv (aJ J J J) J<|AM.qv (ax J) J<|AM.qv (bb J) J<|AM.qv (aO J J) J<|AM.qv (aJ J J J) J<|AM.fL J (cr J) cR J<|AM.qv (ax J) J<|AM.qv (bb J) J<|AM.qv (aO J J) J<|AM.qv (aJ J J J) J<|AM.qv (ax J) J<|AM.qv (bb J) J<|AM.qv (aO J J) J<|AM.qv (aJ J J J) J<|AM.fL J (cr J) cR J<|AM.bL (xs:=([(Lib.compareBytes ab.aG ah.aG),(Lib.compareBytes ab.a8 ah.a8)]:List Int).map I) J J J J J J<|aK h fun v1 e1 h=>AM.fL J (kS e1) cR J<|AM.qv (bZ J) J<|AM.nil<|rN<|aa.ret<|?_
 cases h
 exact hP J J
theorem o4:HF Tryz.prog 84:=⟨fun enc h1 cf hO g cb cu off cap d w eg hc hH hb hs=>Any.slices_SortFunc_eq Tryz.HJ enc h1 cf hO g cb cu off cap d w eg hc hH hb hs,fun p cap fv w=>AnyF.slices_SortFunc_none {Tryz.HJ with} p cap fv w⟩
theorem yJ [GI:bM] {ab:List Signal} {ah:Int} {r:(List an)×(List dc)} (h:oY ab ah=some r):aT Tryz.prog 60 [lV ab,I ah] [] (T1 (fun VT=>[(VT,KI r.2)]) (fun VT=>.oL [Js r.1,.sl 2 VT 0 r.2.length])):=by
 unfold oY at h
 refine aT.fM ?_
 refine aT.bJ Tryz.func60 J Tryz.ntmps60 Tryz.results60 J J ?_
 refine aa.ghost (aj.HC (kb:=L0) (fun b1 bo2 bs3=>aj.here ?_))
 refine aS<|rA J J<|rA J J<|rN<|aS<|rA J J<|rN<|aS<|rA J J<|rN<|tS<|aS<|rM J J<|ae.qv (cY J) J<|rM J J<|rN<|aa.cut (fun aH=>∃ (VU:Nat→Bk) (Yh:Nat→Nat→Bk) (b7:Bk) (b9:Bk) (l4:List an) (l8:List Int) (l10:List dc),kY l4 l8 l10=some r∧aH=⟨58,[(6,.sl 1 b7 0 l8.length),(7,.sl 2 b9 0 l10.length)],[(b1,.cm (nT L0 VU Yh l4)),(b7,.arr 1 (l8.map (pA VU))),(b9,KI l10)]⟩) ?_ ?_
 ·refine aa.block<|aa.cw (fun x:(List an)×(List Int)×(List dc)×Int=>mJ ab ah x.1 x.2.1 x.2.2.1 x.2.2.2) (fun x aH=>∃ (IZ:Nat→Bk) (I0:Nat→Nat→Bk) (ES:Bk) (GU:Bk),aH=⟨58,[(1,I ah),(6,.sl 1 ES 0 x.2.1.length),(7,.sl 2 GU 0 x.2.2.1.length),(12,lV ab),(13,I (ab.length:Int)),(14,I x.2.2.2)],[(b1,.cm (nT L0 IZ I0 x.1)),(ES,.arr 1 (x.2.1.map (pA IZ))),(GU,KI x.2.2.1)]⟩) h ?_ ?_
  ·exact aj.arr (s:=6) 1 J fun VK=>aj.arr (s:=7) 2 J fun TH=>aj.lq [2,1,0] ⟨bo2,bs3,VK,TH,J⟩ J J
  ·intro x z1 aH J1 fe h k6 fh
   obtain ⟨sB,ri,AY,n26⟩:=x
   obtain ⟨IZ,I0,ES,GU,rfl⟩:=fe
   replace h:mJ ab ah sB ri AY n26=some z1:=h
   unfold mJ at h
   refine aS<|ae.qv (bE J J) J<|rN<|tS<|cD h J (fun h=>?_) (fun h=>?_)
   ·refine tK<|tS<|aa.block<|aS<|rM J J<|aK h fun ER e1 h=>ae.qv (bN J J J e1 J J) J<|ae.qv (bf J J J) J<|ct J J J J fun Qw=>rA J J<|aQ J J J J .p0 J J<|rN<|tS<|aS<|rF J J J<|rL J J .p0 J J<|rM J J<|ae.qv (fW J J) J<|rN<|cD h J (fun h=>?_) (fun h=>?_)
    ·exact aa.exit J<|have h:=bT h fh;aa.stop<|aj.lq [1,1,1] ⟨IZ,I0,ES,GU,sB,ri,AY,h,J⟩ J J
    ·refine tK<|aS<|rM J J<|ae.qv (sk J) J<|aK h fun RN e2 h=>aK h fun v32 e3 h=>lr J (oJ (fun e=>AI (Option.some.inj e)) e3) (.cons (pk.Pd (bp:=b1) (kb:=L0) (bs:=I0) (M:=sB) VC e2 (.inl .p2) .p1) (.cons (.Ho _ _ _ (.cons (.Ir _ _ _ .p0 (.cons (.co (.refl _)) (.cons (.co (.refl _)) (.cons (.co (.refl _)) (.cons (.co (.refl _)) (.cons (.co (.refl _)) (.cons (.co (.refl _)) .nil))))))) .nil)) .nil)) J J<|rA J J<|rN<|tS<|aS<|rM J J<|ae.qv (bE J J) J<|rN<|aa.cut (fun aH=>∃ (GX:Nat→Bk) (Sd:Nat→Nat→Bk) (qZ:Bk) (KH:List an) (nY:List Int) (n38:Int),mI AY n26 ER KH nY n38=some z1∧aH=⟨58,[(1,I ah),(6,.sl 1 qZ 0 nY.length),(7,.sl 2 GU 0 AY.length),(8,I n26),(9,.ptr Qw 0),(10,I n38),(12,lV ab),(13,I (ab.length:Int)),(14,I n26)],[(b1,.cm (nT L0 GX Sd KH)),(qZ,.arr 1 (nY.map (pA GX))),(GU,KI AY),(Qw,.cells (vn ER))]⟩) ?_ ?_
     ·refine cD h J (fun h=>?_) (fun h=>?_)
      ·exact aS<|rM J J<|ae.qv (iC J) J<|rA J J<|rN<|tR<|rM J J<|rF J J J<|rL J J .p0 J J<|rF J J J<|rL J J .p0 J J<|ae.qv (cJ J J J J J) J<|gn J J J J fun KL=>ae.ghost<|aj.sv (j:=2) 6 (fun _=>.p0) J (fun _=>J) (fun _=>J) fun VI=>aj.here<|aK h fun u41 e4 h=>ae.ghost<|aj.HE (kb:=L0) (v:=(⟨ER.Device,ER.bg,[],(0:Int),(⟨(0:Int),(0:Int)⟩:ar)⟩:an)) (s:=Ta [VI]) (.cons .p1 (.cons .p0 .nil)) J (fun _ _=>.p1) fun Nj VV VW VX=>aj.here<|ae.ghost<|aj.GN (Ky VW e4) .p2<|aj.here<|ae.ghost<|aj.eqs (s:=36) (cy:=.ptr (Nj (sB.length:Int).toNat) 0) J (D8 VX _)<|aj.here<|bj (xs:=([(sB.length:Int)]).map (pA Nj)) J J J J J J<|aK h fun AB e6 h=>eK (g:=(pA Nj)) J J J J J J J J (.list _) e6 (fun _=>.p2) J fun Qy=>rA J J<|rN<|aa.stop<|aj.lq [1,1,1,0] ⟨Nj,VV,Qy,sB++[(⟨ER.Device,ER.bg,[],(0:Int),(⟨(0:Int),(0:Int)⟩:ar)⟩:an)],AB,(ri.length:Int),h,J⟩ J J
      ·exact tK<|aa.stop<|aj.lq [1,1,1,0] ⟨IZ,I0,ES,sB,ri,v32,h,J⟩ J J
     ·rintro aH ⟨GX,Sd,qZ,KH,nY,n38,h,rfl⟩
      unfold mI at h
      refine tS<|aa.bS (id:=11) (A:=[0,0,3,7,0,31,63]) 5 mixed J (by kernel_rfl) (by kernel_rfl)<|AM.qv (ax J) J<|AM.qv (ax J) J<|aK h fun v46 e7 h=>AM.qv (ba J J J e7) J<|AM.qv (fw (g:=(pA GX)) J J (.inl .p1) e7 J) J<|AM.qv (bq J J .p3 J) J<|AM.nil<|aK h fun kW e8 h=>ae.ghost<|aj.Fw (kb:=L0) e8 .p0 J<|aj.here<|aK h fun bQ e9 h=>pt J (B1 e9) cR (.cons .p0 (.cons .p0 .nil)) (fun _=>J) J fun VN=>rA J J<|ae.ghost<|aj.HD (kb:=L0) (v':=bQ.2) (s:=Ta [VN]) e8 (.cons .p0 (.cons .p0 .nil)) J (fun _=>.p0) fun Se=>aj.here<|rN<|aS<|rM J J<|ae.qv (jU J J) J<|rN<|aa.cut (fun aH=>∃ (Nh:Bk) (Qt:List dc),oG n26 KH nY v46 bQ Qt=some z1∧aH=⟨58,[(1,I ah),(6,.sl 1 qZ 0 nY.length),(7,.sl 2 Nh 0 Qt.length),(12,lV ab),(13,I (ab.length:Int)),(14,I n26)],[(b1,.cm (nT L0 GX Se (KH.set v46.toNat bQ.2))),(qZ,.arr 1 (nY.map (pA GX))),(Nh,KI Qt)]⟩) ?_ ?_
      ·refine cD h J (fun h=>?_) (fun h=>?_)
       ·exact tR<|rM J J<|rM J J<|rM J J<|ae.qv (cJ J J J J J) J<|bj (xs:=([(⟨n26,bQ.1⟩:dc)]).map dc.av) J J J J J J<|aK h fun BR xd h=>eK (g:=dc.av) J J J J J J J J (.list _) xd (fun _=>.p2) J fun VR=>rA J J<|rN<|aa.stop<|aj.lq [0,0,0] ⟨VR,BR,h,J⟩ J J
       ·exact tK<|aa.stop<|aj.lq [0,0,0] ⟨GU,AY,h,J⟩ J J
      ·rintro aH ⟨Nh,Qt,h,rfl⟩
       unfold oG at h
       refine aa.cu<|tR<|ae.qv (bc J J) J<|rM J J<|rN<|aa.stop<|?_
       cases h
       exact k6 _ _ J<|aj.lq [0,0,0] ⟨GX,Se,qZ,Nh,J⟩ J J
   ·exact aa.exit J<|have h:=bT h fh;aa.stop<|aj.lq [0,0,0] ⟨IZ,I0,ES,GU,sB,ri,AY,h,J⟩ J J
 ·rintro aH ⟨VU,Yh,b7,b9,l4,l8,l10,h,rfl⟩
  unfold kY at h
  refine aS<|rM J J<|aK h fun TF Cs h=>bh J (Ae o4 VC (fun e=>AJ (GI:=nP) e) Cs) cR (.cons .p1 (.cons .p0 .nil)) J J<|ae.ghost<|aj.eqs (s:=6) (cy:=.sl 1 b7 0 TF.length) J (congrArg (AV.sl 1 b7 0) (wQ Cs))<|aj.here<|ae.ghost<|aj.eqs (s:=54) (cy:=.sl 1 b7 0 TF.length) J (congrArg (AV.sl 1 b7 0) (wQ Cs))<|aj.here<|rN<|aS<|rM J J<|rM J J<|rA J J<|rA J J<|rN<|aa.ret<|aK h fun X9 zj h=>?_
  cases h
  exact aj.Kz (s:=4) J (.cons .p0 (.cons .p0 .nil)) (pk.Pd VC zj (.inl .p0) .p1)<|aj.here ⟨_,.cons (.tmp _ _ J) (.cons (.tmp _ _ J) .nil),_,.cons .p0 .nil,⟨b9,J,J⟩⟩
end Go.Proofs.YtodkphmmhgkodaaGreatDoor
