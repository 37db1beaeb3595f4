/- The code computes the plain functions: proofs written by shal.py. -/
import Derived.Test.YtckmkjeblanlfaaGreatDoorQuoW1
set_option maxHeartbeats 4000000
set_option maxRecDepth 100000
set_option linter.unusedVariables false
set_option linter.unusedSimpArgs false
namespace Go.Proofs.YtckmkjeblanlfaaGreatDoor
open Go Go.Eng Go.Proofs Go.Beacon
attribute [local irreducible] ae ab AQ QV aB ai O6 AM
theorem zW [GI:bx] {aa:Version} {r:Bool} (h:kZ aa=r):Pu Tryz.prog 306 [Version.av aa] (.bool r):=by
 unfold kZ at h
 refine aB.aS Tryz.func306 J Tryz.ntmps306 Tryz.results306 J J ?_
 refine ax<|cm J J J J fun b1=>rA J J<|rN<|tS<|ab.cut (fun aE=>∃ (c2:Bool),mD c2=r∧aE=⟨16,[(2,.bool c2)],[]⟩) ?_ ?_
 ·refine tR<|rF J J J<|rL J J .p0 J J<|aG J (uR J) cR J<|rM J J<|ae.guard J J J (fun hc=>?_) (fun hc=>?_)
  ·rw [wF hc] at h
   refine rF J J J<|rY J J J<|rL J J .p0 J J<|rY J J J<|aG J (uR J) cR J<|rT J J J<|rM J J<|ae.guard J J J (fun hc=>?_) (fun hc=>?_)
   ·rw [wF hc] at h
    exact rF J J J<|rY J J J<|rL J J .p0 J J<|rY J J J<|aG J (uR J) cR J<|rT J J J<|rA J J<|rN<|ab.stop<|ai.lq [] ⟨(ve aa.bN (0:Int) (9999:Int)),h,J⟩ J J
   ·rw [wG hc] at h
    exact rG J J J J<|rG J J J J<|rE J J J<|rA J J<|rN<|ab.stop<|ai.lq [] ⟨false,h,J⟩ J J
  ·rw [wG hc] at h
   exact rG J J J J<|rG J J J J<|rE J J J<|rM J J<|rG J J J J<|rG J J J J<|rG J J J J<|rE J J J<|rA J J<|rN<|ab.stop<|ai.lq [] ⟨false,h,J⟩ J J
 ·rintro aE ⟨c2,h,rfl⟩
  unfold mD at h
  refine ab.ret<|?_
  obtain rfl:=h
  exact hP J J
theorem Cr {aa:bL} {r:Bool} (h:qk aa=some r):Pu Tryz.prog 307 [bL.av aa] (.bool r):=by
 unfold qk at h
 refine aB.aS Tryz.func307 J Tryz.ntmps307 Tryz.results307 J J ?_
 refine ax<|cm J J J J fun b1=>rA J J<|rN<|ax<|rF J J J<|rL J J .p0 J J<|rF J J J<|rL J J .p0 J J<|ae.qv (cG J J) J<|rF J J J<|rL J J .p0 J J<|ae.qv (tt J J) J<|aD (xs:=([aa.cf,decide (aa.Number≠(0:Int)),decide (aa.Words≠([]:al))]).map AV.bool) J J J J J J<|rA J J<|rN<|tS<|ax<|rM J J<|ae.qv (bA J) J<|rM J J<|rN<|ab.block<|ab.cq (fun x:Int=>bP aa x) (fun x aE=>aE=⟨50,[(1,.ptr b1 0),(15,lE9 [aa.cf,decide (aa.Number≠(0:Int)),decide (aa.Words≠([]:al))]),(16,I ([aa.cf,decide (aa.Number≠(0:Int)),decide (aa.Words≠([]:al))].length:Int)),(17,I x)],[(b1,.cells [I aa.Kind,.bool aa.cf,I aa.Number,.str aa.Words])]⟩) h ?_ ?_
 ·exact ai.lq [0] J J J
 ·intro n3 z1 aE J1 dN h gH df
  obtain rfl:=dN
  replace h:bP aa n3=some z1:=h
  unfold bP at h
  refine ax<|ae.qv (bG J J) J<|rN<|tS<|cD h J (fun h=>?_) (fun h=>?_)
  ·refine tK<|tS<|ab.block<|ax<|rM J J<|au h fun v4 e1 h=>ae.qv (aO J J J e1 J J) J<|ae.qv (aJ J J J) J<|rA J J<|rA J J<|rN<|tS<|ab.cut (fun aE=>∃ (c5:Bool),jH n3 c5=some z1∧aE=⟨50,[(1,.ptr b1 0),(15,lE9 [aa.cf,decide (aa.Number≠(0:Int)),decide (aa.Words≠([]:al))]),(16,I ([aa.cf,decide (aa.Number≠(0:Int)),decide (aa.Words≠([]:al))].length:Int)),(17,I n3),(29,.bool c5)],[(b1,.cells [I aa.Kind,.bool aa.cf,I aa.Number,.str aa.Words])]⟩) ?_ ?_
   ·refine tR<|rM J J<|rM J J<|ae.guard J J J (fun hc=>?_) (fun hc=>?_)
    ·rw [wF hc] at h
     exact rF J J J<|rY J J J<|rL J J .p0 J J<|rY J J J<|rM J J<|rY J J J<|ae.qv (bd J J) J<|rY J J J<|ae.qv (cG J J) J<|rT J J J<|rN<|ab.stop<|ai.lq [0] ⟨decide (aa.Kind≠(cr (n3+(1:Int)))),h,J⟩ J J
    ·rw [wG hc] at h
     exact rG J J J J<|rG J J J J<|rG J J J J<|rG J J J J<|rE J J J<|rN<|ab.stop<|ai.lq [0] ⟨false,h,J⟩ J J
   ·rintro aE ⟨c5,h,rfl⟩
    unfold jH at h
    refine cB h J (fun h=>?_) (fun h=>?_)
    ·refine ax<|rA J J<|rN<|ab.ret<|have h:=bE h df;?_
     cases h
     exact hP J J
    ·refine tK<|ab.cF<|tR<|ae.qv (bd J J) J<|rM J J<|rN<|ab.stop<|?_
     cases h
     exact gH _ _ J<|ai.lq [0] J J J
  ·refine ab.exit J<|have h:=bE h df;?_
   unfold iL at h
   refine tS<|ab.cut (fun aE=>∃ (c6:Bool),jI c6=some r∧aE=⟨50,[(2,.bool c6)],[]⟩) ?_ ?_
   ·refine tR<|rF J J J<|rL J J .p0 J J<|aG J (uR J) cR J<|rM J J<|ae.guard J J J (fun hc=>?_) (fun hc=>?_)
    ·refine have h:=lL hc h;rF J J J<|rY J J J<|rL J J .p0 J J<|rY J J J<|aG J (uR J) cR J<|rT J J J<|rM J J<|ae.guard J J J (fun hc=>?_) (fun hc=>?_)
     ·refine have h:=lL hc h;rF J J J<|rY J J J<|rL J J .p0 J J<|rY J J J<|au h fun v7 e2 h=>aG J (tD e2) cR J<|rT J J J<|rM J J<|ae.guard J J J (fun hc=>?_) (fun hc=>?_)
      ·rw [wF hc] at h
       exact rF J J J<|rY J J J<|rL J J .p0 J J<|rY J J J<|ae.qv (fS J) J<|rY J J J<|ae.qv (r8 J J) J<|rT J J J<|rA J J<|rN<|ab.stop<|ai.lq [] ⟨decide ((aa.Words.length:Int)≤(100:Int)),h,J⟩ J J
      ·rw [wG hc] at h
       exact rG J J J J<|rG J J J J<|rG J J J J<|rE J J J<|rA J J<|rN<|ab.stop<|ai.lq [] ⟨false,h,J⟩ J J
     ·exact have h:=lM hc h;rG J J J J<|rG J J J J<|rE J J J<|rM J J<|rG J J J J<|rG J J J J<|rG J J J J<|rG J J J J<|rE J J J<|rA J J<|rN<|ab.stop<|ai.lq [] ⟨false,h,J⟩ J J
    ·exact have h:=lM hc h;rG J J J J<|rG J J J J<|rE J J J<|rM J J<|rG J J J J<|rG J J J J<|rG J J J J<|rE J J J<|rM J J<|rG J J J J<|rG J J J J<|rG J J J J<|rG J J J J<|rE J J J<|rA J J<|rN<|ab.stop<|ai.lq [] ⟨false,h,J⟩ J J
   ·rintro aE ⟨c6,h,rfl⟩
    unfold jI at h
    refine ab.ret<|?_
    cases h
    exact hP J J
theorem sS [GI:bx] {aa:al} {ah:al} {r:Bool} (h:strings_HasPrefix aa ah=some r):Pu Tryz.prog 308 [.str aa,.str ah] (.bool r):=by
 unfold strings_HasPrefix at h
 refine aB.aS Tryz.func308 J Tryz.ntmps308 Tryz.results308 J J ?_
 refine ax<|rA J J<|rN<|ax<|rM J J<|rM J J<|au h fun v1 e1 h=>aG J (ku e1) cR J<|rA J J<|rN<|ab.ret<|?_
 cases h
 exact hP J J
theorem GF {aa:Query} {r:Int} (h:mj aa=some r):Pu Tryz.prog 253 [.agg [I aa.Kind,.str aa.Field,.str aa.Op,I aa.Value.Kind,.bool aa.Value.cf,I aa.Value.Number,.str aa.Value.Words,I aa.Version.bQ,I aa.Version.bR,I aa.Version.bN,lr aa.Kids]] (I r):=by
 unfold mj at h
 refine aB.aS Tryz.func253 J Tryz.ntmps253 Tryz.results253 J J ?_
 refine ax<|cm J J J J fun b1=>rA J J<|rN<|ax<|rF J J J<|rL J J .p0 J J<|ae.qv (cL J J) J<|rA J J<|rN<|tS<|ax<|rF J J J<|rL J J .p0 J J<|rM J J<|au h fun v2 e1 h=>aG J (Cq e1) cR J<|ae.qv (bX J) J<|rN<|cB h J (fun h=>?_) (fun h=>?_)
 ·refine ax<|rA J J<|rN<|ab.ret<|?_
  cases h
  exact hP J J
 ·refine tK<|tS<|ax<|rM J J<|rN<|cD h J (fun h=>?_) (fun h=>?_)
  ·refine ax<|rA J J<|rN<|ab.ret<|?_
   cases h
   exact hP J J
  ·refine tK<|tS<|ab.cut (fun aE=>∃ (c3:Bool),sY aa c3=some r∧aE=⟨82,[(1,.ptr b1 0),(4,.bool c3)],[(b1,.cells (wX aa))]⟩) ?_ ?_
   ·refine tR<|rF J J J<|rL J J .p0 J J<|ae.qv (iz J J) J<|rM J J<|ae.fC J J J (fun hc=>?_) (fun hc=>?_)
    ·rw [zK hc] at h
     exact rF J J J<|rY J J J<|rL J J .p0 J J<|rY J J J<|ae.qv (iz J J) J<|rE J J J<|rA J J<|rN<|ab.stop<|ai.lq [0] ⟨decide (aa.Op=([33,61]:al)),h,J⟩ J J
    ·rw [zJ hc] at h
     exact rG J J J J<|rG J J J J<|rT J J J<|rA J J<|rN<|ab.stop<|ai.lq [0] ⟨true,h,J⟩ J J
   ·rintro aE ⟨c3,h,rfl⟩
    unfold sY at h
    refine tS<|ax<|rF J J J<|rL J J .p0 J J<|ae.qv (iz J J) J<|rA J J<|rN<|ab.block<|tS<|ab.cV (id:=8) (A:=[0,0,2,7,15,31]) 6 mixed J (by kernel_rfl) (by kernel_rfl)<|AM.gj J (E7 J) cR J<|AM.qv (az J J) J<|AM.qv (aI J J .p0 J) J<|au h fun v4 e2 h=>AM.gj J (bt e2) cR J<|AM.qv (bX J) J<|AM.qv (bI J) J<|AM.nil<|rN<|cB h J (fun h=>?_) (fun h=>?_)
    ·refine ax<|rA J J<|rN<|ab.ret<|?_
     cases h
     exact hP J J
    ·refine tS<|ab.cut (fun aE=>∃ (c5:Bool),sX aa c3 c5=some r∧aE=⟨82,[(1,.ptr b1 0),(4,.bool c3),(5,.bool (decide (aa.Field=([102,105,114,109,119,97,114,101]:al)))),(32,.bool c5)],[(b1,.cells (wX aa))]⟩) ?_ ?_
     ·refine tR<|rM J J<|rM J J<|ae.cN J J J (fun hc=>?_) (fun hc=>?_)
      ·rw [sK hc] at h
       exact rF J J J<|rY J J J<|ae.qv (bg J J .p0 J J) J<|rY J J J<|ae.qv (bn J J J J J) J<|rY J J J<|ae.qv (wH (g:=bL.av) (X:=aa.Value) (Y:=(⟨(0:Int),false,(0:Int),[]⟩:bL)) J J J J J) J<|rT J J J<|rA J J<|rN<|ab.stop<|ai.lq [0] ⟨decide (aa.Value≠(⟨(0:Int),false,(0:Int),[]⟩:bL)),h,J⟩ J J
      ·rw [sL hc] at h
       exact rG J J J J<|rG J J J J<|rG J J J J<|rE J J J<|rA J J<|rN<|ab.stop<|ai.lq [0] ⟨false,h,J⟩ J J
     ·rintro aE ⟨c5,h,rfl⟩
      unfold sX at h
      refine cB h J (fun h=>?_) (fun h=>?_)
      ·refine ax<|rA J J<|rN<|ab.ret<|?_
       cases h
       exact hP J J
      ·refine tS<|ab.cut (fun aE=>∃ (c6:Bool),sW aa c3 c6=some r∧aE=⟨82,[(1,.ptr b1 0),(4,.bool c3),(5,.bool (decide (aa.Field=([102,105,114,109,119,97,114,101]:al)))),(40,.bool c6)],[(b1,.cells (wX aa))]⟩) ?_ ?_
       ·refine tR<|rM J J<|rM J J<|ae.cN J J J (fun hc=>?_) (fun hc=>?_)
        ·rw [sK hc] at h
         exact rF J J J<|rY J J J<|ae.qv (bg J J .p0 J J) J<|rY J J J<|aG J (zW J) cR J<|rY J J J<|ae.qv (bX J) J<|rT J J J<|rA J J<|rN<|ab.stop<|ai.lq [0] ⟨!(kZ aa.Version),h,J⟩ J J
        ·rw [sL hc] at h
         exact rG J J J J<|rG J J J J<|rG J J J J<|rE J J J<|rA J J<|rN<|ab.stop<|ai.lq [0] ⟨false,h,J⟩ J J
       ·rintro aE ⟨c6,h,rfl⟩
        unfold sW at h
        refine cB h J (fun h=>?_) (fun h=>?_)
        ·refine ax<|rA J J<|rN<|ab.ret<|?_
         cases h
         exact hP J J
        ·refine ax<|rM J J<|rA J J<|rN<|cD h J (fun h=>?_) (fun h=>?_)
         ·refine ax<|rA J J<|rN<|ab.ret<|?_
          cases h
          exact hP J J
         ·refine tS<|ax<|rF J J J<|ae.qv (bg J J .p0 J J) J<|ae.qv (bn J J J J J) J<|ae.qv (wH (g:=Version.av) (X:=aa.Version) (Y:=(⟨(0:Int),(0:Int),(0:Int)⟩:Version)) J J J J J) J<|rA J J<|rN<|ab.cut (fun aE=>∃ (c7:Bool),nQ aa c3 c7=some r∧aE=⟨82,[(1,.ptr b1 0),(4,.bool c3),(50,.bool c7)],[(b1,.cells (wX aa))]⟩) ?_ ?_
          ·refine cD h J (fun h=>?_) (fun h=>?_)
           ·exact tK<|ab.stop<|ai.lq [0] ⟨decide (aa.Version≠(⟨(0:Int),(0:Int),(0:Int)⟩:Version)),h,J⟩ J J
           ·refine ax<|rF J J J<|ae.qv (bg J J .p0 J J) J<|au h fun v8 e3 h=>aG J (Cr e3) cR J<|ae.qv (bX J) J<|rA J J<|rN<|ab.cut (fun aE=>∃ (c9:Bool),ql aa c3 c9=some r∧aE=⟨82,[(1,.ptr b1 0),(4,.bool c3),(50,.bool c9)],[(b1,.cells (wX aa))]⟩) ?_ ?_
            ·refine cB h J (fun h=>?_) (fun h=>?_)
             ·exact tK<|ab.stop<|ai.lq [0] ⟨!v8,h,J⟩ J J
             ·exact tR<|rF J J J<|rF J J J<|rL J J .p0 J J<|ae.qv (cL J J) J<|rA J J<|rN<|ab.stop<|ai.lq [0] ⟨decide (aa.Value.Kind=(0:Int)),h,J⟩ J J
            ·rintro aE ⟨c9,h,rfl⟩
             unfold ql at h
             exact ab.stop<|ai.lq [0] ⟨c9,h,J⟩ J J
          ·rintro aE ⟨c7,h,rfl⟩
           unfold nQ at h
           refine cB h J (fun h=>?_) (fun h=>?_)
           ·refine ax<|rA J J<|rN<|ab.ret<|?_
            cases h
            exact hP J J
           ·refine tS<|tS<|ab.cut (fun aE=>∃ (Dm:Bool),nP aa c3 Dm=some r∧aE=⟨82,[(1,.ptr b1 0),(4,.bool c3),(63,.bool Dm)],[(b1,.cells (wX aa))]⟩) ?_ ?_
            ·refine tR<|rF J J J<|rF J J J<|rL J J .p0 J J<|ae.qv (cG J J) J<|rM J J<|gT h J J J (fun h=>?_) (fun h=>?_)
             ·exact rF J J J<|rY J J J<|rL J J .p0 J J<|rY J J J<|au h fun v11 e4 h=>aG J (sS e4) cR J<|rY J J J<|ae.qv (bX J) J<|rT J J J<|rA J J<|rN<|ab.stop<|ai.lq [0] ⟨!v11,h,J⟩ J J
             ·exact rG J J J J<|rG J J J J<|rG J J J J<|rE J J J<|rA J J<|rN<|ab.stop<|ai.lq [0] ⟨false,h,J⟩ J J
            ·rintro aE ⟨Dm,h,rfl⟩
             unfold nP at h
             refine ab.cut (fun aE=>∃ (c12:Bool),nO c12=some r∧aE=⟨82,[(63,.bool c12)],[]⟩) ?_ ?_
             ·refine cB h J (fun h=>?_) (fun h=>?_)
              ·exact tK<|ab.stop<|ai.lq [] ⟨Dm,h,J⟩ J J
              ·refine ab.cut (fun aE=>∃ (Bc:Bool),sV Bc=some r∧aE=⟨82,[(63,.bool Bc)],[]⟩) ?_ ?_
               ·refine tR<|rF J J J<|rF J J J<|rL J J .p0 J J<|ae.qv (cG J J) J<|rM J J<|ae.cN J J J (fun hc=>?_) (fun hc=>?_)
                ·rw [sK hc] at h
                 exact rM J J<|rY J J J<|ae.qv (bX J) J<|rT J J J<|rA J J<|rN<|ab.stop<|ai.lq [] ⟨!c3,h,J⟩ J J
                ·rw [sL hc] at h
                 exact rG J J J J<|rE J J J<|rA J J<|rN<|ab.stop<|ai.lq [] ⟨false,h,J⟩ J J
               ·rintro aE ⟨Bc,h,rfl⟩
                unfold sV at h
                exact ab.stop<|ai.lq [] ⟨Bc,h,J⟩ J J
             ·rintro aE ⟨c12,h,rfl⟩
              unfold nO at h
              refine cB h J (fun h=>?_) (fun h=>?_)
              ·refine ax<|rA J J<|rN<|ab.ret<|?_
               cases h
               exact hP J J
              ·refine tK<|ab.cF<|ax<|rA J J<|rN<|ab.ret<|?_
               cases h
               exact hP J J
theorem Bm {self:Query→Option Int} (pn:∀ {aa:Query} {r:Int},self aa=some r→Pu Tryz.prog 186 [.agg [I aa.Kind,.str aa.Field,.str aa.Op,I aa.Value.Kind,.bool aa.Value.cf,I aa.Value.Number,.str aa.Value.Words,I aa.Version.bQ,I aa.Version.bR,I aa.Version.bN,lr aa.Kids]] (I r)) {aa:Query} {r:Int} (h:mn self aa=some r):Pu Tryz.prog 186 [.agg [I aa.Kind,.str aa.Field,.str aa.Op,I aa.Value.Kind,.bool aa.Value.cf,I aa.Value.Number,.str aa.Value.Words,I aa.Version.bQ,I aa.Version.bR,I aa.Version.bN,lr aa.Kids]] (I r):=by
 unfold mn at h
 refine aB.aS Tryz.func186 J Tryz.ntmps186 Tryz.results186 J J ?_
 refine ax<|cm J J J J fun b1=>rA J J<|rN<|tS<|ax<|rF J J J<|rL J J .p0 J J<|aG J (uR J) cR J<|ae.qv (bX J) J<|rN<|cB h J (fun h=>?_) (fun h=>?_)
 ·refine ax<|rA J J<|rN<|ab.ret<|?_
  cases h
  exact hP J J
 ·refine tK<|ax<|rF J J J<|rL J J .p0 J J<|ae.qv (bA J) J<|rA J J<|rN<|tS<|ab.cut (fun aE=>∃ (c2:Bool),oG self aa c2=some r∧aE=⟨98,[(1,.ptr b1 0),(3,I (aa.Kids.length:Int)),(4,.bool c2)],[(b1,.cells (wX aa))]⟩) ?_ ?_
  ·refine tR<|rF J J J<|rL J J .p0 J J<|ae.qv (cL J J) J<|rM J J<|ae.fC J J J (fun hc=>?_) (fun hc=>?_)
   ·rw [zK hc] at h
    exact rF J J J<|rY J J J<|rL J J .p0 J J<|rY J J J<|ae.qv (cL J J) J<|rE J J J<|rA J J<|rN<|ab.stop<|ai.lq [0] ⟨decide (aa.Kind=(5:Int)),h,J⟩ J J
   ·rw [zJ hc] at h
    exact rG J J J J<|rG J J J J<|rT J J J<|rA J J<|rN<|ab.stop<|ai.lq [0] ⟨true,h,J⟩ J J
  ·rintro aE ⟨c2,h,rfl⟩
   unfold oG at h
   refine tS<|ab.block<|tS<|tS<|ab.cut (fun aE=>∃ (c3:Bool),rW self aa c2 c3=some r∧aE=⟨98,[(1,.ptr b1 0),(3,I (aa.Kids.length:Int)),(4,.bool c2),(23,.bool c3)],[(b1,.cells (wX aa))]⟩) ?_ ?_
   ·refine tR<|rF J J J<|rL J J .p0 J J<|ae.qv (r8 J J) J<|rM J J<|ae.cN J J J (fun hc=>?_) (fun hc=>?_)
    ·rw [sK hc] at h
     exact rM J J<|rY J J J<|ae.qv (fO J J) J<|rT J J J<|rA J J<|rN<|ab.stop<|ai.lq [0] ⟨decide ((0:Int) < (aa.Kids.length:Int)),h,J⟩ J J
    ·rw [sL hc] at h
     exact rG J J J J<|rE J J J<|rA J J<|rN<|ab.stop<|ai.lq [0] ⟨false,h,J⟩ J J
   ·rintro aE ⟨c3,h,rfl⟩
    unfold rW at h
    refine ab.cut (fun aE=>∃ (c4:Bool),mm self aa c2 c4=some r∧aE=⟨98,[(1,.ptr b1 0),(4,.bool c2),(23,.bool c4)],[(b1,.cells (wX aa))]⟩) ?_ ?_
    ·refine cB h J (fun h=>?_) (fun h=>?_)
     ·exact tK<|ab.stop<|ai.lq [0] ⟨c3,h,J⟩ J J
     ·refine tS<|ab.cut (fun aE=>∃ (c5:Bool),rV self aa c2 c5=some r∧aE=⟨98,[(1,.ptr b1 0),(3,I (aa.Kids.length:Int)),(4,.bool c2),(23,.bool c5)],[(b1,.cells (wX aa))]⟩) ?_ ?_
      ·refine tR<|rF J J J<|rL J J .p0 J J<|ae.qv (cL J J) J<|rM J J<|ae.cN J J J (fun hc=>?_) (fun hc=>?_)
       ·rw [sK hc] at h
        exact rM J J<|rY J J J<|ae.qv (cG J J) J<|rT J J J<|rA J J<|rN<|ab.stop<|ai.lq [0] ⟨decide ((aa.Kids.length:Int)≠(1:Int)),h,J⟩ J J
       ·rw [sL hc] at h
        exact rG J J J J<|rE J J J<|rA J J<|rN<|ab.stop<|ai.lq [0] ⟨false,h,J⟩ J J
      ·rintro aE ⟨c5,h,rfl⟩
       unfold rV at h
       refine ab.cut (fun aE=>∃ (c6:Bool),oF self aa c2 c6=some r∧aE=⟨98,[(1,.ptr b1 0),(4,.bool c2),(23,.bool c6)],[(b1,.cells (wX aa))]⟩) ?_ ?_
       ·refine cB h J (fun h=>?_) (fun h=>?_)
        ·exact tK<|ab.stop<|ai.lq [0] ⟨c5,h,J⟩ J J
        ·refine ab.cut (fun aE=>∃ (c7:Bool),rU self aa c2 c7=some r∧aE=⟨98,[(1,.ptr b1 0),(4,.bool c2),(23,.bool c7)],[(b1,.cells (wX aa))]⟩) ?_ ?_
         ·refine tR<|rM J J<|rM J J<|ae.guard J J J (fun hc=>?_) (fun hc=>?_)
          ·rw [wF hc] at h
           exact rM J J<|rY J J J<|ae.qv (bG J J) J<|rT J J J<|rA J J<|rN<|ab.stop<|ai.lq [0] ⟨decide ((aa.Kids.length:Int) < (2:Int)),h,J⟩ J J
          ·rw [wG hc] at h
           exact rG J J J J<|rE J J J<|rA J J<|rN<|ab.stop<|ai.lq [0] ⟨false,h,J⟩ J J
         ·rintro aE ⟨c7,h,rfl⟩
          unfold rU at h
          exact ab.stop<|ai.lq [0] ⟨c7,h,J⟩ J J
       ·rintro aE ⟨c6,h,rfl⟩
        unfold oF at h
        exact ab.stop<|ai.lq [0] ⟨c6,h,J⟩ J J
    ·rintro aE ⟨c4,h,rfl⟩
     unfold mm at h
     refine cB h J (fun h=>?_) (fun h=>?_)
     ·refine ax<|rA J J<|rN<|ab.ret<|?_
      cases h
      exact hP J J
     ·refine tS<|ab.cut (fun aE=>∃ (c8:Bool),jd self aa c8=some r∧aE=⟨98,[(1,.ptr b1 0),(43,.bool c8)],[(b1,.cells (wX aa))]⟩) ?_ ?_
      ·refine tR<|rM J J<|rM J J<|ae.guard J J J (fun hc=>?_) (fun hc=>?_)
       ·exact have h:=lL hc h;rF J J J<|rY J J J<|rL J J .p0 J J<|rY J J J<|ae.qv (jk J) J<|rY J J J<|au h fun v9 e1 h=>cO J (jB (fun e=>Bj (Option.some.inj e)) e1) (.cons (.co (.refl _)) (.cons (.tv _ _ _ (.cons (.C9 _ _ _ .p0 (.cons (.co (.refl _)) (.cons (.co (.refl _)) (.cons (.co (.refl _)) (.cons (.co (.refl _)) (.cons (.co (.refl _)) (.cons (.co (.refl _)) (.cons (.co (.refl _)) (.cons (.co (.refl _)) (.cons (.co (.refl _)) (.cons (.co (.refl _)) (.cons (.co (.refl _)) .nil)))))))))))) .nil)) .nil)) J J<|rT J J J<|rA J J<|rN<|ab.stop<|ai.lq [0] ⟨v9,h,J⟩ J J
       ·exact have h:=lM hc h;rG J J J J<|rG J J J J<|rG J J J J<|rE J J J<|rA J J<|rN<|ab.stop<|ai.lq [0] ⟨false,h,J⟩ J J
      ·rintro aE ⟨c8,h,rfl⟩
       unfold jd at h
       refine cB h J (fun h=>?_) (fun h=>?_)
       ·refine ax<|rA J J<|rN<|ab.ret<|?_
        cases h
        exact hP J J
       ·refine tS<|tS<|ab.cut (fun aE=>∃ (Dm:Bool),oE self aa Dm=some r∧aE=⟨98,[(1,.ptr b1 0),(51,.bool Dm)],[(b1,.cells (wX aa))]⟩) ?_ ?_
        ·refine tR<|rF J J J<|rL J J .p0 J J<|ae.qv (cG J J) J<|rM J J<|ae.cN J J J (fun hc=>?_) (fun hc=>?_)
         ·rw [sK hc] at h
          refine rF J J J<|rY J J J<|rL J J .p0 J J<|rY J J J<|ae.qv (tt J J) J<|rY J J J<|rM J J<|ae.fC J J J (fun hc=>?_) (fun hc=>?_)
          ·rw [zK hc] at h
           refine rF J J J<|rY J J J<|ae.qv (bg J J .p0 J J) J<|rY J J J<|ae.qv (bn J J J J J) J<|rY J J J<|ae.qv (wH (g:=bL.av) (X:=aa.Value) (Y:=(⟨(0:Int),false,(0:Int),[]⟩:bL)) J J J J J) J<|rY J J J<|rE J J J<|rY J J J<|rM J J<|ae.fC J J J (fun hc=>?_) (fun hc=>?_)
           ·rw [zK hc] at h
            exact rF J J J<|rY J J J<|ae.qv (bg J J .p0 J J) J<|rY J J J<|ae.qv (bn J J J J J) J<|rY J J J<|ae.qv (wH (g:=Version.av) (X:=aa.Version) (Y:=(⟨(0:Int),(0:Int),(0:Int)⟩:Version)) J J J J J) J<|rY J J J<|rE J J J<|rT J J J<|rA J J<|rN<|ab.stop<|ai.lq [0] ⟨decide (aa.Version≠(⟨(0:Int),(0:Int),(0:Int)⟩:Version)),h,J⟩ J J
           ·rw [zJ hc] at h
            exact rG J J J J<|rG J J J J<|rG J J J J<|rY J J J<|rT J J J<|rT J J J<|rA J J<|rN<|ab.stop<|ai.lq [0] ⟨true,h,J⟩ J J
          ·rw [zJ hc] at h
           exact rG J J J J<|rG J J J J<|rG J J J J<|rY J J J<|rT J J J<|rY J J J<|rM J J<|rG J J J J<|rG J J J J<|rG J J J J<|rG J J J J<|rY J J J<|rT J J J<|rT J J J<|rA J J<|rN<|ab.stop<|ai.lq [0] ⟨true,h,J⟩ J J
         ·rw [sL hc] at h
          exact rG J J J J<|rG J J J J<|rG J J J J<|ae.bq J J J<|ae.bq J J J<|ae.bq J J J<|ae.bq J J J<|rG J J J J<|rG J J J J<|ae.bq J J J<|ae.bq J J J<|ae.bq J J J<|ae.bq J J J<|rG J J J J<|rE J J J<|rA J J<|rN<|ab.stop<|ai.lq [0] ⟨false,h,J⟩ J J
        ·rintro aE ⟨Dm,h,rfl⟩
         unfold oE at h
         refine ab.cut (fun aE=>∃ (y5:Bool),ml self aa y5=some r∧aE=⟨98,[(1,.ptr b1 0),(51,.bool y5)],[(b1,.cells (wX aa))]⟩) ?_ ?_
         ·refine cB h J (fun h=>?_) (fun h=>?_)
          ·exact tK<|ab.stop<|ai.lq [0] ⟨Dm,h,J⟩ J J
          ·refine ab.cut (fun aE=>∃ (c12:Bool),qm self aa c12=some r∧aE=⟨98,[(1,.ptr b1 0),(51,.bool c12)],[(b1,.cells (wX aa))]⟩) ?_ ?_
           ·refine tR<|rF J J J<|rL J J .p0 J J<|ae.qv (fO J J) J<|rM J J<|ae.cN J J J (fun hc=>?_) (fun hc=>?_)
            ·rw [sK hc] at h
             exact rF J J J<|rY J J J<|rL J J .p0 J J<|rY J J J<|ae.qv (tt J J) J<|rT J J J<|rA J J<|rN<|ab.stop<|ai.lq [0] ⟨decide (aa.Field≠([]:al)),h,J⟩ J J
            ·rw [sL hc] at h
             exact rG J J J J<|rG J J J J<|rE J J J<|rA J J<|rN<|ab.stop<|ai.lq [0] ⟨false,h,J⟩ J J
           ·rintro aE ⟨c12,h,rfl⟩
            unfold qm at h
            exact ab.stop<|ai.lq [0] ⟨c12,h,J⟩ J J
         ·rintro aE ⟨y5,h,rfl⟩
          unfold ml at h
          refine cB h J (fun h=>?_) (fun h=>?_)
          ·refine ax<|rA J J<|rN<|ab.ret<|?_
           cases h
           exact hP J J
          ·refine tK<|ab.cF<|tS<|ax<|rF J J J<|rL J J .p0 J J<|ae.qv (r8 J J) J<|rN<|cD h J (fun h=>?_) (fun h=>?_)
           ·refine ax<|ae.qv (ao J J .p0 J) J<|au h fun oh e2 h=>aG J (GF e2) cR J<|rA J J<|rN<|ab.ret<|?_
            cases h
            exact hP J J
           ·refine tK<|tS<|ax<|rF J J J<|rL J J .p0 J J<|ae.qv (bA J) J<|rM J J<|rN<|ab.block<|ab.cq (fun x:Int=>hZ self aa x) (fun x aE=>aE=⟨98,[(86,lr aa.Kids),(87,I (aa.Kids.length:Int)),(88,I x)],[]⟩) h ?_ ?_
            ·exact ai.lq [] J J J
            ·intro n15 z1 aE J1 dN h gH df
             obtain rfl:=dN
             replace h:hZ self aa n15=some z1:=h
             unfold hZ at h
             refine ax<|ae.qv (bG J J) J<|rN<|tS<|cD h J (fun h=>?_) (fun h=>?_)
             ·refine tK<|tS<|ab.block<|ax<|au h fun uq e3 h=>ae.qv (aO J J J e3 J (by rw [Query.pV];rfl)) J<|ae.qv (aF J J J) J<|bf J J J J fun I0=>aq J J J J .p0 J J<|rN<|ax<|ae.qv (ao J J .p0 J) J<|au h fun uO e4 h=>aG J (pn e4) cR J<|rA J J<|rN<|ax<|rM J J<|ae.qv (cG J J) J<|rN<|cD h J (fun h=>?_) (fun h=>?_)
              ·refine ax<|rM J J<|rA J J<|rN<|ab.ret<|have h:=bE h df;?_
               cases h
               exact hP J J
              ·refine tK<|ab.cF<|tR<|ae.qv (bd J J) J<|rM J J<|rN<|ab.stop<|?_
               cases h
               exact gH _ _ J<|ai.lq [] J J J
             ·refine ab.exit J<|have h:=bE h df;ax<|rA J J<|rN<|ab.ret<|?_
              cases h
              exact hP J J
theorem Cs:∀ (k:Nat) {aa:Query} {r:Int},iW k aa=some r→Pu Tryz.prog 186 [.agg [I aa.Kind,.str aa.Field,.str aa.Op,I aa.Value.Kind,.bool aa.Value.cf,I aa.Value.Number,.str aa.Value.Words,I aa.Version.bQ,I aa.Version.bR,I aa.Version.bN,lr aa.Kids]] (I r):=by
 intro k
 induction k with
 | zero=>intro aa r h;cases h
 | succ k ih=>intro aa r h;exact Bm ih h
theorem Fe {aa:Query} {r:Int} (h:yk aa=some r):Pu Tryz.prog 186 [.agg [I aa.Kind,.str aa.Field,.str aa.Op,I aa.Value.Kind,.bool aa.Value.cf,I aa.Value.Number,.str aa.Value.Words,I aa.Version.bQ,I aa.Version.bR,I aa.Version.bN,lr aa.Kids]] (I r):=Cs depth h
theorem Ct {aa:Query} {r:Int} (h:qn aa=some r):Pu Tryz.prog 106 [.agg [I aa.Kind,.str aa.Field,.str aa.Op,I aa.Value.Kind,.bool aa.Value.cf,I aa.Value.Number,.str aa.Value.Words,I aa.Version.bQ,I aa.Version.bR,I aa.Version.bN,lr aa.Kids]] (I r):=by
 unfold qn at h
 refine aB.aS Tryz.func106 J Tryz.ntmps106 Tryz.results106 J J ?_
 refine ax<|cm J J J J fun b1=>rA J J<|rN<|tS<|tS<|ab.cut (fun aE=>∃ (c2:Bool),lU aa c2=some r∧aE=⟨14,[(1,.ptr b1 0),(11,.bool c2)],[(b1,.cells (wX aa))]⟩) ?_ ?_
 ·refine tR<|ae.qv (ao J J .p0 J) J<|au h fun v3 e1 h=>de J (HT e1) cR .nil (fun _=>J) J fun b4=>ae.qv (ot J) J<|ae.qv (fO J J) J<|rM J J<|gF h J J J (fun h=>?_) (fun h=>?_)
  ·exact ae.qv (ao J J .p1 J) J<|rY J J J<|au h fun v5 e2 h=>aG J (Mk e2) cR J<|rY J J J<|ae.qv (fO J J) J<|rE J J J<|rN<|ab.stop<|ai.lq [1] ⟨decide ((20:Int) < v5),h,J⟩ J J
  ·exact rG J J J J<|rG J J J J<|rT J J J<|rN<|ab.stop<|ai.lq [1] ⟨true,h,J⟩ J J
 ·rintro aE ⟨c2,h,rfl⟩
  unfold lU at h
  refine cB h J (fun h=>?_) (fun h=>?_)
  ·refine ax<|rA J J<|rN<|ab.ret<|?_
   cases h
   exact hP J J
  ·refine tK<|ax<|ae.qv (ao J J .p0 J) J<|au h fun v6 e3 h=>aG J (Fe e3) cR J<|rA J J<|rN<|ab.ret<|?_
   cases h
   exact hP J J
theorem Bn [GI:bx] {aa:lA} {r:Int} (h:mo aa=r):Pu Tryz.prog 108 [lA.av aa] (I r):=by
 unfold mo at h
 refine aB.aS Tryz.func108 J Tryz.ntmps108 Tryz.results108 J J ?_
 refine ax<|cm J J J J fun b1=>rA J J<|rN<|tS<|tS<|ab.cut (fun aE=>∃ (c2:Bool),nR c2=r∧aE=⟨14,[(13,.bool c2)],[]⟩) ?_ ?_
 ·refine tR<|rF J J J<|rL J J .p0 J J<|rF J J J<|rL J J .p0 J J<|aG J (uR J) cR J<|ae.qv (bX J) J<|rM J J<|ae.guard J J J (fun hc=>?_) (fun hc=>?_)
  ·rw [Ll hc] at h
   exact rF J J J<|rY J J J<|rL J J .p0 J J<|rY J J J<|ae.qv (fO J J) J<|rE J J J<|rN<|ab.stop<|ai.lq [] ⟨decide ((345686400000:Int) < aa.To),h,J⟩ J J
  ·rw [Lk hc] at h
   exact rG J J J J<|rG J J J J<|rT J J J<|rN<|ab.stop<|ai.lq [] ⟨true,h,J⟩ J J
 ·rintro aE ⟨c2,h,rfl⟩
  unfold nR at h
  refine cB h J (fun h=>?_) (fun h=>?_)
  ·refine ax<|rA J J<|rN<|ab.ret<|?_
   obtain rfl:=h
   exact hP J J
  ·refine tK<|ax<|rA J J<|rN<|ab.ret<|?_
   obtain rfl:=h
   exact hP J J
theorem jy [GI:bx] {aa:List Int} {r:Int} (h:gz aa=some r):Pu Tryz.prog 17 [du aa] (I r):=by
 unfold gz at h
 refine aB.aS Tryz.func17 J Tryz.ntmps17 Tryz.results17 J J ?_
 refine ax<|rA J J<|rN<|ax<|rA J J<|rN<|tS<|ax<|rM J J<|ae.qv (bA J) J<|rM J J<|rN<|ab.block<|ab.cq (fun x:Int=>o6 aa x) (fun x aE=>aE=⟨18,[(3,I (0:Int)),(6,du aa),(7,I (aa.length:Int)),(8,I x)],[]⟩) h ?_ ?_
 ·exact ai.lq [] J J J
 ·intro n2 z1 aE J1 dN h gH df
  obtain rfl:=dN
  replace h:o6 aa n2=some z1:=h
  unfold o6 at h
  refine ax<|ae.qv (bG J J) J<|rN<|tS<|cD h J (fun h=>?_) (fun h=>?_)
  ·refine tK<|tS<|ab.block<|ax<|au h fun v3 e1 h=>ae.qv (aO J J J e1 J J) J<|ae.qv (aJ J J J) J<|rA J J<|rN<|ax<|rM J J<|rM J J<|ae.qv (cG J J) J<|rN<|cD h J (fun h=>?_) (fun h=>?_)
   ·refine ax<|rM J J<|rA J J<|rN<|ab.ret<|have h:=bE h df;?_
    cases h
    exact hP J J
   ·refine tK<|ab.cF<|tR<|ae.qv (bd J J) J<|rM J J<|rN<|ab.stop<|?_
    cases h
    exact gH _ _ J<|ai.lq [] J J J
  ·refine ab.exit J<|have h:=bE h df;ax<|rM J J<|rA J J<|rN<|ab.ret<|?_
   cases h
   exact hP J J
theorem zb {aa:bu} {r:Int} (h:rj aa=some r):Pu Tryz.prog 36 [bu.av aa] (I r):=by
 unfold rj at h
 refine aB.aS Tryz.func36 J Tryz.ntmps36 Tryz.results36 J J ?_
 refine ax<|cm J J J J fun b1=>rA J J<|rN<|tS<|ax<|ae.qv (ao J J .p0 J) J<|au h fun v2 e1 h=>aG J (zU e1) cR J<|rA J J<|rN<|ax<|rM J J<|ae.qv (cG J J) J<|rN<|cD h J (fun h=>?_) (fun h=>?_)
 ·refine ax<|rM J J<|rA J J<|rN<|ab.ret<|?_
  cases h
  exact hP J J
 ·refine tK<|tS<|ax<|ae.qv (ao J J .p0 J) J<|au h fun v3 e2 h=>aG J (Cp e2) cR J<|rA J J<|rN<|ax<|rM J J<|ae.qv (cG J J) J<|rN<|cD h J (fun h=>?_) (fun h=>?_)
  ·refine ax<|rM J J<|rA J J<|rN<|ab.ret<|?_
   cases h
   exact hP J J
  ·refine tK<|tS<|ax<|rF J J J<|rL J J .p0 J J<|ae.qv (bA J) J<|ae.qv (fO J J) J<|rN<|cD h J (fun h=>?_) (fun h=>?_)
   ·refine ax<|rA J J<|rN<|ab.ret<|?_
    cases h
    exact hP J J
   ·refine tK<|tS<|ax<|rF J J J<|rL J J .p0 J J<|ae.qv (bA J) J<|rM J J<|rN<|ab.block<|ab.cq (fun x:Int=>oH aa x) (fun x aE=>aE=⟨95,[(1,.ptr b1 0),(23,Ch aa.aR),(24,I (aa.aR.length:Int)),(25,I x)],[(b1,.cells (uE aa))]⟩) h ?_ ?_
    ·exact ai.lq [0] J J J
    ·intro n5 z1 aE J1 dN h gH df
     obtain rfl:=dN
     replace h:oH aa n5=some z1:=h
     unfold oH at h
     refine ax<|ae.qv (bG J J) J<|rN<|tS<|cD h J (fun h=>?_) (fun h=>?_)
     ·refine tK<|tS<|ab.block<|ax<|rM J J<|au h fun v6 e3 h=>ae.qv (aO J J J e3 J J) J<|ae.qv (aF J J J) J<|bf J J J J fun b7=>rA J J<|aq J J J J .p0 J J<|rN<|tS<|ab.block<|ax<|rF J J J<|rL J J .p0 J J<|au h fun v8 e4 h=>aG J (qC e4) cR J<|ae.qv (bX J) J<|rA J J<|rN<|cB h J (fun h=>?_) (fun h=>?_)
      ·refine ax<|rA J J<|rN<|ab.ret<|have h:=bE h df;?_
       cases h
       exact hP J J
      ·refine tS<|ab.cut (fun aE=>∃ (c9:Bool),mq aa n5 v6 c9=some z1∧aE=⟨95,[(1,.ptr b1 0),(6,.ptr b7 0),(23,Ch aa.aR),(24,I (aa.aR.length:Int)),(25,I n5),(35,.bool c9)],[(b1,.cells (uE aa)),(b7,.cells (QI v6))]⟩) ?_ ?_
       ·refine ab.cV (id:=14) (A:=[0,1,3,7,15,7,39,7,135,487,999,2023,4095,8191,16383]) 15 mixed J (by kernel_rfl) (by kernel_rfl)<|AM.qv (aQ J) J<|AM.qv (fO J J) J<|AM.qv (aQ J) J<|AM.cN J J J (fun hc=>?_) (fun hc=>?_)
        ·exact have h:=lL hc h;AM.qv (az J J) J<|AM.ar J J J<|AM.qv (aI J J .p0 J) J<|AM.ar J J J<|AM.qv (az J J) J<|AM.ar J J J<|AM.qv (aI J J .p1 J) J<|AM.ar J J J<|AM.qv (aQ J) J<|AM.ar J J J<|AM.qv (gi J J) J<|AM.ar J J J<|au h fun v10 e5 h=>AM.qv (aO J J J e5 J J) J<|AM.ar J J J<|AM.qv (cU J J) J<|AM.ar J J J<|AM.qv (aJ J J J) J<|AM.ar J J J<|AM.qv (wI J J) J<|AM.qv (kS J J) J<|AM.qv (bI J) J<|AM.nil<|rN<|ab.stop<|ai.lq [1,0] ⟨Op.bytesLess v6.Key v10.Key||v6.Key==v10.Key,h,J⟩ J J
        ·exact have h:=zI hc h;AM.ay J J J J<|AM.ay J J J J<|AM.ay J J J J<|AM.ay J J J J<|AM.ay J J J J<|AM.ay J J J J<|AM.ay J J J J<|AM.ay J J J J<|AM.ay J J J J<|AM.qv (kT J J) J<|AM.qv (bI J) J<|AM.nil<|rN<|ab.stop<|ai.lq [1,0] ⟨false,h,J⟩ J J
       ·rintro aE ⟨c9,h,rfl⟩
        unfold mq at h
        refine cB h J (fun h=>?_) (fun h=>?_)
        ·refine ax<|rA J J<|rN<|ab.ret<|have h:=bE h df;?_
         cases h
         exact hP J J
        ·refine tS<|ab.cut (fun aE=>∃ (y5:Bool),kH aa n5 v6 y5=some z1∧aE=⟨95,[(1,.ptr b1 0),(6,.ptr b7 0),(23,Ch aa.aR),(24,I (aa.aR.length:Int)),(25,I n5),(50,.bool y5)],[(b1,.cells (uE aa)),(b7,.cells (QI v6))]⟩) ?_ ?_
         ·refine tR<|ae.qv (ao J J .p0 J) J<|rF J J J<|rL J J .p1 J J<|au h fun v12 e6 h=>aG J (gI e6) cR J<|ae.qv (bG J J) J<|rM J J<|gF h J J J (fun h=>?_) (fun h=>?_)
          ·exact ae.qv (ao J J .p0 J) J<|rY J J J<|rF J J J<|rY J J J<|rL J J .p1 J J<|rY J J J<|au h fun oh e7 h=>aG J (gI e7) cR J<|rY J J J<|ae.qv (bG J J) J<|rE J J J<|rA J J<|rN<|ab.stop<|ai.lq [0,0] ⟨decide (oh < (0:Int)),h,J⟩ J J
          ·exact rG J J J J<|rG J J J J<|rG J J J J<|rG J J J J<|rT J J J<|rA J J<|rN<|ab.stop<|ai.lq [0,0] ⟨true,h,J⟩ J J
         ·rintro aE ⟨y5,h,rfl⟩
          unfold kH at h
          refine cB h J (fun h=>?_) (fun h=>?_)
          ·refine ax<|rA J J<|rN<|ab.ret<|have h:=bE h df;?_
           cases h
           exact hP J J
          ·refine tS<|ab.cut (fun aE=>∃ (Mf:Bool),kG n5 v6 Mf=some z1∧aE=⟨95,[(1,.ptr b1 0),(6,.ptr b7 0),(23,Ch aa.aR),(24,I (aa.aR.length:Int)),(25,I n5),(63,.bool Mf)],[(b1,.cells (uE aa)),(b7,.cells (QI v6))]⟩) ?_ ?_
           ·refine ab.cV (id:=18) (A:=[0,0,2,7,0,16,63,127,255,255,767,2047,255,4351,16383,32767,65535]) 17 mixed J (by kernel_rfl) (by kernel_rfl)<|AM.qv (ao J J .p0 J) J<|AM.qv (az J J) J<|AM.qv (aI J J .p1 J) J<|au h fun lB e8 h=>AM.gj J (tT e8) cR J<|AM.qv (az J J) J<|AM.qv (aI J J .p1 J) J<|au h fun uq e9 h=>AM.gj J (bt e9) cR J<|AM.qv (aQ J) J<|AM.guard J J J (fun hc=>?_) (fun hc=>?_)
            ·exact have h:=lM hc h;AM.qv (ao J J .p0 J) J<|AM.ar J J J<|AM.qv (az J J) J<|AM.ar J J J<|AM.qv (aI J J .p1 J) J<|AM.ar J J J<|au h fun v17 zS h=>AM.gj J (tT zS) cR J<|AM.ar J J J<|AM.qv (az J J) J<|AM.ar J J J<|AM.qv (aI J J .p1 J) J<|AM.ar J J J<|au h fun uO E8 h=>AM.gj J (bt E8) cR J<|AM.qv (kT J J) J<|AM.qv (bI J) J<|AM.nil<|rN<|ab.stop<|ai.lq [0,0] ⟨uO,h,J⟩ J J
            ·exact have h:=lL hc h;AM.ay J J J J<|AM.ay J J J J<|AM.ay J J J J<|AM.ay J J J J<|AM.ay J J J J<|AM.ay J J J J<|AM.qv (kS J J) J<|AM.qv (bI J) J<|AM.nil<|rN<|ab.stop<|ai.lq [0,0] ⟨true,h,J⟩ J J
           ·rintro aE ⟨Mf,h,rfl⟩
            unfold kG at h
            refine cB h J (fun h=>?_) (fun h=>?_)
            ·refine ax<|rA J J<|rN<|ab.ret<|have h:=bE h df;?_
             cases h
             exact hP J J
            ·refine tK<|ab.cF<|tS<|ab.cV (id:=20) (A:=[0,1,3,0,8,31,0,64,255,511,1023,2047]) 12 mixed J (by kernel_rfl) (by kernel_rfl)<|AM.qv (az J J) J<|AM.qv (bg J J .p1 J J) J<|au h fun iV FE h=>AM.gj J (Ct FE) cR J<|AM.qv (az J J) J<|AM.qv (aI J J .p1 J) J<|au h fun v20 GC h=>AM.gj J (za GC) cR J<|AM.qv (az J J) J<|AM.qv (bg J J .p1 J J) J<|AM.gj J (Bn J) cR J<|AM.bz (xs:=([iV,v20,(mo v6.Time)]:List Int).map I) J J J J J J<|au h fun v21 Mh h=>AM.gj J (jy Mh) cR J<|AM.qv (bI J) J<|AM.nil<|rN<|ax<|rM J J<|ae.qv (cG J J) J<|rN<|cD h J (fun h=>?_) (fun h=>?_)
             ·refine ax<|rM J J<|rA J J<|rN<|ab.ret<|have h:=bE h df;?_
              cases h
              exact hP J J
             ·refine tK<|ab.cF<|tR<|ae.qv (bd J J) J<|rM J J<|rN<|ab.stop<|?_
              cases h
              exact gH _ _ J<|ai.lq [0] J J J
     ·refine ab.exit J<|have h:=bE h df;ax<|rA J J<|rN<|ab.ret<|?_
      cases h
      exact hP J J
theorem Bo {aa:bu} {ah:List aH} {r:Int} (h:oI aa ah=some r):Pu Tryz.prog 37 [bu.av aa,th ah] (I r):=by
 unfold oI at h
 refine aB.aS Tryz.func37 J Tryz.ntmps37 Tryz.results37 J J ?_
 refine ax<|cm J J J J fun b1=>rA J J<|rN<|tS<|ax<|rM J J<|ae.qv (bA J) J<|ae.qv (fO J J) J<|rN<|cD h J (fun h=>?_) (fun h=>?_)
 ·refine ax<|rA J J<|rN<|ab.ret<|?_
  cases h
  exact hP J J
 ·refine tK<|tS<|ax<|rM J J<|ae.qv (bA J) J<|rM J J<|rN<|ab.block<|ab.cq (fun x:Int=>fg aa ah x) (fun x aE=>aE=⟨60,[(1,th ah),(2,.ptr b1 0),(10,th ah),(11,I (ah.length:Int)),(12,I x)],[(b1,.cells (uE aa))]⟩) h ?_ ?_
  ·exact ai.lq [0] J J J
  ·intro n3 z1 aE J1 dN h gH df
   obtain rfl:=dN
   replace h:fg aa ah n3=some z1:=h
   unfold fg at h
   refine ax<|ae.qv (bG J J) J<|rN<|tS<|cD h J (fun h=>?_) (fun h=>?_)
   ·refine tK<|tS<|ab.block<|ax<|rM J J<|au h fun v4 e1 h=>ae.qv (aO J J J e1 J J) J<|ae.qv (aF J J J) J<|bf J J J J fun b5=>rA J J<|aq J J J J .p0 J J<|rN<|ab.block<|ax<|ae.qv (ao J J .p1 J) J<|rF J J J<|rL J J .p0 J J<|au h fun v6 e2 h=>aG J (gI e2) cR J<|ae.qv (bG J J) J<|rA J J<|rN<|cD h J (fun h=>?_) (fun h=>?_)
    ·refine ax<|rA J J<|rN<|ab.ret<|have h:=bE h df;?_
     cases h
     exact hP J J
    ·refine ax<|rF J J J<|rL J J .p0 J J<|au h fun v7 e3 h=>aG J (qC e3) cR J<|ae.qv (bX J) J<|rA J J<|rN<|cB h J (fun h=>?_) (fun h=>?_)
     ·refine ax<|rA J J<|rN<|ab.ret<|have h:=bE h df;?_
      cases h
      exact hP J J
     ·refine ax<|rF J J J<|rL J J .p0 J J<|aG J (uR J) cR J<|ae.qv (bX J) J<|rA J J<|rN<|cB h J (fun h=>?_) (fun h=>?_)
      ·refine ax<|rA J J<|rN<|ab.ret<|have h:=bE h df;?_
       cases h
       exact hP J J
      ·refine tS<|ab.cut (fun aE=>∃ (c8:Bool),fW n3 c8=some z1∧aE=⟨60,[(1,th ah),(2,.ptr b1 0),(10,th ah),(11,I (ah.length:Int)),(12,I n3),(33,.bool c8)],[(b1,.cells (uE aa))]⟩) ?_ ?_
       ·refine ab.cV (id:=12) (A:=[0,1,3,7,7,23,63,127,255,7,519,2047,7,7,8199,28679,61447,126983,7,262151,1048575,2097151,4194303,8388607,16777215,33554431]) 26 mixed J (by kernel_rfl) (by kernel_rfl)<|AM.qv (aQ J) J<|AM.qv (fO J J) J<|AM.qv (aQ J) J<|AM.cN J J J (fun hc=>?_) (fun hc=>?_)
        ·exact have h:=lL hc h;AM.qv (aQ J) J<|AM.ar J J J<|AM.qv (aQ J) J<|AM.ar J J J<|AM.qv (gi J J) J<|AM.ar J J J<|au h fun v9 e4 h=>AM.qv (aO J J J e4 J J) J<|AM.ar J J J<|AM.qv (cU J J) J<|AM.ar J J J<|AM.qv (aJ J J J) J<|AM.ar J J J<|AM.qv (az J J) J<|AM.ar J J J<|AM.qv (aI J J .p0 J) J<|AM.ar J J J<|AM.gj J (cM J) cR J<|AM.ar J J J<|AM.qv (aQ J) J<|AM.ar J J J<|AM.qv (aQ J) J<|AM.ar J J J<|AM.qv (gi J J) J<|AM.ar J J J<|au h fun v10 e5 h=>AM.qv (aO J J J e5 J J) J<|AM.ar J J J<|AM.qv (cU J J) J<|AM.ar J J J<|AM.qv (aJ J J J) J<|AM.ar J J J<|AM.qv (az J J) J<|AM.ar J J J<|AM.qv (aI J J .p0 J) J<|AM.ar J J J<|AM.gj J (cM J) cR J<|AM.ar J J J<|AM.bz (xs:=([(Lib.compareBytes v9.an v4.an),(Lib.compareBytes v10.bT v4.bT)]:List Int).map I) J J J J J J<|AM.ar J J J<|au h fun v11 e6 h=>AM.gj J (qH e6) cR J<|AM.ar J J J<|AM.qv (tq J J) J<|AM.qv (kS J J) J<|AM.qv (bI J) J<|AM.nil<|rN<|ab.stop<|ai.lq [1] ⟨decide ((0:Int)≤v11),h,J⟩ J J
        ·exact have h:=zI hc h;AM.ay J J J J<|AM.ay J J J J<|AM.ay J J J J<|AM.ay J J J J<|AM.ay J J J J<|AM.ay J J J J<|AM.ay J J J J<|AM.ay J J J J<|AM.ay J J J J<|AM.ay J J J J<|AM.ay J J J J<|AM.ay J J J J<|AM.ay J J J J<|AM.ay J J J J<|AM.ay J J J J<|AM.ay J J J J<|AM.ay J J J J<|AM.ay J J J J<|AM.ay J J J J<|AM.ay J J J J<|AM.qv (kT J J) J<|AM.qv (bI J) J<|AM.nil<|rN<|ab.stop<|ai.lq [1] ⟨false,h,J⟩ J J
       ·rintro aE ⟨c8,h,rfl⟩
        unfold fW at h
        refine cB h J (fun h=>?_) (fun h=>?_)
        ·refine ax<|rA J J<|rN<|ab.ret<|have h:=bE h df;?_
         cases h
         exact hP J J
        ·refine tK<|ab.cF<|ab.cF<|tR<|ae.qv (bd J J) J<|rM J J<|rN<|ab.stop<|?_
         cases h
         exact gH _ _ J<|ai.lq [0] J J J
   ·refine ab.exit J<|have h:=bE h df;ax<|rA J J<|rN<|ab.ret<|?_
    cases h
    exact hP J J
theorem zX {aa:bu} {ah:List aM} {r:Int} (h:nj aa ah=some r):Pu Tryz.prog 38 [bu.av aa,wb ah] (I r):=by
 unfold nj at h
 refine aB.aS Tryz.func38 J Tryz.ntmps38 Tryz.results38 J J ?_
 refine ax<|cm J J J J fun b1=>rA J J<|rN<|tS<|ax<|rM J J<|ae.qv (bA J) J<|ae.qv (fO J J) J<|rN<|cD h J (fun h=>?_) (fun h=>?_)
 ·refine ax<|rA J J<|rN<|ab.ret<|?_
  cases h
  exact hP J J
 ·refine tK<|tS<|ax<|rM J J<|ae.qv (bA J) J<|rM J J<|rN<|ab.block<|ab.cq (fun x:Int=>eg aa ah x) (fun x aE=>aE=⟨60,[(1,wb ah),(2,.ptr b1 0),(10,wb ah),(11,I (ah.length:Int)),(12,I x)],[(b1,.cells (uE aa))]⟩) h ?_ ?_
  ·exact ai.lq [0] J J J
  ·intro n3 z1 aE J1 dN h gH df
   obtain rfl:=dN
   replace h:eg aa ah n3=some z1:=h
   unfold eg at h
   refine ax<|ae.qv (bG J J) J<|rN<|tS<|cD h J (fun h=>?_) (fun h=>?_)
   ·refine tK<|tS<|ab.block<|ax<|rM J J<|au h fun v4 e1 h=>ae.qv (aO J J J e1 J J) J<|ae.qv (aF J J J) J<|bf J J J J fun b5=>rA J J<|aq J J J J .p0 J J<|rN<|ab.block<|ax<|ae.qv (ao J J .p1 J) J<|rF J J J<|rL J J .p0 J J<|au h fun v6 e2 h=>aG J (gI e2) cR J<|ae.qv (bG J J) J<|rA J J<|rN<|cD h J (fun h=>?_) (fun h=>?_)
    ·refine ax<|rA J J<|rN<|ab.ret<|have h:=bE h df;?_
     cases h
     exact hP J J
    ·refine ax<|rF J J J<|rL J J .p0 J J<|au h fun v7 e3 h=>aG J (qC e3) cR J<|ae.qv (bX J) J<|rA J J<|rN<|cB h J (fun h=>?_) (fun h=>?_)
     ·refine ax<|rA J J<|rN<|ab.ret<|have h:=bE h df;?_
      cases h
      exact hP J J
     ·refine ax<|rF J J J<|rL J J .p0 J J<|aG J (uR J) cR J<|ae.qv (bX J) J<|rA J J<|rN<|cB h J (fun h=>?_) (fun h=>?_)
      ·refine ax<|rA J J<|rN<|ab.ret<|have h:=bE h df;?_
       cases h
       exact hP J J
      ·refine tS<|ab.cut (fun aE=>∃ (c8:Bool),ft n3 c8=some z1∧aE=⟨60,[(1,wb ah),(2,.ptr b1 0),(10,wb ah),(11,I (ah.length:Int)),(12,I n3),(33,.bool c8)],[(b1,.cells (uE aa))]⟩) ?_ ?_
       ·refine ab.cV (id:=12) (A:=[0,1,3,7,7,23,63,127,255,7,519,2047,7,7,8199,28679,61447,126983,7,262151,1048575,2097151,4194303,8388607,16777215,33554431]) 26 mixed J (by kernel_rfl) (by kernel_rfl)<|AM.qv (aQ J) J<|AM.qv (fO J J) J<|AM.qv (aQ J) J<|AM.cN J J J (fun hc=>?_) (fun hc=>?_)
        ·exact have h:=lL hc h;AM.qv (aQ J) J<|AM.ar J J J<|AM.qv (aQ J) J<|AM.ar J J J<|AM.qv (gi J J) J<|AM.ar J J J<|au h fun v9 e4 h=>AM.qv (aO J J J e4 J J) J<|AM.ar J J J<|AM.qv (cU J J) J<|AM.ar J J J<|AM.qv (aJ J J J) J<|AM.ar J J J<|AM.qv (az J J) J<|AM.ar J J J<|AM.qv (aI J J .p0 J) J<|AM.ar J J J<|AM.gj J (cM J) cR J<|AM.ar J J J<|AM.qv (aQ J) J<|AM.ar J J J<|AM.qv (aQ J) J<|AM.ar J J J<|AM.qv (gi J J) J<|AM.ar J J J<|au h fun v10 e5 h=>AM.qv (aO J J J e5 J J) J<|AM.ar J J J<|AM.qv (cU J J) J<|AM.ar J J J<|AM.qv (aJ J J J) J<|AM.ar J J J<|AM.qv (az J J) J<|AM.ar J J J<|AM.qv (aI J J .p0 J) J<|AM.ar J J J<|AM.gj J (cM J) cR J<|AM.ar J J J<|AM.bz (xs:=([(Lib.compareBytes v9.an v4.an),(Lib.compareBytes v10.bT v4.bT)]:List Int).map I) J J J J J J<|AM.ar J J J<|au h fun v11 e6 h=>AM.gj J (qH e6) cR J<|AM.ar J J J<|AM.qv (tq J J) J<|AM.qv (kS J J) J<|AM.qv (bI J) J<|AM.nil<|rN<|ab.stop<|ai.lq [1] ⟨decide ((0:Int)≤v11),h,J⟩ J J
        ·exact have h:=zI hc h;AM.ay J J J J<|AM.ay J J J J<|AM.ay J J J J<|AM.ay J J J J<|AM.ay J J J J<|AM.ay J J J J<|AM.ay J J J J<|AM.ay J J J J<|AM.ay J J J J<|AM.ay J J J J<|AM.ay J J J J<|AM.ay J J J J<|AM.ay J J J J<|AM.ay J J J J<|AM.ay J J J J<|AM.ay J J J J<|AM.ay J J J J<|AM.ay J J J J<|AM.ay J J J J<|AM.ay J J J J<|AM.qv (kT J J) J<|AM.qv (bI J) J<|AM.nil<|rN<|ab.stop<|ai.lq [1] ⟨false,h,J⟩ J J
       ·rintro aE ⟨c8,h,rfl⟩
        unfold ft at h
        refine cB h J (fun h=>?_) (fun h=>?_)
        ·refine ax<|rA J J<|rN<|ab.ret<|have h:=bE h df;?_
         cases h
         exact hP J J
        ·refine tK<|ab.cF<|ab.cF<|tR<|ae.qv (bd J J) J<|rM J J<|rN<|ab.stop<|?_
         cases h
         exact gH _ _ J<|ai.lq [0] J J J
   ·refine ab.exit J<|have h:=bE h df;ax<|rA J J<|rN<|ab.ret<|?_
    cases h
    exact hP J J
theorem zY [GI:bx] {aa:bu} {r:aC} (h:nk aa=some r):aB Tryz.prog 188 [bu.av aa] [] (T6 (fun iM wY wZ w4 w5 w6=>[(iM,.cells (mV r wY wZ w4 w5 w6)),(wY,eG r.a8),(wZ,ym r.qU),(w4,Kb r.at_),(w5,Dr r.zP),(w6,Ds r.yh)]) (fun iM wY wZ w4 w5 w6=>.ptr iM 0)):=by
 unfold nk at h
 refine aB.dS ?_
 refine aB.aS Tryz.func188 J Tryz.ntmps188 Tryz.results188 J J ?_
 refine ax<|cm J J J J fun b1=>rA J J<|rN<|ax<|ae.qv (ao J J .p0 J) J<|re J fun b2=>re J fun b3=>HF (gk:=AV.str) (kp:=(fa 1 I)) (β:=(fun _=>⟨none,0⟩)) J fun b4 b5=>re J fun b6=>re J fun b7=>ae.qv (bn J J J J J) J<|cm J J J J fun b8=>rA J J<|rN<|tS<|ax<|rF J J J<|rL J J .p7 J J<|ae.qv (bA J) J<|rM J J<|rN<|ab.block<|ab.cq (fun x:(List (al×al))×Int=>ei aa x.1 x.2) (fun x aE=>aE=⟨76,[(1,.ptr b1 0),(3,.ptr b8 0),(19,y8 aa.ak),(20,I (aa.ak.length:Int)),(21,I x.2)],[(b1,.cells (uE aa)),(b8,.cells [y8 aa.ak,C3 aa.ba,Dq aa.aL,Ch aa.aR,.gl b2,.gl b3,.gl b4,.gl b6,.gl b7]),(b2,eG x.1),(b3,ym []),(b4,.mp (vC AV.str (fa 1 I) (fun _=>⟨none,0⟩) ([]:List (al×(List Int))))),(b5,.gm (im (fa 1 I) (fun _=>⟨none,0⟩) ([]:List (al×(List Int))))),(b6,Dr []),(b7,Ds [])]⟩) h ?_ ?_
 ·exact ai.lq [7,0,5,4,2,2,1,0] J J J
 ·intro x z1 aE J1 dN h gH df
  obtain ⟨yl,n12⟩:=x
  obtain rfl:=dN
  replace h:ei aa yl n12=some z1:=h
  unfold ei at h
  refine ax<|ae.qv (bG J J) J<|rN<|tS<|cD h J (fun h=>?_) (fun h=>?_)
  ·refine tK<|tS<|ab.block<|ax<|au h fun oh e1 h=>ae.qv (aO J J J e1 J J) J<|ae.qv (aF J J J) J<|bf J J J J fun Ej=>aq J J J J .p0 J J<|rN<|ab.cV (id:=5) (A:=[0,1,3,7,0,16,0,64,255]) 8 mixed J (by kernel_rfl) (by kernel_rfl)<|AM.qv (aQ J) J<|AM.qv (aY J) J<|AM.qv (az J J) J<|AM.qv (aI J J .p2 J) J<|AM.qv (az J J) J<|AM.qv (aI J J .p0 J) J<|AM.qv (az J J) J<|AM.qv (aI J J .p0 J) J<|AM.nil<|wM (gk:=AV.str) (gv:=AV.str) (M:=yl) (key:=oh.Key) (v:=oh.eB) J J J J .p3<|rN<|ab.cF<|tR<|ae.qv (bd J J) J<|rM J J<|rN<|ab.stop<|?_
   cases h
   exact gH _ _ J<|ai.lq [1,1,1,1,1,1,1,1] J J J
  ·refine ab.exit J<|have h:=bE h df;tS<|ax<|rF J J J<|rL J J .p0 J J<|ae.qv (bA J) J<|rM J J<|rN<|ab.block<|ab.cq (fun x:(List (al×(List al)))×Int=>eh aa yl x.1 x.2) (fun x aE=>aE=⟨76,[(1,.ptr b1 0),(3,.ptr b8 0),(35,C3 aa.ba),(36,I (aa.ba.length:Int)),(37,I x.2)],[(b1,.cells (uE aa)),(b8,.cells [y8 aa.ak,C3 aa.ba,Dq aa.aL,Ch aa.aR,.gl b2,.gl b3,.gl b4,.gl b6,.gl b7]),(b2,eG yl),(b3,ym x.1),(b4,.mp (vC AV.str (fa 1 I) (fun _=>⟨none,0⟩) ([]:List (al×(List Int))))),(b5,.gm (im (fa 1 I) (fun _=>⟨none,0⟩) ([]:List (al×(List Int))))),(b6,Dr []),(b7,Ds [])]⟩) h ?_ ?_
   ·exact ai.lq [0,0,0,0,0,0,0,0] J J J
   ·intro x z2 aE J2 dN h Dt zv
    obtain ⟨E4,n18⟩:=x
    obtain rfl:=dN
    replace h:eh aa yl E4 n18=some z2:=h
    unfold eh at h
    refine ax<|ae.qv (bG J J) J<|rN<|tS<|cD h J (fun h=>?_) (fun h=>?_)
    ·refine tK<|tS<|ab.block<|ax<|au h fun iV e2 h=>ae.qv (aO J J J e2 J J) J<|ae.qv (aF J J J) J<|bf J J J J fun Bf=>aq J J J J .p0 J J<|rN<|ab.cV (id:=10) (A:=[0,1,3,7,0,16,0,64,255]) 8 mixed J (by kernel_rfl) (by kernel_rfl)<|AM.qv (aQ J) J<|AM.qv (aY J) J<|AM.qv (az J J) J<|AM.qv (aI J J .p2 J) J<|AM.qv (az J J) J<|AM.qv (aI J J .p0 J) J<|AM.qv (az J J) J<|AM.qv (aI J J .p0 J) J<|AM.nil<|wM (gk:=AV.str) (gv:=(Df 1 AV.str)) (M:=E4) (key:=iV.Key) (v:=iV.mR) J J J J .p4<|rN<|ab.cF<|tR<|ae.qv (bd J J) J<|rM J J<|rN<|ab.stop<|?_
     cases h
     exact Dt _ _ J<|ai.lq [1,1,1,1,1,1,1,1] J J J
    ·refine ab.exit J<|have h:=bE h zv;tS<|ax<|rF J J J<|rL J J .p0 J J<|ae.qv (bA J) J<|rM J J<|rN<|ab.block<|ab.cq (fun x:(List (al×(List Int)))×Int=>iB aa yl E4 x.1 x.2) (fun x aE=>∃ (vk:al→Bk),aE=⟨76,[(3,.ptr b8 0),(51,Dq aa.aL),(52,I (aa.aL.length:Int)),(53,I x.2)],[(b8,.cells [y8 aa.ak,C3 aa.ba,Dq aa.aL,Ch aa.aR,.gl b2,.gl b3,.gl b4,.gl b6,.gl b7]),(b2,eG yl),(b3,ym E4),(b4,.mp (vC AV.str (fa 1 I) vk x.1)),(b5,.gm (im (fa 1 I) vk x.1)),(b6,Dr []),(b7,Ds [])]⟩) h ?_ ?_
     ·exact ai.lq [1,1,1,1,1,1,1] ⟨(fun _=>⟨none,0⟩),J⟩ J J
     ·intro x z3 aE J3 dN h Om Mj
      obtain ⟨yF,n26⟩:=x
      obtain ⟨vk,rfl⟩:=dN
      replace h:iB aa yl E4 yF n26=some z3:=h
      unfold iB at h
      refine ax<|ae.qv (bG J J) J<|rN<|tS<|cD h J (fun h=>?_) (fun h=>?_)
      ·refine tK<|tS<|ab.block<|ax<|rM J J<|au h fun zu e3 h=>ae.qv (aO J J J e3 J J) J<|ae.qv (aF J J J) J<|bf J J J J fun Sh=>rA J J<|aq J J J J .p0 J J<|rN<|au h fun vv e4 h=>au h fun KE e5 h=>ab.jM (id:=15) (A:=[0,1,3,7,0,16,0,64,192,448,0,1024,4032,0,8192,32704,65535]) (H0:=[(b4,.mp (vC AV.str (fa 1 I) vk yF)),(b5,.gm (im (fa 1 I) vk yF))]) (HH:=fun β=>[(b4,.mp (vC AV.str (fa 1 I) vk yF)),(b5,.gm (im (fa 1 I) vk (mQ yF zu.an))),((β 15),Sf KE),(Sh,.cells [.str zu.vE,.str zu.an,.str zu.bF]),(b8,.cells [y8 aa.ak,C3 aa.ba,Dq aa.aL,Ch aa.aR,.gl b2,.gl b3,.gl b4,.gl b6,.gl b7]),(b2,eG yl),(b3,ym E4),(b6,Dr []),(b7,Ds [])]) 16 mixed J (by kernel_rfl) (by kernel_rfl) [⟨none,some 12,[],fun _=>(b4,.mp (vC AV.str (fa 1 I) vk yF)),none,[]⟩,⟨none,some 12,[],fun _=>(b5,.gm (im (fa 1 I) vk yF)),none,[]⟩,⟨some 12,some 15,[],fun b=>(b,Sf vv),none,[]⟩,⟨some 12,none,[],fun b=>(b4,.mp (vC AV.str (fa 1 I) vk yF)),none,[]⟩,⟨some 12,none,[],fun b=>(b5,.gm (im (fa 1 I) vk (mQ yF zu.an))),none,[]⟩,⟨some 15,none,[],fun b=>(b,Sf KE),none,[]⟩] [12,15] J (by kernel_rfl) J (.cons .p4 (.cons .p4 .nil)) (fun _=>J)<|AT.am 12 J J<|AM.qv (aQ J) J<|AM.qv (aY J) J<|AM.qv (az J J) J<|AM.qv (aI J J .p1 J) J<|AM.qv (az J J) J<|AM.qv (aI J J .p0 J) J<|AM.qv (aQ J) J<|AM.qv (aY J) J<|AM.qv (az J J) J<|AM.qv (aI J J .p1 J) J<|AM.qv (az J J) J<|AM.qv (aI J J .p0 J) J<|AM.nil<|AT.Hv (V:=fun b=>.sl 1 b 0 vv.length) (Ti:=[(b4,.mp (vC AV.str (fa 1 I) vk yF)),(b5,.gm (im (fa 1 I) vk yF))]) (Pi:=fun b=>[(b,Sf vv),(b4,.mp (vC AV.str (fa 1 I) vk yF)),(b5,.gm (im (fa 1 I) vk (mQ yF zu.an)))]) (fun _=>J) (fun _=>J) (fun _ _=>J) J (fun _=>J) J J J ?_ ?_
       ·exact JM (gk:=AV.str) (sz:=1) (g:=I) (β:=vk) (M:=yF) (key:=zu.an) J J .p0 .p1 J e4 J fun TA ag8=>ae.nil ⟨TA,_,J,J⟩
       refine AT.am 2 J J<|AM.qv (aQ J) J<|AM.bz (xs:=([n26]:List Int).map I) J J J J J J<|AM.nil<|AT.Tg (V:=fun b=>.sl 1 b 0 KE.length) (Ti:=fun β=>[((β 12),Sf vv)]) (Pi:=fun b=>[(b,Sf KE)]) (fun _=>J) (fun _=>J) (fun _ _=>J) (fun _=>J) (fun _=>J) J J J (fun β=>?_) ?_
       ·generalize β 12=TA
        exact dt (g:=I) J J J J J J J J (.list _) e5 (fun _=>.p0) J fun QO=>ae.nil ⟨QO,_,J,J⟩
       refine AT.wJ (fun _=>J) fun β=>?_
       generalize β 12=TA
       generalize β 15=QO
       clear β
       refine E0 (gk:=AV.str) (kp:=(fa 1 I)) (β:=vk) (M:=yF) (key:=zu.an) (v:=KE) (b:=QO) J J J J .p0<|ae.ghost<|ai.N1 (kp:=(fa 1 I)) (β:=vk) (M:=yF) (key:=zu.an) (v:=KE) J .p2 .p1<|ai.here<|rN<|ab.cF<|tR<|ae.qv (bd J J) J<|rM J J<|rN<|ab.stop<|?_
       cases h
       exact Om _ _ J<|ai.lq [3,3,3,0,0,1,1] ⟨(zM vk zu.an QO),J⟩ J J
      ·refine ab.exit J<|have h:=bE h Mj;ax<|rM J J<|rA J J<|rN<|ab.ret<|?_
       cases h
       exact ai.Qt (gk:=AV.str) (sz:=1) (g:=I) (β:=vk) (M:=yF) (gn.inj Tryz.prog 9) .p4 .p3<|ai.here ⟨_,.cons (.tmp _ _ J) .nil,_,.cons .p0 (.cons .p0 (.cons .p0 (.cons .p0 (.cons .p0 (.cons .p0 .nil))))),⟨b8,b2,b3,b4,b6,b7,J,J⟩⟩
theorem lD [GI:bx] {aa:al} {r:Bool} (h:k6 aa=some r):Pu Tryz.prog 89 [.str aa] (.bool r):=by
 unfold k6 at h
 refine aB.aS Tryz.func89 J Tryz.ntmps89 Tryz.results89 J J ?_
 refine ax<|rA J J<|rN<|tS<|tS<|ab.cut (fun aE=>∃ (c1:Bool),np aa c1=some r∧aE=⟨54,[(0,.str aa),(21,.bool c1)],[]⟩) ?_ ?_
 ·refine tR<|rM J J<|ae.qv (iz J J) J<|rM J J<|gF h J J J (fun h=>?_) (fun h=>?_)
  ·refine rM J J<|rY J J J<|ae.qv (fS J) J<|rY J J J<|ae.qv (fO J J) J<|rE J J J<|rM J J<|gF h J J J (fun h=>?_) (fun h=>?_)
   ·refine rM J J<|rY J J J<|au h fun c2 e1 h=>ae.qv (uh J J e1) J<|rY J J J<|ae.qv (bG J J) J<|rE J J J<|rM J J<|gF h J J J (fun h=>?_) (fun h=>?_)
    ·exact rM J J<|rY J J J<|au h fun c3 e2 h=>ae.qv (uh J J e2) J<|rY J J J<|ae.qv (fO J J) J<|rE J J J<|rN<|ab.stop<|ai.lq [] ⟨decide ((122:Int) < (c3.toNat:Int)),h,J⟩ J J
    ·exact rG J J J J<|rG J J J J<|rT J J J<|rN<|ab.stop<|ai.lq [] ⟨true,h,J⟩ J J
   ·exact rG J J J J<|rG J J J J<|rT J J J<|rM J J<|rG J J J J<|rG J J J J<|rG J J J J<|rT J J J<|rN<|ab.stop<|ai.lq [] ⟨true,h,J⟩ J J
  ·exact rG J J J J<|rG J J J J<|rT J J J<|rM J J<|rG J J J J<|rG J J J J<|rG J J J J<|rT J J J<|rM J J<|rG J J J J<|rG J J J J<|rG J J J J<|rT J J J<|rN<|ab.stop<|ai.lq [] ⟨true,h,J⟩ J J
 ·rintro aE ⟨c1,h,rfl⟩
  unfold np at h
  refine cB h J (fun h=>?_) (fun h=>?_)
  ·refine ax<|rA J J<|rN<|ab.ret<|?_
   cases h
   exact hP J J
  ·refine tK<|tS<|ax<|rM J J<|ae.qv (fS J) J<|rM J J<|rN<|ab.block<|ab.cq (fun x:Int=>nn aa x) (fun x aE=>aE=⟨54,[(0,.str aa),(23,I (aa.length:Int)),(24,I x)],[]⟩) h ?_ ?_
   ·exact ai.lq [] J J J
   ·intro n5 z1 aE J1 dN h gH df
    obtain rfl:=dN
    replace h:nn aa n5=some z1:=h
    unfold nn at h
    refine ax<|ae.qv (bG J J) J<|rN<|tS<|cD h J (fun h=>?_) (fun h=>?_)
    ·refine tK<|tS<|ab.block<|ax<|rM J J<|rA J J<|rN<|ax<|rM J J<|rM J J<|au h fun c6 e3 h=>ae.qv (uh J J e3) J<|rA J J<|rN<|tS<|ab.cut (fun aE=>∃ (c7:Bool),uz n5 c7=some z1∧aE=⟨54,[(0,.str aa),(23,I (aa.length:Int)),(24,I n5),(52,.bool c7)],[]⟩) ?_ ?_
     ·refine tR<|rM J J<|ae.qv (tq J J) J<|rM J J<|ae.cN J J J (fun hc=>?_) (fun hc=>?_)
      ·rw [if_pos hc] at h
       refine rM J J<|rY J J J<|ae.qv (r8 J J) J<|rT J J J<|rM J J<|ae.fC J J J (fun hc=>?_) (fun hc=>?_)
       ·rw [if_neg hc] at h
        refine rM J J<|rY J J J<|ae.qv (tq J J) J<|rY J J J<|rM J J<|ae.cN J J J (fun hc=>?_) (fun hc=>?_)
        ·rw [if_pos hc] at h
         refine rM J J<|rY J J J<|ae.qv (r8 J J) J<|rY J J J<|rT J J J<|rE J J J<|rM J J<|ae.fC J J J (fun hc=>?_) (fun hc=>?_)
         ·rw [if_neg hc] at h
          refine rM J J<|rY J J J<|ae.qv (cL J J) J<|rE J J J<|rM J J<|ae.fC J J J (fun hc=>?_) (fun hc=>?_)
          ·rw [if_neg hc] at h
           exact rM J J<|rY J J J<|ae.qv (cL J J) J<|rE J J J<|ae.qv (By J) J<|rN<|ab.stop<|ai.lq [] ⟨decide (¬ ((c6.toNat:Int)=(95:Int))),h,J⟩ J J
          ·rw [if_pos hc] at h
           exact rG J J J J<|rT J J J<|ae.qv (bX J) J<|rN<|ab.stop<|ai.lq [] ⟨!true,h,J⟩ J J
         ·rw [if_pos hc] at h
          exact rG J J J J<|rT J J J<|rM J J<|rG J J J J<|rG J J J J<|rT J J J<|ae.qv (bX J) J<|rN<|ab.stop<|ai.lq [] ⟨!true,h,J⟩ J J
        ·rw [if_neg hc] at h
         refine rG J J J J<|rY J J J<|rE J J J<|rE J J J<|rM J J<|rY J J J<|rM J J<|rY J J J<|ae.qv (cL J J) J<|rE J J J<|rM J J<|ae.fC J J J (fun hc=>?_) (fun hc=>?_)
         ·rw [if_neg hc] at h
          exact rM J J<|rY J J J<|ae.qv (cL J J) J<|rE J J J<|ae.qv (By J) J<|rN<|ab.stop<|ai.lq [] ⟨decide (¬ ((c6.toNat:Int)=(95:Int))),h,J⟩ J J
         ·rw [if_pos hc] at h
          exact rG J J J J<|rT J J J<|ae.qv (bX J) J<|rN<|ab.stop<|ai.lq [] ⟨!true,h,J⟩ J J
       ·rw [if_pos hc] at h
        exact rG J J J J<|rG J J J J<|ae.bq J J J<|ae.bq J J J<|rG J J J J<|rT J J J<|rM J J<|rG J J J J<|rG J J J J<|rT J J J<|rM J J<|rG J J J J<|rG J J J J<|rT J J J<|ae.qv (bX J) J<|rN<|ab.stop<|ai.lq [] ⟨!true,h,J⟩ J J
      ·rw [if_neg hc] at h
       refine rG J J J J<|rE J J J<|rM J J<|rY J J J<|rM J J<|rY J J J<|ae.qv (tq J J) J<|rY J J J<|rM J J<|ae.cN J J J (fun hc=>?_) (fun hc=>?_)
       ·rw [if_pos hc] at h
        refine rM J J<|rY J J J<|ae.qv (r8 J J) J<|rY J J J<|rT J J J<|rE J J J<|rM J J<|ae.fC J J J (fun hc=>?_) (fun hc=>?_)
        ·rw [if_neg hc] at h
         refine rM J J<|rY J J J<|ae.qv (cL J J) J<|rE J J J<|rM J J<|ae.fC J J J (fun hc=>?_) (fun hc=>?_)
         ·rw [if_neg hc] at h
          exact rM J J<|rY J J J<|ae.qv (cL J J) J<|rE J J J<|ae.qv (By J) J<|rN<|ab.stop<|ai.lq [] ⟨decide (¬ ((c6.toNat:Int)=(95:Int))),h,J⟩ J J
         ·rw [if_pos hc] at h
          exact rG J J J J<|rT J J J<|ae.qv (bX J) J<|rN<|ab.stop<|ai.lq [] ⟨!true,h,J⟩ J J
        ·rw [if_pos hc] at h
         exact rG J J J J<|rT J J J<|rM J J<|rG J J J J<|rG J J J J<|rT J J J<|ae.qv (bX J) J<|rN<|ab.stop<|ai.lq [] ⟨!true,h,J⟩ J J
       ·rw [if_neg hc] at h
        refine rG J J J J<|rY J J J<|rE J J J<|rE J J J<|rM J J<|rY J J J<|rM J J<|rY J J J<|ae.qv (cL J J) J<|rE J J J<|rM J J<|ae.fC J J J (fun hc=>?_) (fun hc=>?_)
        ·rw [if_neg hc] at h
         exact rM J J<|rY J J J<|ae.qv (cL J J) J<|rE J J J<|ae.qv (By J) J<|rN<|ab.stop<|ai.lq [] ⟨decide (¬ ((c6.toNat:Int)=(95:Int))),h,J⟩ J J
        ·rw [if_pos hc] at h
         exact rG J J J J<|rT J J J<|ae.qv (bX J) J<|rN<|ab.stop<|ai.lq [] ⟨!true,h,J⟩ J J
     ·rintro aE ⟨c7,h,rfl⟩
      unfold uz at h
      refine cB h J (fun h=>?_) (fun h=>?_)
      ·refine ax<|rA J J<|rN<|ab.ret<|have h:=bE h df;?_
       cases h
       exact hP J J
      ·refine tK<|ab.cF<|tR<|ae.qv (bd J J) J<|rM J J<|rN<|ab.stop<|?_
       cases h
       exact gH _ _ J<|ai.lq [] J J J
    ·refine ab.exit J<|have h:=bE h df;ax<|rA J J<|rN<|ab.ret<|?_
     cases h
     exact hP J J
theorem ec [GI:bx] {br:Bk} {aU:Bk} {bS:Bk} {bU:Bk} {bV:Bk} {bW:Bk} {aa:aC} {ah:al} {r:Bool} (h:dm aa ah=some r):aB Tryz.prog 121 [.ptr br 0,.str ah] [(br,.cells (mV aa aU bS bU bV bW)),(aU,eG aa.a8)] (T0 ([(br,.cells (mV aa aU bS bU bV bW)),(aU,eG aa.a8)]) (.bool r)):=by
 unfold dm at h
 refine aB.dS ?_
 refine aB.aS Tryz.func121 J Tryz.ntmps121 Tryz.results121 J J ?_
 refine ax<|rA J J<|rN<|ax<|rM J J<|ae.qv (aY J) J<|rF J J J<|rL J J .p0 J J<|rM J J<|au h fun v1 e1 h=>ae.qv (JG (gk:=AV.str) (gv:=AV.str) (M:=aa.a8) (key:=ah) (Z:=[]) J J .p1 J J J e1 J) J<|rM J J<|rX J J J<|rX J J J<|rA J J<|rA J J<|rN<|ax<|rM J J<|rA J J<|rN<|ab.ret<|?_
 cases h
 exact hH J [0,0] J ⟨J,J⟩
theorem lE [GI:bx] {br:Bk} {aU:Bk} {bS:Bk} {bU:Bk} {bV:Bk} {bW:Bk} {aa:aC} {ah:al} {r:(List al)} (h:fX aa ah=some r):aB Tryz.prog 194 [.ptr br 0,.str ah] [(br,.cells (mV aa aU bS bU bV bW)),(aU,eG aa.a8)] (T1 (fun iM=>[(br,.cells (mV aa aU bS bU bV bW)),(aU,eG aa.a8),(iM,Be r)]) (fun iM=>.sl 1 iM 0 r.length)):=by
 unfold fX at h
 refine aB.dS ?_
 refine aB.aS Tryz.func194 J Tryz.ntmps194 Tryz.results194 J J ?_
 refine ax<|rA J J<|rN<|ax<|rA J J<|rN<|tS<|ab.block<|ab.cq (fun x:al×(List al)=>gJ aa x.1 x.2) (fun x aE=>∃ (b5:Bk),aE=⟨30,[(0,.ptr br 0),(1,.str x.1),(5,.sl 1 b5 0 x.2.length)],[(br,.cells (mV aa aU bS bU bV bW)),(aU,eG aa.a8),(b5,Be x.2)]⟩) h ?_ ?_
 ·exact ai.arr (s:=5) 1 J fun b7=>ai.lq [1,1,0] ⟨b7,J⟩ J J
 ·intro x z1 aE J1 dN h gH df
  obtain ⟨q4,l6⟩:=x
  obtain ⟨b5,rfl⟩:=dN
  replace h:gJ aa q4 l6=some z1:=h
  unfold gJ at h
  refine tS<|tS<|ab.cut (fun aE=>∃ (c8:Bool),iN aa q4 l6 c8=some z1∧aE=⟨30,[(0,.ptr br 0),(1,.str q4),(5,.sl 1 b5 0 l6.length),(18,.bool c8)],[(br,.cells (mV aa aU bS bU bV bW)),(aU,eG aa.a8),(b5,Be l6)]⟩) ?_ ?_
  ·refine tR<|rM J J<|rM J J<|au h fun v9 e1 h=>aK J (ec e1) cR (.cons .p0 (.cons .p0 .nil)) J J<|rM J J<|ae.guard J J J (fun hc=>?_) (fun hc=>?_)
   ·rw [wF hc] at h
    exact rM J J<|rY J J J<|ae.qv (ot J) J<|rY J J J<|rM J J<|rY J J J<|ae.qv (aY J) J<|rY J J J<|rF J J J<|rY J J J<|rL J J .p0 J J<|rY J J J<|ae.qv (JH (gk:=AV.str) (gv:=AV.str) (M:=aa.a8) J .p1) J<|rY J J J<|ae.qv (r8 J J) J<|rT J J J<|rN<|ab.stop<|ai.lq [0,0,0] ⟨decide ((l6.length:Int)≤(aa.a8.length:Int)),h,J⟩ J J
   ·rw [wG hc] at h
    exact rG J J J J<|rG J J J J<|rG J J J J<|rG J J J J<|rG J J J J<|rG J J J J<|rG J J J J<|rE J J J<|rN<|ab.stop<|ai.lq [0,0,0] ⟨false,h,J⟩ J J
  ·rintro aE ⟨c8,h,rfl⟩
   unfold iN at h
   refine cB h J (fun h=>?_) (fun h=>?_)
   ·refine tK<|ab.block<|ax<|rM J J<|rM J J<|aD (xs:=([q4]:List al).map AV.str) J J J J J J<|au h fun l10 e2 h=>dt (g:=AV.str) J J J J J J J J (.list _) e2 (fun _=>.p2) J fun yn=>rA J J<|rN<|tR<|rM J J<|ae.qv (aY J) J<|rF J J J<|rL J J .p0 J J<|rM J J<|au h fun v12 e3 h=>ae.qv (vb (gk:=AV.str) (gv:=AV.str) (M:=aa.a8) (key:=q4) (Z:=[]) J J .p1 J J J e3 J) J<|rA J J<|rN<|ab.cF<|ab.stop<|?_
    cases h
    exact gH _ _ J<|ai.lq [0,0,0] ⟨yn,J⟩ J J
   ·refine ab.exit J<|have h:=bE h df;ax<|rM J J<|rA J J<|rN<|ab.ret<|?_
    cases h
    exact hH J [0,0,0] J ⟨b5,J,J⟩
theorem vl [GI:bx] {br:Bk} {aU:Bk} {bS:Bk} {bU:Bk} {bV:Bk} {bW:Bk} {aa:aC} {r:Int} (h:fA aa=some r):aB Tryz.prog 189 [.ptr br 0] [(br,.cells (mV aa aU bS bU bV bW)),(aU,eG aa.a8)] (T0 ([(br,.cells (mV aa aU bS bU bV bW)),(aU,eG aa.a8)]) (I r)):=by
 unfold fA at h
 refine aB.dS ?_
 refine aB.aS Tryz.func189 J Tryz.ntmps189 Tryz.results189 J J ?_
 refine ax<|rA J J<|rN<|tS<|ax<|rM J J<|ae.qv (aY J) J<|rF J J J<|rF J J J<|rL J J .p0 J J<|ae.qv (bA J) J<|ae.qv (fO J J) J<|rN<|cD h J (fun h=>?_) (fun h=>?_)
 ·refine ax<|rA J J<|rN<|ab.ret<|?_
  cases h
  exact hH J [0,0] J ⟨J,J⟩
 ·refine tK<|tS<|ax<|rM J J<|ae.qv (aY J) J<|rF J J J<|rF J J J<|rL J J .p0 J J<|ae.qv (bA J) J<|rM J J<|rN<|ab.block<|ab.cq (fun x:Int=>fH aa x) (fun x aE=>aE=⟨99,[(0,.ptr br 0),(22,y8 aa.bu.ak),(23,I (aa.bu.ak.length:Int)),(24,I x)],[(br,.cells (mV aa aU bS bU bV bW)),(aU,eG aa.a8)]⟩) h ?_ ?_
  ·exact ai.lq [0,0] J J J
  ·intro n2 z1 aE J1 dN h gH df
   obtain rfl:=dN
   replace h:fH aa n2=some z1:=h
   unfold fH at h
   refine ax<|ae.qv (bG J J) J<|rN<|tS<|cD h J (fun h=>?_) (fun h=>?_)
   ·refine tK<|tS<|ab.block<|ax<|rM J J<|au h fun v3 e1 h=>ae.qv (aO J J J e1 J J) J<|ae.qv (aF J J J) J<|bf J J J J fun b4=>rA J J<|aq J J J J .p0 J J<|rN<|tS<|ax<|rF J J J<|rL J J .p0 J J<|au h fun v5 e2 h=>aG J (lD e2) cR J<|ae.qv (bX J) J<|rN<|cB h J (fun h=>?_) (fun h=>?_)
    ·refine ax<|rA J J<|rN<|ab.ret<|have h:=bE h df;?_
     cases h
     exact hH J [1,1] J ⟨J,J⟩
    ·refine tK<|tS<|ab.cut (fun aE=>∃ (c6:Bool),fD n2 c6=some z1∧aE=⟨99,[(0,.ptr br 0),(22,y8 aa.bu.ak),(23,I (aa.bu.ak.length:Int)),(24,I n2),(49,.bool c6)],[(br,.cells (mV aa aU bS bU bV bW)),(aU,eG aa.a8)]⟩) ?_ ?_
     ·refine ab.cV (id:=8) (A:=[0,1,3,7,15,7,39,103,231,487,7,1031,4071,8167,16359,32767,65535]) 17 mixed J (by kernel_rfl) (by kernel_rfl)<|AM.qv (aQ J) J<|AM.qv (fO J J) J<|AM.qv (aQ J) J<|AM.cN J J J (fun hc=>?_) (fun hc=>?_)
      ·exact have h:=lL hc h;AM.qv (az J J) J<|AM.ar J J J<|AM.qv (aI J J .p0 J) J<|AM.ar J J J<|AM.qv (aQ J) J<|AM.ar J J J<|AM.qv (aY J) J<|AM.ar J J J<|AM.qv (az J J) J<|AM.ar J J J<|AM.qv (az J J) J<|AM.ar J J J<|AM.qv (aI J J .p1 J) J<|AM.ar J J J<|AM.qv (aQ J) J<|AM.ar J J J<|AM.qv (gi J J) J<|AM.ar J J J<|au h fun v7 e3 h=>AM.qv (aO J J J e3 J J) J<|AM.ar J J J<|AM.qv (cU J J) J<|AM.ar J J J<|AM.qv (aJ J J J) J<|AM.ar J J J<|AM.qv (wI J J) J<|AM.qv (kS J J) J<|AM.nil<|rN<|ab.stop<|ai.lq [1,1] ⟨Op.bytesLess v3.Key v7.Key||v3.Key==v7.Key,h,J⟩ J J
      ·exact have h:=zI hc h;AM.ay J J J J<|AM.ay J J J J<|AM.ay J J J J<|AM.ay J J J J<|AM.ay J J J J<|AM.ay J J J J<|AM.ay J J J J<|AM.ay J J J J<|AM.ay J J J J<|AM.ay J J J J<|AM.ay J J J J<|AM.ay J J J J<|AM.qv (kT J J) J<|AM.nil<|rN<|ab.stop<|ai.lq [1,1] ⟨false,h,J⟩ J J
     ·rintro aE ⟨c6,h,rfl⟩
      unfold fD at h
      refine cB h J (fun h=>?_) (fun h=>?_)
      ·refine ax<|rA J J<|rN<|ab.ret<|have h:=bE h df;?_
       cases h
       exact hH J [0,0] J ⟨J,J⟩
      ·refine tK<|ab.cF<|tR<|ae.qv (bd J J) J<|rM J J<|rN<|ab.stop<|?_
       cases h
       exact gH _ _ J<|ai.lq [0,0] J J J
   ·refine ab.exit J<|have h:=bE h df;tS<|ax<|rM J J<|ae.qv (aY J) J<|rF J J J<|rF J J J<|rL J J .p0 J J<|ae.qv (bA J) J<|rM J J<|rN<|ab.block<|ab.cq (fun x:Int=>fG aa x) (fun x aE=>aE=⟨99,[(0,.ptr br 0),(55,y8 aa.bu.ak),(56,I (aa.bu.ak.length:Int)),(57,I x)],[(br,.cells (mV aa aU bS bU bV bW)),(aU,eG aa.a8)]⟩) h ?_ ?_
    ·exact ai.lq [0,0] J J J
    ·intro n9 z2 aE J2 dN h Dt zv
     obtain rfl:=dN
     replace h:fG aa n9=some z2:=h
     unfold fG at h
     refine ax<|ae.qv (bG J J) J<|rN<|tS<|cD h J (fun h=>?_) (fun h=>?_)
     ·refine tK<|tS<|ab.block<|ax<|au h fun v10 e4 h=>ae.qv (aO J J J e4 J J) J<|ae.qv (aF J J J) J<|bf J J J J fun yn=>aq J J J J .p0 J J<|rN<|tS<|ab.cut (fun aE=>∃ (c12:Bool),fE n9 c12=some z2∧aE=⟨99,[(0,.ptr br 0),(55,y8 aa.bu.ak),(56,I (aa.bu.ak.length:Int)),(57,I n9),(70,.bool c12)],[(br,.cells (mV aa aU bS bU bV bW)),(aU,eG aa.a8)]⟩) ?_ ?_
      ·refine tR<|rF J J J<|rL J J .p0 J J<|ae.qv (tt J J) J<|rM J J<|gT h J J J (fun h=>?_) (fun h=>?_)
       ·exact rM J J<|rY J J J<|rF J J J<|rY J J J<|rL J J .p0 J J<|rY J J J<|au h fun oh e5 h=>aK J (ec e5) cR (.cons .p1 (.cons .p1 .nil)) J J<|rY J J J<|ae.qv (bX J) J<|rT J J J<|rN<|ab.stop<|ai.lq [0,0] ⟨!oh,h,J⟩ J J
       ·exact rG J J J J<|rG J J J J<|rG J J J J<|rG J J J J<|rE J J J<|rN<|ab.stop<|ai.lq [1,1] ⟨false,h,J⟩ J J
      ·rintro aE ⟨c12,h,rfl⟩
       unfold fE at h
       refine cB h J (fun h=>?_) (fun h=>?_)
       ·refine ax<|rA J J<|rN<|ab.ret<|have h:=bE h zv;?_
        cases h
        exact hH J [0,0] J ⟨J,J⟩
       ·refine tK<|ab.cF<|tR<|ae.qv (bd J J) J<|rM J J<|rN<|ab.stop<|?_
        cases h
        exact Dt _ _ J<|ai.lq [0,0] J J J
     ·refine ab.exit J<|have h:=bE h zv;ax<|rA J J<|rN<|tS<|ax<|rM J J<|ae.qv (aY J) J<|rF J J J<|rF J J J<|rL J J .p0 J J<|ae.qv (bA J) J<|rM J J<|rN<|ab.block<|ab.cq (fun x:Bool×Int=>dW aa x.1 x.2) (fun x aE=>aE=⟨99,[(0,.ptr br 0),(7,.bool x.1),(76,y8 aa.bu.ak),(77,I (aa.bu.ak.length:Int)),(78,I x.2)],[(br,.cells (mV aa aU bS bU bV bW)),(aU,eG aa.a8)]⟩) h ?_ ?_
      ·exact ai.lq [0,0] J J J
      ·intro x z3 aE J3 dN h Om Mj
       obtain ⟨Dn,n17⟩:=x
       obtain rfl:=dN
       replace h:dW aa Dn n17=some z3:=h
       unfold dW at h
       refine ax<|ae.qv (bG J J) J<|rN<|tS<|cD h J (fun h=>?_) (fun h=>?_)
       ·refine tK<|tS<|ab.block<|ax<|au h fun uO e6 h=>ae.qv (aO J J J e6 J J) J<|ae.qv (aF J J J) J<|bf J J J J fun QP=>aq J J J J .p0 J J<|rN<|ax<|rM J J<|rF J J J<|rL J J .p0 J J<|au h fun v20 e7 h=>de J (lE e7) cR (.cons .p1 (.cons .p1 .nil)) (fun _=>J) J fun Vq=>rA J J<|rN<|tS<|tS<|ab.cV (id:=22) (A:=[0,1,0,4,15]) 5 mixed J (by kernel_rfl) (by kernel_rfl)<|AM.qv (aQ J) J<|au h fun l22 e8 h=>AM.qv (tz J J (.some _ _ _ J) .none J J e8) J<|AM.qv (az J J) J<|AM.qv (aI J J .p3 J) J<|au h fun v23 e9 h=>AM.Hr J (bt e9) (.cons (qO.Pn e8 .p2) (.cons (.co (.refl _)) .nil)) J J<|AM.nil<|rN<|cB h J (fun h=>?_) (fun h=>?_)
        ·refine ax<|rA J J<|rN<|ab.ret<|have h:=bE h Mj;?_
         cases h
         exact hH J [0,0] J ⟨J,J⟩
        ·refine tK<|ab.cut (fun aE=>∃ (c24:Bool),ia n17 c24=some z3∧aE=⟨99,[(0,.ptr br 0),(7,.bool c24),(76,y8 aa.bu.ak),(77,I (aa.bu.ak.length:Int)),(78,I n17)],[(br,.cells (mV aa aU bS bU bV bW)),(aU,eG aa.a8)]⟩) ?_ ?_
         ·refine tR<|rM J J<|rM J J<|ae.guard J J J (fun hc=>?_) (fun hc=>?_)
          ·rw [Ll hc] at h
           exact rM J J<|rY J J J<|ae.qv (ot J) J<|rY J J J<|ae.qv (fO J J) J<|rE J J J<|rA J J<|rN<|ab.stop<|ai.lq [0,0] ⟨decide ((11:Int) < (v20.length:Int)),h,J⟩ J J
          ·rw [Lk hc] at h
           exact rG J J J J<|rG J J J J<|rT J J J<|rA J J<|rN<|ab.stop<|ai.lq [0,0] ⟨true,h,J⟩ J J
         ·rintro aE ⟨c24,h,rfl⟩
          unfold ia at h
          refine ab.cF<|tR<|ae.qv (bd J J) J<|rM J J<|rN<|ab.stop<|?_
          cases h
          exact Om _ _ J<|ai.lq [0,0] J J J
       ·refine ab.exit J<|have h:=bE h Mj;?_
        unfold kI at h
        refine tS<|ax<|rM J J<|rN<|cB h J (fun h=>?_) (fun h=>?_)
        ·refine ax<|rA J J<|rN<|ab.ret<|?_
         cases h
         exact hH J [0,0] J ⟨J,J⟩
        ·refine tK<|ax<|rA J J<|rN<|ab.ret<|?_
         cases h
         exact hH J [0,0] J ⟨J,J⟩
theorem qJ [GI:bx] {aa:al} {ah:al} {r:Bool} (h:dD aa ah=some r):Pu Tryz.prog 340 [.str aa,.str ah] (.bool r):=by
 unfold dD at h
 refine aB.aS Tryz.func340 J Tryz.ntmps340 Tryz.results340 J J ?_
 refine ax<|rA J J<|rN<|tS<|ab.cut (fun aE=>∃ (c1:Bool),dc c1=some r∧aE=⟨21,[(4,.bool c1)],[]⟩) ?_ ?_
 ·refine tR<|rM J J<|ae.qv (fS J) J<|rM J J<|ae.qv (fS J) J<|ae.qv (tq J J) J<|rM J J<|gT h J J J (fun h=>?_) (fun h=>?_)
  ·exact rM J J<|rY J J J<|rM J J<|rY J J J<|ae.qv (fS J) J<|rY J J J<|rM J J<|rY J J J<|ae.qv (fS J) J<|rY J J J<|ae.qv (gi J J) J<|rY J J J<|au h fun l2 e1 h=>ae.qv (uj J (.some _ _ _ J) .none J J e1) J<|rY J J J<|rM J J<|rY J J J<|ae.qv (iz J J) J<|rT J J J<|rA J J<|rN<|ab.stop<|ai.lq [] ⟨decide (l2=ah),h,J⟩ J J
  ·exact rG J J J J<|rG J J J J<|rG J J J J<|rG J J J J<|rG J J J J<|rG J J J J<|rG J J J J<|rG J J J J<|rE J J J<|rA J J<|rN<|ab.stop<|ai.lq [] ⟨false,h,J⟩ J J
 ·rintro aE ⟨c1,h,rfl⟩
  unfold dc at h
  refine ab.ret<|?_
  cases h
  exact hP J J
theorem qK [GI:bx] {aa:al} {ah:al} {r:al×Bool} (h:fh aa ah=some r):Pu Tryz.prog 312 [.str aa,.str ah] (.om [.str r.1,.bool r.2]):=by
 unfold fh at h
 refine aB.aS Tryz.func312 J Tryz.ntmps312 Tryz.results312 J J ?_
 refine ax<|rA J J<|rA J J<|rN<|tS<|ax<|rM J J<|rM J J<|au h fun v1 e1 h=>aG J (qJ e1) cR J<|ae.qv (bX J) J<|rN<|cB h J (fun h=>?_) (fun h=>?_)
 ·refine ax<|rM J J<|rA J J<|rA J J<|rN<|ab.ret<|?_
  cases h
  exact hQ J J J
 ·refine tK<|ax<|rM J J<|rM J J<|ae.qv (fS J) J<|rM J J<|ae.qv (fS J) J<|ae.qv (gi J J) J<|au h fun l2 e2 h=>ae.qv (uj J .none (.some _ _ _ J) J J e2) J<|rA J J<|rA J J<|rN<|ab.ret<|?_
  cases h
  exact hQ J J J
theorem oe [GI:bx] {aa:al} {ah:al} {r:al×Bool} (h:strings_CutSuffix aa ah=some r):Pu Tryz.prog 263 [.str aa,.str ah] (.om [.str r.1,.bool r.2]):=by
 unfold strings_CutSuffix at h
 refine aB.aS Tryz.func263 J Tryz.ntmps263 Tryz.results263 J J ?_
 refine ax<|rA J J<|rA J J<|rN<|ax<|rM J J<|rM J J<|au h fun v1 e1 h=>aG J (qK e1) cR J<|rX J J J<|rX J J J<|rA J J<|rA J J<|rN<|ab.ret<|?_
 cases h
 exact hQ J J J
theorem uS {aa:al} {ah:Int} {r:Bool} (h:lp aa ah=some r):Pu Tryz.prog 265 [.str aa,I ah] (.bool r):=by
 unfold lp at h
 refine aB.aS Tryz.func265 J Tryz.ntmps265 Tryz.results265 J J ?_
 refine ax<|rA J J<|rN<|tS<|ax<|rA J J<|rN<|ab.block<|ab.cq (fun x:al×Int=>iu ah x.1 x.2) (fun x aE=>aE=⟨26,[(0,.str x.1),(1,I ah),(5,I x.2)],[]⟩) h ?_ ?_
 ·exact ai.lq [] J J J
 ·intro x z1 aE J1 dN h gH df
  obtain ⟨q3,n4⟩:=x
  obtain rfl:=dN
  replace h:iu ah q3 n4=some z1:=h
  unfold iu at h
  refine tS<|ax<|rM J J<|rM J J<|ae.qv (bG J J) J<|rN<|cD h J (fun h=>?_) (fun h=>?_)
  ·refine tK<|tS<|ab.block<|ax<|rM J J<|au h fun v5 e1 h=>aG J (Dj e1) cR J<|rM J J<|rX J J J<|rX J J J<|rX J J J<|rA J J<|rA J J<|rA J J<|rN<|tS<|ax<|rM J J<|au h fun v6 e2 h=>aG J (lD e2) cR J<|ae.qv (bX J) J<|rN<|cB h J (fun h=>?_) (fun h=>?_)
   ·refine ax<|rA J J<|rN<|ab.ret<|have h:=bE h df;?_
    cases h
    exact hP J J
   ·refine tK<|tS<|ax<|rM J J<|ae.qv (bX J) J<|rN<|cB h J (fun h=>?_) (fun h=>?_)
    ·refine ax<|rA J J<|rN<|ab.ret<|have h:=bE h df;?_
     cases h
     exact hP J J
    ·refine tK<|tR<|rM J J<|rA J J<|rN<|ab.cF<|tR<|rM J J<|ae.qv (bd J J) J<|rA J J<|rN<|ab.stop<|?_
     cases h
     exact gH _ _ J<|ai.lq [] J J J
  ·refine ab.exit J<|have h:=bE h df;ax<|rA J J<|rN<|ab.ret<|?_
   cases h
   exact hP J J
theorem zZ {aa:al} {r:Bool} (h:nq aa=some r):Pu Tryz.prog 264 [.str aa] (.bool r):=by
 unfold nq at h
 refine aB.aS Tryz.func264 J Tryz.ntmps264 Tryz.results264 J J ?_
 refine ax<|rA J J<|rN<|ax<|rM J J<|au h fun v1 e1 h=>aG J (uS e1) cR J<|rA J J<|rN<|ab.ret<|?_
 cases h
 exact hP J J
theorem w7 {aa:al} {r:Bool} (h:nT aa=some r):Pu Tryz.prog 204 [.str aa] (.bool r):=by
 unfold nT at h
 refine aB.aS Tryz.func204 J Tryz.ntmps204 Tryz.results204 J J ?_
 refine ax<|rA J J<|rN<|ax<|rM J J<|au h fun v1 e1 h=>aG J (oe e1) cR J<|rM J J<|rX J J J<|rX J J J<|rA J J<|rA J J<|rN<|tS<|ab.block<|ax<|rM J J<|ae.qv (bX J) J<|rA J J<|rN<|cB h J (fun h=>?_) (fun h=>?_)
 ·refine ax<|rM J J<|au h fun v2 e2 h=>aG J (zZ e2) cR J<|rA J J<|rN<|ab.ret<|?_
  cases h
  exact hP J J
 ·refine ax<|rM J J<|ae.qv (iz J J) J<|rA J J<|rN<|cD h J (fun h=>?_) (fun h=>?_)
  ·refine ax<|rA J J<|rN<|ab.ret<|?_
   cases h
   exact hP J J
  ·refine tK<|ab.cF<|ax<|rM J J<|au h fun v3 e3 h=>aG J (oe e3) cR J<|rM J J<|rX J J J<|rX J J J<|rA J J<|rA J J<|rN<|tS<|ab.cut (fun aE=>∃ (c4:Bool),lV c4=some r∧aE=⟨29,[(2,.bool c4)],[]⟩) ?_ ?_
   ·refine tR<|rM J J<|rM J J<|ae.guard J J J (fun hc=>?_) (fun hc=>?_)
    ·exact have h:=lL hc h;rM J J<|rY J J J<|au h fun v5 e4 h=>aG J (uS e4) cR J<|rT J J J<|rA J J<|rN<|ab.stop<|ai.lq [] ⟨v5,h,J⟩ J J
    ·exact have h:=lM hc h;rG J J J J<|rE J J J<|rA J J<|rN<|ab.stop<|ai.lq [] ⟨false,h,J⟩ J J
   ·rintro aE ⟨c4,h,rfl⟩
    unfold lV at h
    refine ab.ret<|?_
    cases h
    exact hP J J
theorem tU {aa:List al} {r:Int} (h:jh aa=some r):Pu Tryz.prog 255 [mU aa] (I r):=by
 unfold jh at h
 refine aB.aS Tryz.func255 J Tryz.ntmps255 Tryz.results255 J J ?_
 refine ax<|rA J J<|rN<|tS<|ab.block<|ax<|rM J J<|ae.qv (bA J) J<|ae.qv (cL J J) J<|rA J J<|rN<|cD h J (fun h=>?_) (fun h=>?_)
 ·refine ax<|rA J J<|rN<|ab.ret<|?_
  cases h
  exact hP J J
 ·refine ax<|rM J J<|ae.qv (bA J) J<|ae.qv (fO J J) J<|rA J J<|rN<|cD h J (fun h=>?_) (fun h=>?_)
  ·refine ax<|rA J J<|rN<|ab.ret<|?_
   cases h
   exact hP J J
  ·refine tK<|ab.cF<|tS<|ax<|rM J J<|ae.qv (bA J) J<|rM J J<|rN<|ab.block<|ab.cq (fun x:Int=>gK aa x) (fun x aE=>aE=⟨35,[(0,mU aa),(13,mU aa),(14,I (aa.length:Int)),(15,I x)],[]⟩) h ?_ ?_
   ·exact ai.lq [] J J J
   ·intro n2 z1 aE J1 dN h gH df
    obtain rfl:=dN
    replace h:gK aa n2=some z1:=h
    unfold gK at h
    refine ax<|ae.qv (bG J J) J<|rN<|tS<|cD h J (fun h=>?_) (fun h=>?_)
    ·refine tK<|tS<|ab.block<|ax<|rM J J<|au h fun v3 e1 h=>ae.qv (aO J J J e1 J J) J<|ae.qv (aJ J J J) J<|rA J J<|rA J J<|rN<|tS<|ax<|rM J J<|au h fun v4 e2 h=>aG J (w7 e2) cR J<|ae.qv (bX J) J<|rN<|cB h J (fun h=>?_) (fun h=>?_)
     ·refine ax<|rA J J<|rN<|ab.ret<|have h:=bE h df;?_
      cases h
      exact hP J J
     ·refine tK<|tS<|ab.cut (fun aE=>∃ (c5:Bool),iP n2 c5=some z1∧aE=⟨35,[(0,mU aa),(13,mU aa),(14,I (aa.length:Int)),(15,I n2),(33,.bool c5)],[]⟩) ?_ ?_
      ·refine tR<|rM J J<|ae.qv (fO J J) J<|rM J J<|gT h J J J (fun h=>?_) (fun h=>?_)
       ·exact rM J J<|rY J J J<|rM J J<|rY J J J<|rM J J<|rY J J J<|ae.qv (gi J J) J<|rY J J J<|au h fun v6 e3 h=>ae.qv (aO J J J e3 J J) J<|rY J J J<|ae.qv (aJ J J J) J<|rY J J J<|ae.qv (wI J J) J<|rT J J J<|rN<|ab.stop<|ai.lq [] ⟨Op.bytesLess v3 v6||v3==v6,h,J⟩ J J
       ·exact rG J J J J<|rG J J J J<|rG J J J J<|rG J J J J<|rG J J J J<|rG J J J J<|rE J J J<|rN<|ab.stop<|ai.lq [] ⟨false,h,J⟩ J J
      ·rintro aE ⟨c5,h,rfl⟩
       unfold iP at h
       refine cB h J (fun h=>?_) (fun h=>?_)
       ·refine ax<|rA J J<|rN<|ab.ret<|have h:=bE h df;?_
        cases h
        exact hP J J
       ·refine tK<|ab.cF<|tR<|ae.qv (bd J J) J<|rM J J<|rN<|ab.stop<|?_
        cases h
        exact gH _ _ J<|ai.lq [] J J J
    ·refine ab.exit J<|have h:=bE h df;ax<|rA J J<|rN<|ab.ret<|?_
     cases h
     exact hP J J
theorem uT {br:Bk} {aU:Bk} {bS:Bk} {bU:Bk} {bV:Bk} {bW:Bk} {aa:aC} {r:Int} (h:gA aa=some r):aB Tryz.prog 190 [.ptr br 0] [(br,.cells (mV aa aU bS bU bV bW))] (T0 ([(br,.cells (mV aa aU bS bU bV bW))]) (I r)):=by
 unfold gA at h
 refine aB.dS ?_
 refine aB.aS Tryz.func190 J Tryz.ntmps190 Tryz.results190 J J ?_
 refine ax<|rA J J<|rN<|tS<|ax<|rM J J<|ae.qv (aY J) J<|rF J J J<|rF J J J<|rL J J .p0 J J<|ae.qv (bA J) J<|ae.qv (fO J J) J<|rN<|cD h J (fun h=>?_) (fun h=>?_)
 ·refine ax<|rA J J<|rN<|ab.ret<|?_
  cases h
  exact hH J [0] J ⟨J,J⟩
 ·refine tK<|tS<|ax<|rM J J<|ae.qv (aY J) J<|rF J J J<|rF J J J<|rL J J .p0 J J<|ae.qv (bA J) J<|rM J J<|rN<|ab.block<|ab.cq (fun x:Int=>cy aa x) (fun x aE=>aE=⟨52,[(0,.ptr br 0),(17,C3 aa.bu.ba),(18,I (aa.bu.ba.length:Int)),(19,I x)],[(br,.cells (mV aa aU bS bU bV bW))]⟩) h ?_ ?_
  ·exact ai.lq [0] J J J
  ·intro n2 z1 aE J1 dN h gH df
   obtain rfl:=dN
   replace h:cy aa n2=some z1:=h
   unfold cy at h
   refine ax<|ae.qv (bG J J) J<|rN<|tS<|cD h J (fun h=>?_) (fun h=>?_)
   ·refine tK<|tS<|ab.block<|ax<|rM J J<|au h fun v3 e1 h=>ae.qv (aO J J J e1 J J) J<|ae.qv (aF J J J) J<|bf J J J J fun b4=>rA J J<|aq J J J J .p0 J J<|rN<|tS<|ax<|rF J J J<|rL J J .p0 J J<|au h fun v5 e2 h=>aG J (lD e2) cR J<|ae.qv (bX J) J<|rN<|cB h J (fun h=>?_) (fun h=>?_)
    ·refine ax<|rA J J<|rN<|ab.ret<|have h:=bE h df;?_
     cases h
     exact hH J [1] J ⟨J,J⟩
    ·refine tK<|tS<|tS<|ab.cut (fun aE=>∃ (c6:Bool),dM n2 v3 c6=some z1∧aE=⟨52,[(0,.ptr br 0),(4,.ptr b4 0),(17,C3 aa.bu.ba),(18,I (aa.bu.ba.length:Int)),(19,I n2),(44,.bool c6)],[(br,.cells (mV aa aU bS bU bV bW)),(b4,.cells [.str v3.Key,mU v3.mR])]⟩) ?_ ?_
     ·refine ab.cV (id:=8) (A:=[0,1,3,7,15,7,39,103,231,487,7,1031,4071,8167,16359,32767,65535]) 17 mixed J (by kernel_rfl) (by kernel_rfl)<|AM.qv (aQ J) J<|AM.qv (fO J J) J<|AM.qv (aQ J) J<|AM.cN J J J (fun hc=>?_) (fun hc=>?_)
      ·exact have h:=lL hc h;AM.qv (az J J) J<|AM.ar J J J<|AM.qv (aI J J .p0 J) J<|AM.ar J J J<|AM.qv (aQ J) J<|AM.ar J J J<|AM.qv (aY J) J<|AM.ar J J J<|AM.qv (az J J) J<|AM.ar J J J<|AM.qv (az J J) J<|AM.ar J J J<|AM.qv (aI J J .p1 J) J<|AM.ar J J J<|AM.qv (aQ J) J<|AM.ar J J J<|AM.qv (gi J J) J<|AM.ar J J J<|au h fun v7 e3 h=>AM.qv (aO J J J e3 J J) J<|AM.ar J J J<|AM.qv (cU J J) J<|AM.ar J J J<|AM.qv (aJ J J J) J<|AM.ar J J J<|AM.qv (wI J J) J<|AM.qv (kS J J) J<|AM.nil<|rN<|ab.stop<|ai.lq [1,0] ⟨Op.bytesLess v3.Key v7.Key||v3.Key==v7.Key,h,J⟩ J J
      ·exact have h:=zI hc h;AM.ay J J J J<|AM.ay J J J J<|AM.ay J J J J<|AM.ay J J J J<|AM.ay J J J J<|AM.ay J J J J<|AM.ay J J J J<|AM.ay J J J J<|AM.ay J J J J<|AM.ay J J J J<|AM.ay J J J J<|AM.ay J J J J<|AM.qv (kT J J) J<|AM.nil<|rN<|ab.stop<|ai.lq [1,0] ⟨false,h,J⟩ J J
     ·rintro aE ⟨c6,h,rfl⟩
      unfold dM at h
      refine cB h J (fun h=>?_) (fun h=>?_)
      ·refine ax<|rA J J<|rN<|ab.ret<|have h:=bE h df;?_
       cases h
       exact hH J [0] J ⟨J,J⟩
      ·refine tK<|ax<|rF J J J<|rL J J .p1 J J<|au h fun v8 e4 h=>aG J (tU e4) cR J<|rA J J<|rN<|ax<|rM J J<|ae.qv (cG J J) J<|rN<|cD h J (fun h=>?_) (fun h=>?_)
       ·refine ax<|rM J J<|rA J J<|rN<|ab.ret<|have h:=bE h df;?_
        cases h
        exact hH J [0] J ⟨J,J⟩
       ·refine tK<|ab.cF<|tR<|ae.qv (bd J J) J<|rM J J<|rN<|ab.stop<|?_
        cases h
        exact gH _ _ J<|ai.lq [0] J J J
   ·refine ab.exit J<|have h:=bE h df;ax<|rA J J<|rN<|ab.ret<|?_
    cases h
    exact hH J [0] J ⟨J,J⟩
theorem zc [GI:bx] {aa:bj} {ah:bj} {r:Int} (h:lW aa ah=some r):Pu Tryz.prog 256 [bj.av aa,bj.av ah] (I r):=by
 unfold lW at h
 refine aB.aS Tryz.func256 J Tryz.ntmps256 Tryz.results256 J J ?_
 refine ax<|cm J J J J fun b1=>cm J J J J fun b2=>rA J J<|rN<|tS<|ab.cV (id:=1) (A:=[0,1,0,4,15,0,32,0,128,511,0,1024,0,4096,16383,32767,65535,131071]) 18 mixed J (by kernel_rfl) (by kernel_rfl)<|AM.qv (az J J) J<|AM.qv (aI J J .p1 J) J<|AM.qv (az J J) J<|AM.qv (aI J J .p0 J) J<|AM.gj J (cM J) cR J<|AM.qv (az J J) J<|AM.qv (aI J J .p1 J) J<|AM.qv (az J J) J<|AM.qv (aI J J .p0 J) J<|AM.gj J (cM J) cR J<|AM.qv (az J J) J<|AM.qv (aI J J .p1 J) J<|AM.qv (az J J) J<|AM.qv (aI J J .p0 J) J<|AM.gj J (cM J) cR J<|AM.bz (xs:=([(Lib.compareBytes aa.vE ah.vE),(Lib.compareBytes aa.an ah.an),(Lib.compareBytes aa.bF ah.bF)]:List Int).map I) J J J J J J<|au h fun v3 e1 h=>AM.gj J (qH e1) cR J<|AM.qv (bI J) J<|AM.nil<|rN<|ab.ret<|?_
 cases h
 exact hP J J
theorem tV [GI:bx] {br:Bk} {aU:Bk} {bS:Bk} {bU:Bk} {bV:Bk} {bW:Bk} {aa:aC} {r:Int} (h:dX aa=some r):aB Tryz.prog 191 [.ptr br 0] [(br,.cells (mV aa aU bS bU bV bW)),(aU,eG aa.a8),(bS,ym aa.qU)] (T0 ([(br,.cells (mV aa aU bS bU bV bW)),(aU,eG aa.a8),(bS,ym aa.qU)]) (I r)):=by
 unfold dX at h
 refine aB.dS ?_
 refine aB.aS Tryz.func191 J Tryz.ntmps191 Tryz.results191 J J ?_
 refine ax<|rA J J<|rN<|tS<|ax<|rM J J<|ae.qv (aY J) J<|rF J J J<|rF J J J<|rL J J .p0 J J<|ae.qv (bA J) J<|ae.qv (fO J J) J<|rN<|cD h J (fun h=>?_) (fun h=>?_)
 ·refine ax<|rA J J<|rN<|ab.ret<|?_
  cases h
  exact hH J [0,0,0] J ⟨J,J⟩
 ·refine tK<|tS<|ax<|rM J J<|ae.qv (aY J) J<|rF J J J<|rF J J J<|rL J J .p0 J J<|ae.qv (bA J) J<|rM J J<|rN<|ab.block<|ab.cq (fun x:Int=>ej aa x) (fun x aE=>aE=⟨68,[(0,.ptr br 0),(18,Dq aa.bu.aL),(19,I (aa.bu.aL.length:Int)),(20,I x)],[(br,.cells (mV aa aU bS bU bV bW)),(aU,eG aa.a8),(bS,ym aa.qU)]⟩) h ?_ ?_
  ·exact ai.lq [0,0,0] J J J
  ·intro n2 z1 aE J1 dN h gH df
   obtain rfl:=dN
   replace h:ej aa n2=some z1:=h
   unfold ej at h
   refine ax<|ae.qv (bG J J) J<|rN<|tS<|cD h J (fun h=>?_) (fun h=>?_)
   ·refine tK<|tS<|ab.block<|ax<|rM J J<|au h fun v3 e1 h=>ae.qv (aO J J J e1 J J) J<|ae.qv (aF J J J) J<|bf J J J J fun b4=>rA J J<|aq J J J J .p0 J J<|rN<|tS<|ab.cV (id:=6) (A:=[0,1,3,7,0,16,63,127,255,255,511,2047]) 12 mixed J (by kernel_rfl) (by kernel_rfl)<|AM.qv (aQ J) J<|AM.qv (aY J) J<|AM.qv (az J J) J<|AM.qv (aI J J .p1 J) J<|AM.qv (az J J) J<|AM.qv (aI J J .p0 J) J<|au h fun v5 e2 h=>AM.qv (HI (gk:=AV.str) (gv:=(Df 1 AV.str)) (M:=aa.qU) (key:=v3.bF) (Z:=[]) J J .p3 J J e2 J) J<|AM.qv (aQ J) J<|AM.qv (uX J J) J<|AM.qv (uX J J) J<|AM.qv (bI J) J<|AM.qv (bI J) J<|AM.nil<|rN<|ab.block<|ax<|rF J J J<|rL J J .p0 J J<|au h fun v6 e3 h=>aG J (lD e3) cR J<|ae.qv (bX J) J<|rA J J<|rN<|cB h J (fun h=>?_) (fun h=>?_)
    ·refine ax<|rA J J<|rN<|ab.ret<|have h:=bE h df;?_
     cases h
     exact hH J [1,1,1] J ⟨J,J⟩
    ·refine tS<|ab.cut (fun aE=>∃ (c7:Bool),cj aa n2 v3 c7=some z1∧aE=⟨68,[(0,.ptr br 0),(3,I n2),(4,.ptr b4 0),(18,Dq aa.bu.aL),(19,I (aa.bu.aL.length:Int)),(20,I n2),(40,.bool c7)],[(br,.cells (mV aa aU bS bU bV bW)),(aU,eG aa.a8),(bS,ym aa.qU),(b4,.cells [.str v3.vE,.str v3.an,.str v3.bF])]⟩) ?_ ?_
     ·refine tR<|rM J J<|rF J J J<|rL J J .p0 J J<|au h fun v8 e4 h=>aK J (ec e4) cR (.cons .p1 (.cons .p1 .nil)) J J<|ae.qv (bX J) J<|rM J J<|ae.guard J J J (fun hc=>?_) (fun hc=>?_)
      ·rw [Ll hc] at h
       exact rM J J<|rY J J J<|ae.qv (bX J) J<|rE J J J<|rA J J<|rN<|ab.stop<|ai.lq [0,0,1,0] ⟨!v5.2,h,J⟩ J J
      ·rw [Lk hc] at h
       exact rG J J J J<|rT J J J<|rA J J<|rN<|ab.stop<|ai.lq [0,0,1,0] ⟨true,h,J⟩ J J
     ·rintro aE ⟨c7,h,rfl⟩
      unfold cj at h
      refine cB h J (fun h=>?_) (fun h=>?_)
      ·refine ax<|rA J J<|rN<|ab.ret<|have h:=bE h df;?_
       cases h
       exact hH J [0,0,0] J ⟨J,J⟩
      ·refine tS<|ab.cut (fun aE=>∃ (c9:Bool),ch n2 c9=some z1∧aE=⟨68,[(0,.ptr br 0),(18,Dq aa.bu.aL),(19,I (aa.bu.aL.length:Int)),(20,I n2),(50,.bool c9)],[(br,.cells (mV aa aU bS bU bV bW)),(aU,eG aa.a8),(bS,ym aa.qU)]⟩) ?_ ?_
       ·refine ab.cV (id:=11) (A:=[0,1,3,7,7,23,55,119,247,7,519,2039,4087,8191,16383,32767,65535]) 17 mixed J (by kernel_rfl) (by kernel_rfl)<|AM.qv (aQ J) J<|AM.qv (fO J J) J<|AM.qv (aQ J) J<|AM.cN J J J (fun hc=>?_) (fun hc=>?_)
        ·exact have h:=lL hc h;AM.qv (ao J J .p3 J) J<|AM.ar J J J<|AM.qv (aQ J) J<|AM.ar J J J<|AM.qv (aY J) J<|AM.ar J J J<|AM.qv (az J J) J<|AM.ar J J J<|AM.qv (az J J) J<|AM.ar J J J<|AM.qv (aI J J .p0 J) J<|AM.ar J J J<|AM.qv (aQ J) J<|AM.ar J J J<|AM.qv (gi J J) J<|AM.ar J J J<|au h fun v10 e5 h=>AM.qv (aO J J J e5 J J) J<|AM.ar J J J<|AM.qv (aF J J J) J<|AM.ar J J J<|au h fun v11 e6 h=>AM.gj J (zc e6) cR J<|AM.ar J J J<|AM.qv (r8 J J) J<|AM.qv (kS J J) J<|AM.qv (bI J) J<|AM.nil<|rN<|ab.stop<|ai.lq [0,0,0] ⟨decide (v11≤(0:Int)),h,J⟩ J J
        ·exact have h:=zI hc h;AM.ay J J J J<|AM.ay J J J J<|AM.ay J J J J<|AM.ay J J J J<|AM.ay J J J J<|AM.ay J J J J<|AM.ay J J J J<|AM.ay J J J J<|AM.ay J J J J<|AM.ay J J J J<|AM.ay J J J J<|AM.qv (kT J J) J<|AM.qv (bI J) J<|AM.nil<|rN<|ab.stop<|ai.lq [0,0,0] ⟨false,h,J⟩ J J
       ·rintro aE ⟨c9,h,rfl⟩
        unfold ch at h
        refine cB h J (fun h=>?_) (fun h=>?_)
        ·refine ax<|rA J J<|rN<|ab.ret<|have h:=bE h df;?_
         cases h
         exact hH J [0,0,0] J ⟨J,J⟩
        ·refine tK<|ab.cF<|ab.cF<|tR<|ae.qv (bd J J) J<|rM J J<|rN<|ab.stop<|?_
         cases h
         exact gH _ _ J<|ai.lq [0,0,0] J J J
   ·refine ab.exit J<|have h:=bE h df;ax<|rA J J<|rN<|ab.ret<|?_
    cases h
    exact hH J [0,0,0] J ⟨J,J⟩
theorem qX [GI:bx] {br:Bk} {aU:Bk} {bS:Bk} {bU:Bk} {bV:Bk} {bW:Bk} {aa:aC} {ah:al} {bc:al} {r:Bool} (h:gL aa ah bc=some r):aB Tryz.prog 257 [.ptr br 0,.str ah,.str bc] [(br,.cells (mV aa aU bS bU bV bW)),(aU,eG aa.a8)] (T0 ([(br,.cells (mV aa aU bS bU bV bW)),(aU,eG aa.a8)]) (.bool r)):=by
 unfold gL at h
 refine aB.dS ?_
 refine aB.aS Tryz.func257 J Tryz.ntmps257 Tryz.results257 J J ?_
 refine ax<|rA J J<|rN<|tS<|ab.cut (fun aE=>∃ (c1:Bool),gB c1=some r∧aE=⟨17,[(6,.bool c1)],[(br,.cells (mV aa aU bS bU bV bW)),(aU,eG aa.a8)]⟩) ?_ ?_
 ·refine tR<|rM J J<|rM J J<|ae.qv (tt J J) J<|rM J J<|gT h J J J (fun h=>?_) (fun h=>?_)
  ·exact rM J J<|rY J J J<|rM J J<|rY J J J<|au h fun v2 e1 h=>de J (lE e1) cR (.cons .p0 (.cons .p0 .nil)) (fun _=>J) J fun b3=>rY J J J<|rM J J<|rY J J J<|au h fun v4 e2 h=>cO J (bt e2) (.cons (qO.nL .p2) (.cons (.co (.refl _)) .nil)) J J<|rT J J J<|rA J J<|rN<|ab.stop<|ai.lq [0,0] ⟨v4,h,J⟩ J J
  ·exact rG J J J J<|rG J J J J<|rG J J J J<|rG J J J J<|rE J J J<|rA J J<|rN<|ab.stop<|ai.lq [0,0] ⟨false,h,J⟩ J J
 ·rintro aE ⟨c1,h,rfl⟩
  unfold gB at h
  refine ab.ret<|?_
  cases h
  exact hH J [0,0] J ⟨J,J⟩
theorem zd [GI:bx] {self:Query→Option (Int×Int)} (pn:∀ {aa:Query} {r:Int×Int},self aa=some r→Pu Tryz.prog 310 [.agg [I aa.Kind,.str aa.Field,.str aa.Op,I aa.Value.Kind,.bool aa.Value.cf,I aa.Value.Number,.str aa.Value.Words,I aa.Version.bQ,I aa.Version.bR,I aa.Version.bN,lr aa.Kids]] (.om [I r.1,I r.2])) {aa:Query} {r:Int×Int} (h:lY self aa=some r):Pu Tryz.prog 310 [.agg [I aa.Kind,.str aa.Field,.str aa.Op,I aa.Value.Kind,.bool aa.Value.cf,I aa.Value.Number,.str aa.Value.Words,I aa.Version.bQ,I aa.Version.bR,I aa.Version.bN,lr aa.Kids]] (.om [I r.1,I r.2]):=by
 unfold lY at h
 refine aB.aS Tryz.func310 J Tryz.ntmps310 Tryz.results310 J J ?_
 refine ax<|cm J J J J fun b1=>rA J J<|rA J J<|rN<|tS<|tS<|ab.cut (fun aE=>∃ (c2:Bool),o7 self aa c2=some r∧aE=⟨38,[(1,.ptr b1 0),(2,I (0:Int)),(3,I (0:Int)),(15,.bool c2)],[(b1,.cells (wX aa))]⟩) ?_ ?_
 ·refine tR<|rF J J J<|rL J J .p0 J J<|ae.qv (cL J J) J<|rM J J<|ae.fC J J J (fun hc=>?_) (fun hc=>?_)
  ·rw [zK hc] at h
   exact rF J J J<|rY J J J<|rL J J .p0 J J<|rY J J J<|ae.qv (cL J J) J<|rE J J J<|rN<|ab.stop<|ai.lq [0] ⟨decide (aa.Kind=(2:Int)),h,J⟩ J J
  ·rw [zJ hc] at h
   exact rG J J J J<|rG J J J J<|rT J J J<|rN<|ab.stop<|ai.lq [0] ⟨true,h,J⟩ J J
 ·rintro aE ⟨c2,h,rfl⟩
  unfold o7 at h
  refine ab.cut (fun aE=>∃ (n3:Int),lX self aa n3=some r∧aE=⟨38,[(1,.ptr b1 0),(2,I n3),(3,I (0:Int))],[(b1,.cells (wX aa))]⟩) ?_ ?_
  ·refine cB h J (fun h=>?_) (fun h=>?_)
   ·exact tR<|rA J J<|rN<|ab.stop<|ai.lq [0] ⟨(1:Int),h,J⟩ J J
   ·exact tK<|ab.stop<|ai.lq [0] ⟨(0:Int),h,J⟩ J J
  ·rintro aE ⟨n3,h,rfl⟩
   unfold lX at h
   refine tS<|ax<|rF J J J<|rL J J .p0 J J<|ae.qv (bA J) J<|rM J J<|rN<|ab.block<|ab.cq (fun x:Int×Int×Int=>fL self aa x.1 x.2.1 x.2.2) (fun x aE=>aE=⟨38,[(2,I x.1),(3,I x.2.1),(17,lr aa.Kids),(18,I (aa.Kids.length:Int)),(19,I x.2.2)],[]⟩) h ?_ ?_
   ·exact ai.lq [] J J J
   ·intro x z1 aE J1 dN h gH df
    obtain ⟨n7,n8,n9⟩:=x
    obtain rfl:=dN
    replace h:fL self aa n7 n8 n9=some z1:=h
    unfold fL at h
    refine ax<|ae.qv (bG J J) J<|rN<|tS<|cD h J (fun h=>?_) (fun h=>?_)
    ·refine tK<|tS<|ab.block<|ax<|au h fun v10 e1 h=>ae.qv (aO J J J e1 J (by rw [Query.pV];rfl)) J<|ae.qv (aF J J J) J<|bf J J J J fun yn=>aq J J J J .p0 J J<|rN<|ax<|ae.qv (ao J J .p0 J) J<|au h fun v12 e2 h=>aG J (pn e2) cR J<|rM J J<|rX J J J<|rX J J J<|rA J J<|rA J J<|rN<|tR<|rM J J<|rM J J<|ae.qv (bd J J) J<|rM J J<|rM J J<|ae.qv (Is J J) J<|rA J J<|rA J J<|rN<|ab.cF<|tR<|ae.qv (bd J J) J<|rM J J<|rN<|ab.stop<|?_
     cases h
     exact gH _ _ J<|ai.lq [] J J J
    ·refine ab.exit J<|have h:=bE h df;ax<|rM J J<|rM J J<|ae.qv (bd J J) J<|rA J J<|rA J J<|rN<|ab.ret<|?_
     cases h
     exact hQ J J J
theorem z6 [GI:bx]:∀ (k:Nat) {aa:Query} {r:Int×Int},fI k aa=some r→Pu Tryz.prog 310 [.agg [I aa.Kind,.str aa.Field,.str aa.Op,I aa.Value.Kind,.bool aa.Value.cf,I aa.Value.Number,.str aa.Value.Words,I aa.Version.bQ,I aa.Version.bR,I aa.Version.bN,lr aa.Kids]] (.om [I r.1,I r.2]):=by
 intro k
 induction k with
 | zero=>intro aa r h;cases h
 | succ k ih=>intro aa r h;exact zd ih h
theorem Cu [GI:bx] {aa:Query} {r:Int×Int} (h:vG aa=some r):Pu Tryz.prog 310 [.agg [I aa.Kind,.str aa.Field,.str aa.Op,I aa.Value.Kind,.bool aa.Value.cf,I aa.Value.Number,.str aa.Value.Words,I aa.Version.bQ,I aa.Version.bR,I aa.Version.bN,lr aa.Kids]] (.om [I r.1,I r.2]):=z6 depth h
theorem nE [GI:bx] {aa:Int} {ah:Int} {bc:Int} {r:Bool} (h:jw aa ah bc=r):Pu Tryz.prog 161 [I aa,I ah,I bc] (.bool r):=by
 unfold jw at h
 refine aB.aS Tryz.func161 J Tryz.ntmps161 Tryz.results161 J J ?_
 refine ax<|rA J J<|rN<|tS<|ab.cut (fun aE=>∃ (c1:Bool),sj c1=r∧aE=⟨15,[(6,.bool c1)],[]⟩) ?_ ?_
 ·refine tR<|rM J J<|rM J J<|ae.qv (bG J J) J<|rM J J<|ae.fC J J J (fun hc=>?_) (fun hc=>?_)
  ·rw [zK hc] at h
   exact rM J J<|rY J J J<|rM J J<|rY J J J<|ae.qv (fO J J) J<|rE J J J<|rA J J<|rN<|ab.stop<|ai.lq [] ⟨decide (bc < aa),h,J⟩ J J
  ·rw [zJ hc] at h
   exact rG J J J J<|rG J J J J<|rT J J J<|rA J J<|rN<|ab.stop<|ai.lq [] ⟨true,h,J⟩ J J
 ·rintro aE ⟨c1,h,rfl⟩
  unfold sj at h
  refine ab.ret<|?_
  obtain rfl:=h
  exact hP J J
theorem xS [GI:bx] {aa:Query} {ah:Query} {r:Bool} (h:mG aa ah=r):Pu Tryz.prog 357 [.agg [I aa.Kind,.str aa.Field,.str aa.Op,I aa.Value.Kind,.bool aa.Value.cf,I aa.Value.Number,.str aa.Value.Words,I aa.Version.bQ,I aa.Version.bR,I aa.Version.bN,lr aa.Kids],.mu [I ah.Kind,.str ah.Field,.str ah.Op,I ah.Value.Kind,.bool ah.Value.cf,I ah.Value.Number,.str ah.Value.Words,I ah.Version.bQ,I ah.Version.bR,I ah.Version.bN,lr ah.Kids]] (.bool r):=by
 unfold mG at h
 refine aB.aS Tryz.func357 J Tryz.ntmps357 Tryz.results357 J J ?_
 refine ax<|cm J J J J fun b1=>rA J J<|rN<|ax<|rF J J J<|rL J J .p0 J J<|ae.qv (cU J J) J<|ae.qv (aJ J J J) J<|ae.qv (cL J J) J<|rA J J<|rN<|ab.ret<|?_
 obtain rfl:=h
 exact hP J J
theorem z7 [GI:bx] {aa:Query} {r:Int} (h:nt aa=some r):Pu Tryz.prog 338 [.agg [I aa.Kind,.str aa.Field,.str aa.Op,I aa.Value.Kind,.bool aa.Value.cf,I aa.Value.Number,.str aa.Value.Words,I aa.Version.bQ,I aa.Version.bR,I aa.Version.bN,lr aa.Kids]] (I r):=by
 unfold nt at h
 refine aB.aS Tryz.func338 J Tryz.ntmps338 Tryz.results338 J J ?_
 refine ax<|cm J J J J fun b1=>rA J J<|rN<|tS<|ax<|rF J J J<|rL J J .p0 J J<|aG J (nE J) cR J<|rN<|cB h J (fun h=>?_) (fun h=>?_)
 ·refine ax<|rA J J<|rN<|ab.ret<|?_
  cases h
  exact hP J J
 ·refine tK<|ax<|rF J J J<|rL J J .p0 J J<|ae.qv (bA J) J<|rA J J<|rN<|ax<|rM J J<|ae.qv (cG J J) J<|rA J J<|rN<|ax<|rF J J J<|rL J J .p0 J J<|ae.qv (bn J J J J J) J<|bf J J J J fun b2=>aq J J J J .p0 J J<|rN<|tS<|ax<|rF J J J<|rL J J .p1 J J<|rN<|ab.block<|ax<|ae.qv (cL J J) J<|rA J J<|rN<|ab.cut (fun aE=>∃ (c3:Bool) (q4:al) (q5:al) (n6:Int) (c7:Bool) (n8:Int) (q9:al) (n10:Int) (n11:Int) (n12:Int),jX aa c3 q4 q5 n6 c7 n8 q9 n10 n11 n12=some r∧aE=⟨79,[(1,.ptr b1 0),(4,.bool c3),(5,.ptr b2 0)],[(b1,.cells (wX aa)),(b2,.cells [I aa.Kind,.str q4,.str q5,I n6,.bool c7,I n8,.str q9,I n10,I n11,I n12,.nil])]⟩) ?_ ?_
  ·refine cD h J (fun h=>?_) (fun h=>?_)
   ·refine ab.jM (id:=9) (A:=[0,1,0,4,0,16,0,64,3,259,783,1807,3903,7999,16383,32767]) (H0:=[(b2,.cells [I aa.Kind,.str [],.str [],I (0:Int),.bool false,I (0:Int),.str [],I (0:Int),I (0:Int),I (0:Int),.nil])]) (HH:=fun β=>[(b2,.cells [I aa.Kind,.str aa.Field,.str aa.Op,I aa.Value.Kind,.bool aa.Value.cf,I aa.Value.Number,.str aa.Value.Words,I (0:Int),I (0:Int),I (0:Int),.nil]),(b1,.cells (wX aa))]) 14 mixed J (by kernel_rfl) (by kernel_rfl) [⟨none,some 9,[],fun _=>(b2,.cells [I aa.Kind,.str [],.str [],I (0:Int),.bool false,I (0:Int),.str [],I (0:Int),I (0:Int),I (0:Int),.nil]),none,[]⟩,⟨some 9,some 11,[],fun _=>(b2,.cells [I aa.Kind,.str aa.Field,.str [],I (0:Int),.bool false,I (0:Int),.str [],I (0:Int),I (0:Int),I (0:Int),.nil]),none,[]⟩,⟨some 11,some 13,[],fun _=>(b2,.cells [I aa.Kind,.str aa.Field,.str aa.Op,I (0:Int),.bool false,I (0:Int),.str [],I (0:Int),I (0:Int),I (0:Int),.nil]),none,[]⟩,⟨some 13,none,[],fun _=>(b2,.cells [I aa.Kind,.str aa.Field,.str aa.Op,I aa.Value.Kind,.bool aa.Value.cf,I aa.Value.Number,.str aa.Value.Words,I (0:Int),I (0:Int),I (0:Int),.nil]),none,[]⟩] [] J (by kernel_rfl) J (.cons .p0 .nil) (fun _=>J)<|AT.am 9 J J<|AM.qv (az J J) J<|AM.qv (aI J J .p0 J) J<|AM.qv (az J J) J<|AM.qv (aI J J .p0 J) J<|AM.qv (az J J) J<|AM.qv (bg J J .p0 J J) J<|AM.qv (az J J) J<|AM.qv (bg J J .p0 J J) J<|AM.qv (az J J) J<|AM.nil<|AT.P8 (Ti:=[(b2,.cells [I aa.Kind,.str [],.str [],I (0:Int),.bool false,I (0:Int),.str [],I (0:Int),I (0:Int),I (0:Int),.nil])]) (Pi:=[(b2,.cells [I aa.Kind,.str aa.Field,.str [],I (0:Int),.bool false,I (0:Int),.str [],I (0:Int),I (0:Int),I (0:Int),.nil])]) (fun _=>J) (fun _=>J) (fun _=>J) J J ?_ ?_
    ·exact aq J J J J .p0 J J<|ae.nil ⟨_,J⟩
    refine AT.am 1 J J<|AM.qv (az J J) J<|AM.nil<|AT.P8 (Ti:=[(b2,.cells [I aa.Kind,.str aa.Field,.str [],I (0:Int),.bool false,I (0:Int),.str [],I (0:Int),I (0:Int),I (0:Int),.nil])]) (Pi:=[(b2,.cells [I aa.Kind,.str aa.Field,.str aa.Op,I (0:Int),.bool false,I (0:Int),.str [],I (0:Int),I (0:Int),I (0:Int),.nil])]) (fun _=>J) (fun _=>J) (fun _=>J) J J ?_ ?_
    ·exact aq J J J J .p0 J J<|ae.nil ⟨_,J⟩
    refine AT.am 1 J J<|AM.qv (az J J) J<|AM.nil<|AT.P8 (Ti:=[(b2,.cells [I aa.Kind,.str aa.Field,.str aa.Op,I (0:Int),.bool false,I (0:Int),.str [],I (0:Int),I (0:Int),I (0:Int),.nil])]) (Pi:=[(b2,.cells [I aa.Kind,.str aa.Field,.str aa.Op,I aa.Value.Kind,.bool aa.Value.cf,I aa.Value.Number,.str aa.Value.Words,I (0:Int),I (0:Int),I (0:Int),.nil])]) (fun _=>J) (fun _=>J) (fun _=>J) J J ?_ ?_
    ·exact aq J J J J .p0 J J<|ae.nil ⟨_,J⟩
    exact AT.wJ (fun _=>J) fun β=>rF J J J<|aq J J J J .p0 J J<|rN<|ab.stop<|ai.lq [1,0] ⟨decide ((aa.Kids.length:Int)≠(0:Int)),aa.Field,aa.Op,aa.Value.Kind,aa.Value.cf,aa.Value.Number,aa.Value.Words,aa.Version.bQ,aa.Version.bR,aa.Version.bN,h,J⟩ J J
   ·refine ax<|ae.qv (cL J J) J<|rA J J<|rN<|ab.cut (fun aE=>∃ (Bc:Bool) (KI:al),iC aa Bc KI=some r∧aE=⟨79,[(1,.ptr b1 0),(4,.bool Bc),(5,.ptr b2 0)],[(b1,.cells (wX aa)),(b2,.cells [I aa.Kind,.str KI,.str [],I (0:Int),.bool false,I (0:Int),.str [],I (0:Int),I (0:Int),I (0:Int),.nil])]⟩) ?_ ?_
    ·refine cD h J (fun h=>?_) (fun h=>?_)
     ·exact tR<|rF J J J<|rL J J .p1 J J<|rF J J J<|aq J J J J .p0 J J<|rN<|ab.stop<|ai.lq [1,0] ⟨decide ((aa.Kids.length:Int)≠(0:Int)),aa.Field,h,J⟩ J J
     ·refine ax<|ae.qv (cL J J) J<|rA J J<|rN<|ab.cut (fun aE=>∃ (KK:Bool),iD aa KK=some r∧aE=⟨79,[(1,.ptr b1 0),(4,.bool KK),(5,.ptr b2 0)],[(b1,.cells (wX aa)),(b2,.cells [I aa.Kind,.str [],.str [],I (0:Int),.bool false,I (0:Int),.str [],I (0:Int),I (0:Int),I (0:Int),.nil])]⟩) ?_ ?_
      ·refine cD h J (fun h=>?_) (fun h=>?_)
       ·exact tR<|rM J J<|ae.qv (cG J J) J<|rA J J<|rN<|ab.stop<|ai.lq [1,0] ⟨decide ((aa.Kids.length:Int)≠(1:Int)),h,J⟩ J J
       ·refine ab.cut (fun aE=>∃ (Dn:Bool),jY aa Dn=some r∧aE=⟨79,[(1,.ptr b1 0),(4,.bool Dn),(5,.ptr b2 0)],[(b1,.cells (wX aa)),(b2,.cells [I aa.Kind,.str [],.str [],I (0:Int),.bool false,I (0:Int),.str [],I (0:Int),I (0:Int),I (0:Int),.nil])]⟩) ?_ ?_
        ·refine tR<|rM J J<|ae.qv (bG J J) J<|rM J J<|gF h J J J (fun h=>?_) (fun h=>?_)
         ·exact rF J J J<|rY J J J<|rL J J .p1 J J<|rY J J J<|ae.qv (jk J) J<|rY J J J<|au h fun v17 e1 h=>cO J (jB (fun e=>xS (Option.some.inj e)) e1) (.cons (.co (.refl _)) (.cons (.tv _ _ _ (.cons (.C9 _ _ _ .p1 (.cons (.co (.refl _)) (.cons (.co (.refl _)) (.cons (.co (.refl _)) (.cons (.co (.refl _)) (.cons (.co (.refl _)) (.cons (.co (.refl _)) (.cons (.co (.refl _)) (.cons (.co (.refl _)) (.cons (.co (.refl _)) (.cons (.co (.refl _)) (.cons (.co (.refl _)) .nil)))))))))))) .nil)) .nil)) J J<|rE J J J<|rA J J<|rN<|ab.stop<|ai.lq [1,0] ⟨v17,h,J⟩ J J
         ·exact rG J J J J<|rG J J J J<|rG J J J J<|rT J J J<|rA J J<|rN<|ab.stop<|ai.lq [1,0] ⟨true,h,J⟩ J J
        ·rintro aE ⟨Dn,h,rfl⟩
         unfold jY at h
         exact ab.stop<|ai.lq [0,0] ⟨Dn,h,J⟩ J J
      ·rintro aE ⟨KK,h,rfl⟩
       unfold iD at h
       exact ab.stop<|ai.lq [0,0] ⟨KK,[],h,J⟩ J J
    ·rintro aE ⟨Bc,KI,h,rfl⟩
     unfold iC at h
     exact ab.stop<|ai.lq [0,0] ⟨Bc,KI,[],(0:Int),false,(0:Int),[],(0:Int),(0:Int),(0:Int),h,J⟩ J J
  ·rintro aE ⟨c3,q4,q5,n6,c7,n8,q9,n10,n11,n12,h,rfl⟩
   unfold jX at h
   refine ab.cF<|tS<|tS<|ab.cut (fun aE=>∃ (Me:Bool),qq Me=some r∧aE=⟨79,[(78,.bool Me)],[]⟩) ?_ ?_
   ·refine tR<|rM J J<|rM J J<|ae.guard J J J (fun hc=>?_) (fun hc=>?_)
    ·rw [Ll hc] at h
     refine rF J J J<|rY J J J<|rL J J .p1 J J<|rY J J J<|rF J J J<|rY J J J<|rL J J .p0 J J<|rY J J J<|ae.qv (tt J J) J<|rE J J J<|rM J J<|ae.fC J J J (fun hc=>?_) (fun hc=>?_)
     ·rw [zK hc] at h
      refine rF J J J<|rY J J J<|rL J J .p1 J J<|rY J J J<|rF J J J<|rY J J J<|rL J J .p0 J J<|rY J J J<|ae.qv (tt J J) J<|rE J J J<|rM J J<|ae.fC J J J (fun hc=>?_) (fun hc=>?_)
      ·rw [zK hc] at h
       refine rF J J J<|rY J J J<|ae.qv (bg J J .p1 J J) J<|rY J J J<|rF J J J<|rY J J J<|ae.qv (bg J J .p0 J J) J<|rY J J J<|ae.qv (wH (g:=bL.av) (X:=(⟨n6,c7,n8,q9⟩:bL)) (Y:=aa.Value) J J J J J) J<|rE J J J<|rM J J<|ae.fC J J J (fun hc=>?_) (fun hc=>?_)
       ·rw [zK hc] at h
        exact rF J J J<|rY J J J<|ae.qv (bg J J .p1 J J) J<|rY J J J<|rF J J J<|rY J J J<|ae.qv (bg J J .p0 J J) J<|rY J J J<|ae.qv (wH (g:=Version.av) (X:=(⟨n10,n11,n12⟩:Version)) (Y:=aa.Version) J J J J J) J<|rE J J J<|rN<|ab.stop<|ai.lq [] ⟨decide ((⟨n10,n11,n12⟩:Version)≠aa.Version),h,J⟩ J J
       ·rw [zJ hc] at h
        exact rG J J J J<|rG J J J J<|rG J J J J<|rG J J J J<|rT J J J<|rN<|ab.stop<|ai.lq [] ⟨true,h,J⟩ J J
      ·rw [zJ hc] at h
       exact rG J J J J<|rG J J J J<|rG J J J J<|rG J J J J<|rT J J J<|rM J J<|rG J J J J<|rG J J J J<|rG J J J J<|rG J J J J<|rG J J J J<|rT J J J<|rN<|ab.stop<|ai.lq [] ⟨true,h,J⟩ J J
     ·rw [zJ hc] at h
      exact rG J J J J<|rG J J J J<|rG J J J J<|rG J J J J<|rT J J J<|rM J J<|rG J J J J<|rG J J J J<|rG J J J J<|rG J J J J<|rG J J J J<|rT J J J<|rM J J<|rG J J J J<|rG J J J J<|rG J J J J<|rG J J J J<|rG J J J J<|rT J J J<|rN<|ab.stop<|ai.lq [] ⟨true,h,J⟩ J J
    ·rw [Lk hc] at h
     exact rG J J J J<|rG J J J J<|rG J J J J<|rG J J J J<|rT J J J<|rM J J<|rG J J J J<|rG J J J J<|rG J J J J<|rG J J J J<|rG J J J J<|rT J J J<|rM J J<|rG J J J J<|rG J J J J<|rG J J J J<|rG J J J J<|rG J J J J<|rT J J J<|rM J J<|rG J J J J<|rG J J J J<|rG J J J J<|rG J J J J<|rG J J J J<|rT J J J<|rN<|ab.stop<|ai.lq [] ⟨true,h,J⟩ J J
   ·rintro aE ⟨Me,h,rfl⟩
    unfold qq at h
    refine cB h J (fun h=>?_) (fun h=>?_)
    ·refine ax<|rA J J<|rN<|ab.ret<|?_
     cases h
     exact hP J J
    ·refine tK<|ax<|rA J J<|rN<|ab.ret<|?_
     cases h
     exact hP J J
theorem ze [GI:bx] {aa:al} {r:Bool} (h:rk aa=some r):Pu Tryz.prog 359 [.str aa] (.bool r):=by
 unfold rk at h
 refine aB.aS Tryz.func359 J Tryz.ntmps359 Tryz.results359 J J ?_
 refine ax<|rA J J<|rN<|ax<|rM J J<|au h fun v1 e1 h=>aG J (kQ e1) cR J<|rM J J<|rX J J J<|rX J J J<|rA J J<|rA J J<|rN<|tS<|ab.cut (fun aE=>∃ (c2:Bool),oK c2=some r∧aE=⟨15,[(2,.bool c2)],[]⟩) ?_ ?_
 ·refine tR<|rM J J<|rM J J<|ae.guard J J J (fun hc=>?_) (fun hc=>?_)
  ·exact have h:=lL hc h;rM J J<|rY J J J<|au h fun v3 e2 h=>aG J (lD e2) cR J<|rT J J J<|rA J J<|rN<|ab.stop<|ai.lq [] ⟨v3,h,J⟩ J J
  ·exact have h:=lM hc h;rG J J J J<|rE J J J<|rA J J<|rN<|ab.stop<|ai.lq [] ⟨false,h,J⟩ J J
 ·rintro aE ⟨c2,h,rfl⟩
  unfold oK at h
  refine ab.ret<|?_
  cases h
  exact hP J J
theorem Bp {aa:al} {r:Bool} (h:oL aa=some r):Pu Tryz.prog 369 [.str aa] (.bool r):=by
 unfold oL at h
 refine aB.aS Tryz.func369 J Tryz.ntmps369 Tryz.results369 J J ?_
 refine ax<|rA J J<|rN<|tS<|ab.cut (fun aE=>∃ (c1:Bool),k7 c1=some r∧aE=⟨10,[(2,.bool c1)],[]⟩) ?_ ?_
 ·refine tR<|rM J J<|ae.qv (fS J) J<|ae.qv (r8 J J) J<|rM J J<|gT h J J J (fun h=>?_) (fun h=>?_)
  ·exact rM J J<|rY J J J<|au h fun v2 e1 h=>aG J (uS e1) cR J<|rT J J J<|rA J J<|rN<|ab.stop<|ai.lq [] ⟨v2,h,J⟩ J J
  ·exact rG J J J J<|rE J J J<|rA J J<|rN<|ab.stop<|ai.lq [] ⟨false,h,J⟩ J J
 ·rintro aE ⟨c1,h,rfl⟩
  unfold k7 at h
  refine ab.ret<|?_
  cases h
  exact hP J J
theorem uU {aa:al} {r:Bool} (h:nv aa=some r):Pu Tryz.prog 360 [.str aa] (.bool r):=by
 unfold nv at h
 refine aB.aS Tryz.func360 J Tryz.ntmps360 Tryz.results360 J J ?_
 refine ax<|rA J J<|rN<|ax<|rM J J<|au h fun v1 e1 h=>aG J (kQ e1) cR J<|rM J J<|rX J J J<|rX J J J<|rA J J<|rA J J<|rN<|tS<|ab.cut (fun aE=>∃ (c2:Bool),nu c2=some r∧aE=⟨15,[(2,.bool c2)],[]⟩) ?_ ?_
 ·refine tR<|rM J J<|rM J J<|ae.guard J J J (fun hc=>?_) (fun hc=>?_)
  ·exact have h:=lL hc h;rM J J<|rY J J J<|au h fun v3 e2 h=>aG J (Bp e2) cR J<|rT J J J<|rA J J<|rN<|ab.stop<|ai.lq [] ⟨v3,h,J⟩ J J
  ·exact have h:=lM hc h;rG J J J J<|rE J J J<|rA J J<|rN<|ab.stop<|ai.lq [] ⟨false,h,J⟩ J J
 ·rintro aE ⟨c2,h,rfl⟩
  unfold nu at h
  refine ab.ret<|?_
  cases h
  exact hP J J
theorem Ff {aa:al} {r:Bool} (h:tJ aa=some r):Pu Tryz.prog 358 [.str aa] (.bool r):=by
 unfold tJ at h
 refine aB.aS Tryz.func358 J Tryz.ntmps358 Tryz.results358 J J ?_
 refine ax<|rA J J<|rN<|tS<|ab.cut (fun aE=>∃ (c1:Bool),ic c1=some r∧aE=⟨25,[(2,.bool c1)],[]⟩) ?_ ?_
 ·refine tR<|rM J J<|ae.qv (iz J J) J<|rM J J<|gF h J J J (fun h=>?_) (fun h=>?_)
  ·refine rM J J<|rY J J J<|ae.qv (iz J J) J<|rE J J J<|rM J J<|gF h J J J (fun h=>?_) (fun h=>?_)
   ·refine rM J J<|rY J J J<|ae.qv (iz J J) J<|rE J J J<|rM J J<|gF h J J J (fun h=>?_) (fun h=>?_)
    ·refine rM J J<|rY J J J<|ae.qv (iz J J) J<|rE J J J<|rM J J<|gF h J J J (fun h=>?_) (fun h=>?_)
     ·refine rM J J<|rY J J J<|au h fun v2 e1 h=>aG J (ze e1) cR J<|rE J J J<|rM J J<|ae.guard J J J (fun hc=>?_) (fun hc=>?_)
      ·exact have h:=lM hc h;rM J J<|rY J J J<|au h fun v3 e2 h=>aG J (uU e2) cR J<|rE J J J<|rA J J<|rN<|ab.stop<|ai.lq [] ⟨v3,h,J⟩ J J
      ·exact have h:=lL hc h;rG J J J J<|rT J J J<|rA J J<|rN<|ab.stop<|ai.lq [] ⟨true,h,J⟩ J J
     ·exact rG J J J J<|rT J J J<|rM J J<|rG J J J J<|rG J J J J<|rT J J J<|rA J J<|rN<|ab.stop<|ai.lq [] ⟨true,h,J⟩ J J
    ·exact rG J J J J<|rT J J J<|rM J J<|rG J J J J<|rG J J J J<|rT J J J<|rM J J<|rG J J J J<|rG J J J J<|rT J J J<|rA J J<|rN<|ab.stop<|ai.lq [] ⟨true,h,J⟩ J J
   ·exact rG J J J J<|rT J J J<|rM J J<|rG J J J J<|rG J J J J<|rT J J J<|rM J J<|rG J J J J<|rG J J J J<|rT J J J<|rM J J<|rG J J J J<|rG J J J J<|rT J J J<|rA J J<|rN<|ab.stop<|ai.lq [] ⟨true,h,J⟩ J J
  ·exact rG J J J J<|rT J J J<|rM J J<|rG J J J J<|rG J J J J<|rT J J J<|rM J J<|rG J J J J<|rG J J J J<|rT J J J<|rM J J<|rG J J J J<|rG J J J J<|rT J J J<|rM J J<|rG J J J J<|rG J J J J<|rT J J J<|rA J J<|rN<|ab.stop<|ai.lq [] ⟨true,h,J⟩ J J
 ·rintro aE ⟨c1,h,rfl⟩
  unfold ic at h
  refine ab.ret<|?_
  cases h
  exact hP J J
theorem zf [GI:bx] {r:(List al)} (h:eW=r):aB Tryz.prog 361 [] [] (T1 (fun iM=>[(iM,Be r)]) (fun iM=>.sl 1 iM 0 r.length)):=by
 unfold eW at h
 refine aB.dS ?_
 refine aB.aS Tryz.func361 J Tryz.ntmps361 Tryz.results361 J J ?_
 refine ax<|rA J J<|rN<|ax<|jK J J J J J J fun b1=>rA J J<|rN<|ab.ret<|?_
 obtain rfl:=h
 exact hH J [0] J ⟨b1,J,J⟩
theorem Cv [GI:bx] {aa:Version} {r:Bool} (h:fM aa=r):Pu Tryz.prog 220 [Version.av aa] (.bool r):=by
 unfold fM at h
 refine aB.aS Tryz.func220 J Tryz.ntmps220 Tryz.results220 J J ?_
 refine ax<|cm J J J J fun b1=>rA J J<|rN<|tS<|ab.cut (fun aE=>∃ (c2:Bool),o8 c2=r∧aE=⟨19,[(2,.bool c2)],[]⟩) ?_ ?_
 ·refine tR<|rF J J J<|rL J J .p0 J J<|aG J (nE J) cR J<|ae.qv (bX J) J<|rM J J<|ae.guard J J J (fun hc=>?_) (fun hc=>?_)
  ·rw [wF hc] at h
   refine rF J J J<|rY J J J<|rL J J .p0 J J<|rY J J J<|aG J (nE J) cR J<|rY J J J<|ae.qv (bX J) J<|rT J J J<|rM J J<|ae.guard J J J (fun hc=>?_) (fun hc=>?_)
   ·rw [wF hc] at h
    exact rF J J J<|rY J J J<|rL J J .p0 J J<|rY J J J<|aG J (nE J) cR J<|rY J J J<|ae.qv (bX J) J<|rT J J J<|rA J J<|rN<|ab.stop<|ai.lq [] ⟨!(jw aa.bN (0:Int) (9999:Int)),h,J⟩ J J
   ·rw [wG hc] at h
    exact rG J J J J<|rG J J J J<|rG J J J J<|rE J J J<|rA J J<|rN<|ab.stop<|ai.lq [] ⟨false,h,J⟩ J J
  ·rw [wG hc] at h
   exact rG J J J J<|rG J J J J<|rG J J J J<|rE J J J<|rM J J<|rG J J J J<|rG J J J J<|rG J J J J<|rG J J J J<|rE J J J<|rA J J<|rN<|ab.stop<|ai.lq [] ⟨false,h,J⟩ J J
 ·rintro aE ⟨c2,h,rfl⟩
  unfold o8 at h
  refine ab.ret<|?_
  obtain rfl:=h
  exact hP J J
theorem Fg {aa:bL} {r:Bool} (h:tL aa=some r):Pu Tryz.prog 362 [bL.av aa] (.bool r):=by
 unfold tL at h
 refine aB.aS Tryz.func362 J Tryz.ntmps362 Tryz.results362 J J ?_
 refine ax<|cm J J J J fun b1=>rA J J<|rN<|ax<|rF J J J<|rL J J .p0 J J<|ae.qv (bn J J J J J) J<|bf J J J J fun b2=>aq J J J J .p0 J J<|rN<|tS<|ax<|rF J J J<|rL J J .p1 J J<|rN<|ab.block<|ax<|ae.qv (cL J J) J<|rA J J<|rN<|ab.cut (fun aE=>∃ (c3:Bool) (n4:Int) (q5:al),mr aa c3 n4 q5=some r∧aE=⟨46,[(1,.ptr b1 0),(3,.ptr b2 0)],[(b1,.cells [I aa.Kind,.bool aa.cf,I aa.Number,.str aa.Words]),(b2,.cells [I aa.Kind,.bool c3,I n4,.str q5])]⟩) ?_ ?_
 ·refine cD h J (fun h=>?_) (fun h=>?_)
  ·exact tK<|ab.stop<|ai.lq [1,0] ⟨false,(0:Int),[],h,J⟩ J J
  ·refine ax<|ae.qv (cL J J) J<|rA J J<|rN<|ab.cut (fun aE=>∃ (c6:Bool) (n7:Int) (q8:al),oM aa c6 n7 q8=some r∧aE=⟨46,[(1,.ptr b1 0),(3,.ptr b2 0)],[(b1,.cells [I aa.Kind,.bool aa.cf,I aa.Number,.str aa.Words]),(b2,.cells [I aa.Kind,.bool c6,I n7,.str q8])]⟩) ?_ ?_
   ·refine cD h J (fun h=>?_) (fun h=>?_)
    ·exact tR<|rF J J J<|rL J J .p1 J J<|rF J J J<|aq J J J J .p0 J J<|rN<|ab.stop<|ai.lq [1,0] ⟨aa.cf,(0:Int),[],h,J⟩ J J
    ·refine ax<|ae.qv (cL J J) J<|rA J J<|rN<|ab.cut (fun aE=>∃ (n9:Int) (C2:al),oN aa n9 C2=some r∧aE=⟨46,[(1,.ptr b1 0),(3,.ptr b2 0)],[(b1,.cells [I aa.Kind,.bool aa.cf,I aa.Number,.str aa.Words]),(b2,.cells [I aa.Kind,.bool false,I n9,.str C2])]⟩) ?_ ?_
     ·refine cD h J (fun h=>?_) (fun h=>?_)
      ·exact tR<|rF J J J<|rL J J .p1 J J<|rF J J J<|aq J J J J .p0 J J<|rN<|ab.stop<|ai.lq [1,0] ⟨aa.Number,[],h,J⟩ J J
      ·refine ax<|ae.qv (cL J J) J<|rA J J<|rN<|cD h J (fun h=>?_) (fun h=>?_)
       ·exact tR<|rF J J J<|rL J J .p1 J J<|rF J J J<|aq J J J J .p0 J J<|rN<|ab.stop<|ai.lq [1,0] ⟨(0:Int),aa.Words,h,J⟩ J J
       ·refine ax<|rA J J<|rN<|ab.ret<|?_
        cases h
        exact hP J J
     ·rintro aE ⟨n9,C2,h,rfl⟩
      unfold oN at h
      exact ab.stop<|ai.lq [0,0] ⟨false,n9,C2,h,J⟩ J J
   ·rintro aE ⟨c6,n7,q8,h,rfl⟩
    unfold oM at h
    exact ab.stop<|ai.lq [0,0] ⟨c6,n7,q8,h,J⟩ J J
 ·rintro aE ⟨c3,n4,q5,h,rfl⟩
  unfold mr at h
  refine ab.cF<|tS<|ab.cut (fun aE=>∃ (y5:Bool),kJ y5=some r∧aE=⟨46,[(2,.bool y5)],[]⟩) ?_ ?_
  ·refine tR<|ae.qv (ao J J .p0 J) J<|ae.qv (ao J J .p1 J) J<|ae.qv (F4 (g:=bL.av) (X:=aa) (Y:=(⟨aa.Kind,c3,n4,q5⟩:bL)) J J J J J) J<|rM J J<|gT h J J J (fun h=>?_) (fun h=>?_)
   ·refine rF J J J<|rY J J J<|rL J J .p0 J J<|rY J J J<|aG J (nE J) cR J<|rY J J J<|ae.qv (bX J) J<|rT J J J<|rM J J<|ae.guard J J J (fun hc=>?_) (fun hc=>?_)
    ·refine have h:=lL hc h;rF J J J<|rY J J J<|rL J J .p0 J J<|rY J J J<|ae.qv (fS J) J<|rY J J J<|ae.qv (r8 J J) J<|rT J J J<|rM J J<|gT h J J J (fun h=>?_) (fun h=>?_)
     ·exact rF J J J<|rY J J J<|rL J J .p0 J J<|rY J J J<|au h fun v12 e1 h=>aG J (tD e1) cR J<|rT J J J<|rA J J<|rN<|ab.stop<|ai.lq [] ⟨v12,h,J⟩ J J
     ·exact rG J J J J<|rG J J J J<|rE J J J<|rA J J<|rN<|ab.stop<|ai.lq [] ⟨false,h,J⟩ J J
    ·exact have h:=lM hc h;rG J J J J<|rG J J J J<|rG J J J J<|rE J J J<|rM J J<|rG J J J J<|rG J J J J<|rG J J J J<|rE J J J<|rA J J<|rN<|ab.stop<|ai.lq [] ⟨false,h,J⟩ J J
   ·exact rG J J J J<|rG J J J J<|rG J J J J<|rE J J J<|rM J J<|rG J J J J<|rG J J J J<|rG J J J J<|rG J J J J<|rE J J J<|rM J J<|rG J J J J<|rG J J J J<|rG J J J J<|rE J J J<|rA J J<|rN<|ab.stop<|ai.lq [] ⟨false,h,J⟩ J J
  ·rintro aE ⟨y5,h,rfl⟩
   unfold kJ at h
   refine ab.ret<|?_
   cases h
   exact hP J J
theorem z8 {aa:Query} {r:Int} (h:nw aa=some r):Pu Tryz.prog 339 [.agg [I aa.Kind,.str aa.Field,.str aa.Op,I aa.Value.Kind,.bool aa.Value.cf,I aa.Value.Number,.str aa.Value.Words,I aa.Version.bQ,I aa.Version.bR,I aa.Version.bN,lr aa.Kids]] (I r):=by
 unfold nw at h
 refine aB.aS Tryz.func339 J Tryz.ntmps339 Tryz.results339 J J ?_
 refine ax<|cm J J J J fun b1=>rA J J<|rN<|tS<|tS<|ab.cut (fun aE=>∃ (c2:Bool),ek aa c2=some r∧aE=⟨98,[(1,.ptr b1 0),(24,.bool c2)],[(b1,.cells (wX aa))]⟩) ?_ ?_
 ·refine tR<|rF J J J<|rL J J .p0 J J<|au h fun v3 e1 h=>aG J (Ff e1) cR J<|ae.qv (bX J) J<|rM J J<|ae.guard J J J (fun hc=>?_) (fun hc=>?_)
  ·refine have h:=lM hc h;rF J J J<|rY J J J<|rL J J .p0 J J<|rY J J J<|ae.qv (cL J J) J<|rY J J J<|rM J J<|gT h J J J (fun h=>?_) (fun h=>?_)
   ·refine rF J J J<|rY J J J<|rL J J .p0 J J<|rY J J J<|au h fun v4 e2 h=>aG J (ze e2) cR J<|rY J J J<|ae.qv (bX J) J<|rY J J J<|rT J J J<|rY J J J<|rM J J<|ae.guard J J J (fun hc=>?_) (fun hc=>?_)
    ·exact have h:=lL hc h;rF J J J<|rY J J J<|rL J J .p0 J J<|rY J J J<|au h fun v5 e3 h=>aG J (uU e3) cR J<|rY J J J<|ae.qv (bX J) J<|rY J J J<|rT J J J<|rE J J J<|rN<|ab.stop<|ai.lq [0] ⟨!v5,h,J⟩ J J
    ·exact have h:=lM hc h;rG J J J J<|rG J J J J<|rG J J J J<|rY J J J<|rE J J J<|rE J J J<|rN<|ab.stop<|ai.lq [0] ⟨false,h,J⟩ J J
   ·exact rG J J J J<|rG J J J J<|rG J J J J<|rY J J J<|rE J J J<|rY J J J<|rM J J<|rG J J J J<|rG J J J J<|rG J J J J<|rG J J J J<|rY J J J<|rE J J J<|rE J J J<|rN<|ab.stop<|ai.lq [0] ⟨false,h,J⟩ J J
  ·exact have h:=lL hc h;rG J J J J<|rG J J J J<|rG J J J J<|ae.bq J J J<|ae.bq J J J<|ae.bq J J J<|ae.bq J J J<|rG J J J J<|rG J J J J<|ae.bq J J J<|ae.bq J J J<|ae.bq J J J<|ae.bq J J J<|rG J J J J<|rT J J J<|rN<|ab.stop<|ai.lq [0] ⟨true,h,J⟩ J J
 ·rintro aE ⟨c2,h,rfl⟩
  unfold ek at h
  refine cB h J (fun h=>?_) (fun h=>?_)
  ·refine ax<|rA J J<|rN<|ab.ret<|?_
   cases h
   exact hP J J
  ·refine tK<|tS<|ax<|rF J J J<|rL J J .p0 J J<|ae.qv (cL J J) J<|rN<|cD h J (fun h=>?_) (fun h=>?_)
   ·refine ax<|rA J J<|rN<|ab.ret<|?_
    cases h
    exact hP J J
   ·refine tK<|ax<|rF J J J<|rL J J .p0 J J<|ae.qv (iz J J) J<|rA J J<|rN<|tS<|ab.block<|tS<|ab.jM (id:=6) (A:=[0,0,2,7,15,31]) (H0:=[]) (HH:=fun β=>[((β 0),Be eW),(b1,.cells (wX aa))]) 3 mixed J (by kernel_rfl) (by kernel_rfl) [⟨some 0,none,[],fun b=>(b,Be eW),none,[]⟩] [0] J (by kernel_rfl) J .nil (fun _=>J)<|AT.Hv (V:=fun b=>.sl 1 b 0 eW.length) (Ti:=[]) (Pi:=fun b=>[(b,Be eW)]) (fun _=>J) (fun _=>J) (fun _ _=>J) J (fun _=>J) J J J ?_ ?_
    ·exact de J (zf J) cR .nil (fun _=>J) J fun b6=>ae.nil ⟨b6,_,J,J⟩
    refine AT.am 2 J J<|AM.qv (az J J) J<|AM.qv (aI J J .p0 J) J<|AM.nil<|AT.wJ (fun _=>J) fun β=>?_
    generalize β 0=b6
    clear β
    refine au h fun v7 e4 h=>cO J (bt e4) (.cons (qO.nL .p0) (.cons (.co (.refl _)) .nil)) J J<|ae.qv (bX J) J<|rA J J<|rN<|cB h J (fun h=>?_) (fun h=>?_)
    ·refine ax<|rA J J<|rN<|ab.ret<|?_
     cases h
     exact hP J J
    ·refine tS<|ab.cut (fun aE=>∃ (c8:Bool),mJ aa c8=some r∧aE=⟨98,[(1,.ptr b1 0),(3,.bool (decide (aa.Field=([102,105,114,109,119,97,114,101]:al)))),(37,.bool c8)],[(b1,.cells (wX aa))]⟩) ?_ ?_
     ·refine tR<|rM J J<|rM J J<|ae.cN J J J (fun hc=>?_) (fun hc=>?_)
      ·rw [sK hc] at h
       exact rF J J J<|rY J J J<|ae.qv (bg J J .p1 J J) J<|rY J J J<|ae.qv (bn J J J J J) J<|rY J J J<|ae.qv (wH (g:=bL.av) (X:=aa.Value) (Y:=(⟨(0:Int),false,(0:Int),[]⟩:bL)) J J J J J) J<|rT J J J<|rA J J<|rN<|ab.stop<|ai.lq [1] ⟨decide (aa.Value≠(⟨(0:Int),false,(0:Int),[]⟩:bL)),h,J⟩ J J
      ·rw [sL hc] at h
       exact rG J J J J<|rG J J J J<|rG J J J J<|rE J J J<|rA J J<|rN<|ab.stop<|ai.lq [1] ⟨false,h,J⟩ J J
     ·rintro aE ⟨c8,h,rfl⟩
      unfold mJ at h
      refine cB h J (fun h=>?_) (fun h=>?_)
      ·refine ax<|rA J J<|rN<|ab.ret<|?_
       cases h
       exact hP J J
      ·refine tS<|ab.cut (fun aE=>∃ (c9:Bool),mI aa c9=some r∧aE=⟨98,[(1,.ptr b1 0),(3,.bool (decide (aa.Field=([102,105,114,109,119,97,114,101]:al)))),(45,.bool c9)],[(b1,.cells (wX aa))]⟩) ?_ ?_
       ·refine tR<|rM J J<|rM J J<|ae.cN J J J (fun hc=>?_) (fun hc=>?_)
        ·rw [sK hc] at h
         exact rF J J J<|rY J J J<|ae.qv (bg J J .p0 J J) J<|rY J J J<|aG J (Cv J) cR J<|rY J J J<|ae.qv (bX J) J<|rT J J J<|rA J J<|rN<|ab.stop<|ai.lq [0] ⟨!(fM aa.Version),h,J⟩ J J
        ·rw [sL hc] at h
         exact rG J J J J<|rG J J J J<|rG J J J J<|rE J J J<|rA J J<|rN<|ab.stop<|ai.lq [0] ⟨false,h,J⟩ J J
       ·rintro aE ⟨c9,h,rfl⟩
        unfold mI at h
        refine cB h J (fun h=>?_) (fun h=>?_)
        ·refine ax<|rA J J<|rN<|ab.ret<|?_
         cases h
         exact hP J J
        ·refine ax<|rM J J<|rA J J<|rN<|cD h J (fun h=>?_) (fun h=>?_)
         ·refine ax<|rA J J<|rN<|ab.ret<|?_
          cases h
          exact hP J J
         ·refine tS<|ab.cut (fun aE=>∃ (Dm:Bool),iF aa Dm=some r∧aE=⟨98,[(1,.ptr b1 0),(55,.bool Dm)],[(b1,.cells (wX aa))]⟩) ?_ ?_
          ·refine tR<|rF J J J<|ae.qv (bg J J .p0 J J) J<|ae.qv (bn J J J J J) J<|ae.qv (wH (g:=Version.av) (X:=aa.Version) (Y:=(⟨(0:Int),(0:Int),(0:Int)⟩:Version)) J J J J J) J<|rM J J<|gF h J J J (fun h=>?_) (fun h=>?_)
           ·refine rF J J J<|rY J J J<|ae.qv (bg J J .p0 J J) J<|rY J J J<|au h fun v11 e5 h=>aG J (Fg e5) cR J<|rY J J J<|ae.qv (bX J) J<|rE J J J<|rM J J<|ae.guard J J J (fun hc=>?_) (fun hc=>?_)
            ·rw [Ll hc] at h
             exact rF J J J<|rY J J J<|rF J J J<|rY J J J<|rL J J .p0 J J<|rY J J J<|ae.qv (cL J J) J<|rE J J J<|rA J J<|rN<|ab.stop<|ai.lq [0] ⟨decide (aa.Value.Kind=(0:Int)),h,J⟩ J J
            ·rw [Lk hc] at h
             exact rG J J J J<|rG J J J J<|rG J J J J<|rT J J J<|rA J J<|rN<|ab.stop<|ai.lq [0] ⟨true,h,J⟩ J J
           ·exact rG J J J J<|rG J J J J<|rG J J J J<|rT J J J<|rM J J<|rG J J J J<|rG J J J J<|rG J J J J<|rG J J J J<|rT J J J<|rA J J<|rN<|ab.stop<|ai.lq [0] ⟨true,h,J⟩ J J
          ·rintro aE ⟨Dm,h,rfl⟩
           unfold iF at h
           refine cB h J (fun h=>?_) (fun h=>?_)
           ·refine ax<|rA J J<|rN<|ab.ret<|?_
            cases h
            exact hP J J
           ·refine tS<|ab.cut (fun aE=>∃ (c12:Bool),iE aa c12=some r∧aE=⟨98,[(1,.ptr b1 0),(72,.bool c12)],[(b1,.cells (wX aa))]⟩) ?_ ?_
            ·refine tR<|rF J J J<|rF J J J<|rL J J .p0 J J<|ae.qv (cG J J) J<|rM J J<|gT h J J J (fun h=>?_) (fun h=>?_)
             ·exact rF J J J<|rY J J J<|rL J J .p0 J J<|rY J J J<|au h fun oh e6 h=>aG J (uU e6) cR J<|rY J J J<|ae.qv (bX J) J<|rT J J J<|rA J J<|rN<|ab.stop<|ai.lq [0] ⟨!oh,h,J⟩ J J
             ·exact rG J J J J<|rG J J J J<|rG J J J J<|rE J J J<|rA J J<|rN<|ab.stop<|ai.lq [0] ⟨false,h,J⟩ J J
            ·rintro aE ⟨c12,h,rfl⟩
             unfold iE at h
             refine cB h J (fun h=>?_) (fun h=>?_)
             ·refine ax<|rA J J<|rN<|ab.ret<|?_
              cases h
              exact hP J J
             ·refine tS<|ab.cut (fun aE=>∃ (Mf:Bool),mH Mf=some r∧aE=⟨98,[(83,.bool Mf)],[]⟩) ?_ ?_
              ·refine tR<|rF J J J<|rF J J J<|rL J J .p0 J J<|ae.qv (cG J J) J<|rM J J<|ae.cN J J J (fun hc=>?_) (fun hc=>?_)
               ·rw [sK hc] at h
                refine rF J J J<|rY J J J<|rL J J .p0 J J<|rY J J J<|ae.qv (tt J J) J<|rT J J J<|rM J J<|ae.cN J J J (fun hc=>?_) (fun hc=>?_)
                ·rw [sK hc] at h
                 exact rF J J J<|rY J J J<|rL J J .p0 J J<|rY J J J<|ae.qv (tt J J) J<|rT J J J<|rA J J<|rN<|ab.stop<|ai.lq [] ⟨decide (aa.Op≠([33,61]:al)),h,J⟩ J J
                ·rw [sL hc] at h
                 exact rG J J J J<|rG J J J J<|rE J J J<|rA J J<|rN<|ab.stop<|ai.lq [] ⟨false,h,J⟩ J J
               ·rw [sL hc] at h
                exact rG J J J J<|rG J J J J<|rE J J J<|rM J J<|rG J J J J<|rG J J J J<|rG J J J J<|rE J J J<|rA J J<|rN<|ab.stop<|ai.lq [] ⟨false,h,J⟩ J J
              ·rintro aE ⟨Mf,h,rfl⟩
               unfold mH at h
               refine cB h J (fun h=>?_) (fun h=>?_)
               ·refine ax<|rA J J<|rN<|ab.ret<|?_
                cases h
                exact hP J J
               ·refine tK<|ab.cF<|ax<|rA J J<|rN<|ab.ret<|?_
                cases h
                exact hP J J
theorem xT {self:Query→Option Int} (pn:∀ {aa:Query} {r:Int},self aa=some r→Pu Tryz.prog 311 [.agg [I aa.Kind,.str aa.Field,.str aa.Op,I aa.Value.Kind,.bool aa.Value.cf,I aa.Value.Number,.str aa.Value.Words,I aa.Version.bQ,I aa.Version.bR,I aa.Version.bN,lr aa.Kids]] (I r)) {aa:Query} {r:Int} (h:jZ self aa=some r):Pu Tryz.prog 311 [.agg [I aa.Kind,.str aa.Field,.str aa.Op,I aa.Value.Kind,.bool aa.Value.cf,I aa.Value.Number,.str aa.Value.Words,I aa.Version.bQ,I aa.Version.bR,I aa.Version.bN,lr aa.Kids]] (I r):=by
 unfold jZ at h
 refine aB.aS Tryz.func311 J Tryz.ntmps311 Tryz.results311 J J ?_
 refine ax<|cm J J J J fun b1=>rA J J<|rN<|tS<|ax<|ae.qv (ao J J .p0 J) J<|au h fun v2 e1 h=>aG J (z7 e1) cR J<|rA J J<|rN<|ax<|rM J J<|ae.qv (cG J J) J<|rN<|cD h J (fun h=>?_) (fun h=>?_)
 ·refine ax<|rM J J<|rA J J<|rN<|ab.ret<|?_
  cases h
  exact hP J J
 ·refine tK<|tS<|tS<|ab.cut (fun aE=>∃ (c3:Bool),mL self aa c3=some r∧aE=⟨35,[(1,.ptr b1 0),(19,.bool c3)],[(b1,.cells (wX aa))]⟩) ?_ ?_
  ·refine tR<|rF J J J<|rL J J .p0 J J<|ae.qv (cL J J) J<|rM J J<|ae.fC J J J (fun hc=>?_) (fun hc=>?_)
   ·rw [zK hc] at h
    exact rF J J J<|rY J J J<|rL J J .p0 J J<|rY J J J<|ae.qv (cL J J) J<|rE J J J<|rN<|ab.stop<|ai.lq [0] ⟨decide (aa.Kind=(2:Int)),h,J⟩ J J
   ·rw [zJ hc] at h
    exact rG J J J J<|rG J J J J<|rT J J J<|rN<|ab.stop<|ai.lq [0] ⟨true,h,J⟩ J J
  ·rintro aE ⟨c3,h,rfl⟩
   unfold mL at h
   refine cB h J (fun h=>?_) (fun h=>?_)
   ·refine ax<|ae.qv (ao J J .p0 J) J<|au h fun v4 e2 h=>aG J (z8 e2) cR J<|rA J J<|rN<|ab.ret<|?_
    cases h
    exact hP J J
   ·refine tK<|tS<|ax<|rF J J J<|rL J J .p0 J J<|ae.qv (bA J) J<|rM J J<|rN<|ab.block<|ab.cq (fun x:Int=>eo self aa x) (fun x aE=>aE=⟨35,[(23,lr aa.Kids),(24,I (aa.Kids.length:Int)),(25,I x)],[]⟩) h ?_ ?_
    ·exact ai.lq [] J J J
    ·intro n6 z1 aE J1 dN h gH df
     obtain rfl:=dN
     replace h:eo self aa n6=some z1:=h
     unfold eo at h
     refine ax<|ae.qv (bG J J) J<|rN<|tS<|cD h J (fun h=>?_) (fun h=>?_)
     ·refine tK<|tS<|ab.block<|ax<|au h fun v7 e3 h=>ae.qv (aO J J J e3 J (by rw [Query.pV];rfl)) J<|ae.qv (aF J J J) J<|bf J J J J fun b8=>aq J J J J .p0 J J<|rN<|ax<|ae.qv (ao J J .p0 J) J<|au h fun v9 e4 h=>aG J (pn e4) cR J<|rA J J<|rN<|ax<|rM J J<|ae.qv (cG J J) J<|rN<|cD h J (fun h=>?_) (fun h=>?_)
      ·refine ax<|rM J J<|rA J J<|rN<|ab.ret<|have h:=bE h df;?_
       cases h
       exact hP J J
      ·refine tK<|ab.cF<|tR<|ae.qv (bd J J) J<|rM J J<|rN<|ab.stop<|?_
       cases h
       exact gH _ _ J<|ai.lq [] J J J
     ·refine ab.exit J<|have h:=bE h df;ax<|rA J J<|rN<|ab.ret<|?_
      cases h
      exact hP J J
theorem yo:∀ (k:Nat) {aa:Query} {r:Int},di k aa=some r→Pu Tryz.prog 311 [.agg [I aa.Kind,.str aa.Field,.str aa.Op,I aa.Value.Kind,.bool aa.Value.cf,I aa.Value.Number,.str aa.Value.Words,I aa.Version.bQ,I aa.Version.bR,I aa.Version.bN,lr aa.Kids]] (I r):=by
 intro k
 induction k with
 | zero=>intro aa r h;cases h
 | succ k ih=>intro aa r h;exact xT ih h
theorem Aa {aa:Query} {r:Int} (h:tM aa=some r):Pu Tryz.prog 311 [.agg [I aa.Kind,.str aa.Field,.str aa.Op,I aa.Value.Kind,.bool aa.Value.cf,I aa.Value.Number,.str aa.Value.Words,I aa.Version.bQ,I aa.Version.bR,I aa.Version.bN,lr aa.Kids]] (I r):=yo depth h
theorem zg {aa:Query} {r:Int} (h:dC aa=some r):Pu Tryz.prog 258 [.agg [I aa.Kind,.str aa.Field,.str aa.Op,I aa.Value.Kind,.bool aa.Value.cf,I aa.Value.Number,.str aa.Value.Words,I aa.Version.bQ,I aa.Version.bR,I aa.Version.bN,lr aa.Kids]] (I r):=by
 unfold dC at h
 refine aB.aS Tryz.func258 J Tryz.ntmps258 Tryz.results258 J J ?_
 refine ax<|cm J J J J fun b1=>rA J J<|rN<|tS<|ax<|ae.qv (ao J J .p0 J) J<|au h fun v2 e1 h=>aG J (Cu e1) cR J<|rM J J<|rX J J J<|rX J J J<|rA J J<|rA J J<|rN<|tS<|ab.cut (fun aE=>∃ (c3:Bool),lC aa c3=some r∧aE=⟨18,[(1,.ptr b1 0),(15,.bool c3)],[(b1,.cells (wX aa))]⟩) ?_ ?_
 ·refine tR<|rM J J<|ae.qv (fO J J) J<|rM J J<|ae.fC J J J (fun hc=>?_) (fun hc=>?_)
  ·rw [zK hc] at h
   exact rM J J<|rY J J J<|ae.qv (fO J J) J<|rE J J J<|rN<|ab.stop<|ai.lq [0] ⟨decide ((20:Int) < v2.2),h,J⟩ J J
  ·rw [zJ hc] at h
   exact rG J J J J<|rT J J J<|rN<|ab.stop<|ai.lq [0] ⟨true,h,J⟩ J J
 ·rintro aE ⟨c3,h,rfl⟩
  unfold lC at h
  refine cB h J (fun h=>?_) (fun h=>?_)
  ·refine ax<|rA J J<|rN<|ab.ret<|?_
   cases h
   exact hP J J
  ·refine tK<|ax<|ae.qv (ao J J .p0 J) J<|au h fun v4 e2 h=>aG J (Aa e2) cR J<|rA J J<|rN<|ab.ret<|?_
   cases h
   exact hP J J
theorem zh [GI:bx] {aa:List Int} {r:Int} (h:tN aa=some r):Pu Tryz.prog 79 [du aa] (I r):=by
 unfold tN at h
 refine aB.aS Tryz.func79 J Tryz.ntmps79 Tryz.results79 J J ?_
 refine ax<|rA J J<|rN<|tS<|ax<|rM J J<|ae.qv (bA J) J<|rM J J<|rN<|ab.block<|ab.cq (fun x:Int=>rZ aa x) (fun x aE=>aE=⟨15,[(5,du aa),(6,I (aa.length:Int)),(7,I x)],[]⟩) h ?_ ?_
 ·exact ai.lq [] J J J
 ·intro n2 z1 aE J1 dN h gH df
  obtain rfl:=dN
  replace h:rZ aa n2=some z1:=h
  unfold rZ at h
  refine ax<|ae.qv (bG J J) J<|rN<|tS<|cD h J (fun h=>?_) (fun h=>?_)
  ·refine tK<|tS<|ab.block<|ax<|au h fun v3 e1 h=>ae.qv (aO J J J e1 J J) J<|ae.qv (aJ J J J) J<|rA J J<|rN<|ax<|rM J J<|ae.qv (cG J J) J<|rN<|cD h J (fun h=>?_) (fun h=>?_)
   ·refine ax<|rM J J<|rA J J<|rN<|ab.ret<|have h:=bE h df;?_
    cases h
    exact hP J J
   ·refine tK<|ab.cF<|tR<|ae.qv (bd J J) J<|rM J J<|rN<|ab.stop<|?_
    cases h
    exact gH _ _ J<|ai.lq [] J J J
  ·refine ab.exit J<|have h:=bE h df;ax<|rA J J<|rN<|ab.ret<|?_
   cases h
   exact hP J J
theorem Dz [GI:bx] {aa:lA} {r:Bool} (h:pz aa=r):Pu Tryz.prog 259 [lA.av aa] (.bool r):=by
 unfold pz at h
 refine aB.aS Tryz.func259 J Tryz.ntmps259 Tryz.results259 J J ?_
 refine ax<|cm J J J J fun b1=>rA J J<|rN<|tS<|ab.cut (fun aE=>∃ (c2:Bool),qs c2=r∧aE=⟨14,[(2,.bool c2)],[]⟩) ?_ ?_
 ·refine tR<|rF J J J<|rL J J .p0 J J<|rF J J J<|rL J J .p0 J J<|aG J (nE J) cR J<|ae.qv (bX J) J<|rM J J<|ae.guard J J J (fun hc=>?_) (fun hc=>?_)
  ·rw [wF hc] at h
   exact rF J J J<|rY J J J<|rL J J .p0 J J<|rY J J J<|ae.qv (r8 J J) J<|rT J J J<|rA J J<|rN<|ab.stop<|ai.lq [] ⟨decide (aa.To≤(345686400000:Int)),h,J⟩ J J
  ·rw [wG hc] at h
   exact rG J J J J<|rG J J J J<|rE J J J<|rA J J<|rN<|ab.stop<|ai.lq [] ⟨false,h,J⟩ J J
 ·rintro aE ⟨c2,h,rfl⟩
  unfold qs at h
  refine ab.ret<|?_
  obtain rfl:=h
  exact hP J J
theorem ud {br:Bk} {aU:Bk} {bS:Bk} {bU:Bk} {bV:Bk} {bW:Bk} {aa:aC} {r:Int} (h:eC aa=some r):aB Tryz.prog 192 [.ptr br 0] [(br,.cells (mV aa aU bS bU bV bW)),(aU,eG aa.a8)] (T0 ([(br,.cells (mV aa aU bS bU bV bW)),(aU,eG aa.a8)]) (I r)):=by
 unfold eC at h
 refine aB.dS ?_
 refine aB.aS Tryz.func192 J Tryz.ntmps192 Tryz.results192 J J ?_
 refine ax<|rA J J<|rN<|tS<|ax<|rM J J<|ae.qv (aY J) J<|rF J J J<|rF J J J<|rL J J .p0 J J<|ae.qv (bA J) J<|ae.qv (fO J J) J<|rN<|cD h J (fun h=>?_) (fun h=>?_)
 ·refine ax<|rA J J<|rN<|ab.ret<|?_
  cases h
  exact hH J [0,0] J ⟨J,J⟩
 ·refine tK<|tS<|ax<|rM J J<|ae.qv (aY J) J<|rF J J J<|rF J J J<|rL J J .p0 J J<|ae.qv (bA J) J<|rM J J<|rN<|ab.block<|ab.cq (fun x:Int=>eN aa x) (fun x aE=>aE=⟨98,[(0,.ptr br 0),(17,Ch aa.bu.aR),(18,I (aa.bu.aR.length:Int)),(19,I x)],[(br,.cells (mV aa aU bS bU bV bW)),(aU,eG aa.a8)]⟩) h ?_ ?_
  ·exact ai.lq [0,0] J J J
  ·intro n2 z1 aE J1 dN h gH df
   obtain rfl:=dN
   replace h:eN aa n2=some z1:=h
   unfold eN at h
   refine ax<|ae.qv (bG J J) J<|rN<|tS<|cD h J (fun h=>?_) (fun h=>?_)
   ·refine tK<|tS<|ab.block<|ax<|rM J J<|au h fun v3 e1 h=>ae.qv (aO J J J e1 J J) J<|ae.qv (aF J J J) J<|bf J J J J fun b4=>rA J J<|aq J J J J .p0 J J<|rN<|tS<|ab.block<|ax<|rF J J J<|rL J J .p0 J J<|au h fun v5 e2 h=>aG J (lD e2) cR J<|ae.qv (bX J) J<|rA J J<|rN<|cB h J (fun h=>?_) (fun h=>?_)
    ·refine ax<|rA J J<|rN<|ab.ret<|have h:=bE h df;?_
     cases h
     exact hH J [1,1] J ⟨J,J⟩
    ·refine tS<|ab.cut (fun aE=>∃ (c6:Bool),cS aa n2 v3 c6=some z1∧aE=⟨98,[(0,.ptr br 0),(4,.ptr b4 0),(17,Ch aa.bu.aR),(18,I (aa.bu.aR.length:Int)),(19,I n2),(29,.bool c6)],[(br,.cells (mV aa aU bS bU bV bW)),(aU,eG aa.a8),(b4,.cells (QI v3))]⟩) ?_ ?_
     ·refine ab.cV (id:=8) (A:=[0,1,3,7,15,7,39,103,231,487,7,1031,4071,8167,16359,32767,65535,131071]) 18 mixed J (by kernel_rfl) (by kernel_rfl)<|AM.qv (aQ J) J<|AM.qv (fO J J) J<|AM.qv (aQ J) J<|AM.cN J J J (fun hc=>?_) (fun hc=>?_)
      ·exact have h:=lL hc h;AM.qv (az J J) J<|AM.ar J J J<|AM.qv (aI J J .p0 J) J<|AM.ar J J J<|AM.qv (aQ J) J<|AM.ar J J J<|AM.qv (aY J) J<|AM.ar J J J<|AM.qv (az J J) J<|AM.ar J J J<|AM.qv (az J J) J<|AM.ar J J J<|AM.qv (aI J J .p1 J) J<|AM.ar J J J<|AM.qv (aQ J) J<|AM.ar J J J<|AM.qv (gi J J) J<|AM.ar J J J<|au h fun v7 e3 h=>AM.qv (aO J J J e3 J J) J<|AM.ar J J J<|AM.qv (cU J J) J<|AM.ar J J J<|AM.qv (aJ J J J) J<|AM.ar J J J<|AM.qv (wI J J) J<|AM.qv (kS J J) J<|AM.qv (bI J) J<|AM.nil<|rN<|ab.stop<|ai.lq [1,1,0] ⟨Op.bytesLess v3.Key v7.Key||v3.Key==v7.Key,h,J⟩ J J
      ·exact have h:=zI hc h;AM.ay J J J J<|AM.ay J J J J<|AM.ay J J J J<|AM.ay J J J J<|AM.ay J J J J<|AM.ay J J J J<|AM.ay J J J J<|AM.ay J J J J<|AM.ay J J J J<|AM.ay J J J J<|AM.ay J J J J<|AM.ay J J J J<|AM.qv (kT J J) J<|AM.qv (bI J) J<|AM.nil<|rN<|ab.stop<|ai.lq [1,1,0] ⟨false,h,J⟩ J J
     ·rintro aE ⟨c6,h,rfl⟩
      unfold cS at h
      refine cB h J (fun h=>?_) (fun h=>?_)
      ·refine ax<|rA J J<|rN<|ab.ret<|have h:=bE h df;?_
       cases h
       exact hH J [0,0] J ⟨J,J⟩
      ·refine tS<|ab.cut (fun aE=>∃ (c8:Bool),cP aa n2 v3 c8=some z1∧aE=⟨98,[(0,.ptr br 0),(4,.ptr b4 0),(17,Ch aa.bu.aR),(18,I (aa.bu.aR.length:Int)),(19,I n2),(47,.bool c8)],[(br,.cells (mV aa aU bS bU bV bW)),(aU,eG aa.a8),(b4,.cells (QI v3))]⟩) ?_ ?_
       ·refine tR<|rM J J<|rF J J J<|rL J J .p2 J J<|au h fun v9 e4 h=>aK J (ec e4) cR (.cons .p0 (.cons .p0 .nil)) J J<|ae.qv (bX J) J<|rM J J<|ae.guard J J J (fun hc=>?_) (fun hc=>?_)
        ·exact have h:=lM hc h;rM J J<|rY J J J<|rF J J J<|rY J J J<|rL J J .p2 J J<|rY J J J<|au h fun v10 e5 h=>aK J (ec e5) cR (.cons .p0 (.cons .p0 .nil)) J J<|rY J J J<|ae.qv (bX J) J<|rE J J J<|rA J J<|rN<|ab.stop<|ai.lq [0,0,0] ⟨!v10,h,J⟩ J J
        ·exact have h:=lL hc h;rG J J J J<|rG J J J J<|rG J J J J<|rG J J J J<|rT J J J<|rA J J<|rN<|ab.stop<|ai.lq [0,0,0] ⟨true,h,J⟩ J J
       ·rintro aE ⟨c8,h,rfl⟩
        unfold cP at h
        refine cB h J (fun h=>?_) (fun h=>?_)
        ·refine ax<|rA J J<|rN<|ab.ret<|have h:=bE h df;?_
         cases h
         exact hH J [0,0] J ⟨J,J⟩
        ·refine tS<|ab.cut (fun aE=>∃ (y5:Bool),bY n2 v3 y5=some z1∧aE=⟨98,[(0,.ptr br 0),(4,.ptr b4 0),(17,Ch aa.bu.aR),(18,I (aa.bu.aR.length:Int)),(19,I n2),(60,.bool y5)],[(br,.cells (mV aa aU bS bU bV bW)),(aU,eG aa.a8),(b4,.cells (QI v3))]⟩) ?_ ?_
         ·refine tR<|rF J J J<|rL J J .p2 J J<|rF J J J<|rL J J .p2 J J<|ae.qv (iz J J) J<|rM J J<|gF h J J J (fun h=>?_) (fun h=>?_)
          ·refine rM J J<|rY J J J<|rF J J J<|rY J J J<|rL J J .p2 J J<|rY J J J<|rF J J J<|rY J J J<|rL J J .p2 J J<|rY J J J<|au h fun v12 e6 h=>aK J (qX e6) cR (.cons .p0 (.cons .p0 .nil)) J J<|rE J J J<|rM J J<|ae.guard J J J (fun hc=>?_) (fun hc=>?_)
           ·exact have h:=lM hc h;rM J J<|rY J J J<|rF J J J<|rY J J J<|rL J J .p2 J J<|rY J J J<|rF J J J<|rY J J J<|rL J J .p2 J J<|rY J J J<|au h fun oh e7 h=>aK J (qX e7) cR (.cons .p0 (.cons .p0 .nil)) J J<|rE J J J<|rA J J<|rN<|ab.stop<|ai.lq [0,0,0] ⟨oh,h,J⟩ J J
           ·exact have h:=lL hc h;rG J J J J<|rG J J J J<|rG J J J J<|rG J J J J<|rG J J J J<|rT J J J<|rA J J<|rN<|ab.stop<|ai.lq [0,0,0] ⟨true,h,J⟩ J J
          ·exact rG J J J J<|rG J J J J<|rG J J J J<|rG J J J J<|rG J J J J<|rT J J J<|rM J J<|rG J J J J<|rG J J J J<|rG J J J J<|rG J J J J<|rG J J J J<|rG J J J J<|rT J J J<|rA J J<|rN<|ab.stop<|ai.lq [0,0,0] ⟨true,h,J⟩ J J
         ·rintro aE ⟨y5,h,rfl⟩
          unfold bY at h
          refine cB h J (fun h=>?_) (fun h=>?_)
          ·refine ax<|rA J J<|rN<|ab.ret<|have h:=bE h df;?_
           cases h
           exact hH J [0,0] J ⟨J,J⟩
          ·refine tK<|ab.cF<|tS<|tS<|ab.cV (id:=14) (A:=[0,1,3,0,8,31,63,127,255]) 9 mixed J (by kernel_rfl) (by kernel_rfl)<|AM.qv (az J J) J<|AM.qv (bg J J .p2 J J) J<|au h fun xy e8 h=>AM.gj J (zg e8) cR J<|AM.qv (az J J) J<|AM.qv (aI J J .p2 J) J<|au h fun lB e9 h=>AM.gj J (tU e9) cR J<|AM.bz (xs:=([xy,lB]:List Int).map I) J J J J J J<|au h fun uq zS h=>AM.gj J (zh zS) cR J<|AM.qv (bI J) J<|AM.nil<|rN<|ax<|rM J J<|ae.qv (cG J J) J<|rN<|cD h J (fun h=>?_) (fun h=>?_)
           ·refine ax<|rM J J<|rA J J<|rN<|ab.ret<|have h:=bE h df;?_
            cases h
            exact hH J [0,0] J ⟨J,J⟩
           ·refine tK<|ax<|rF J J J<|ae.qv (bg J J .p2 J J) J<|aG J (Dz J) cR J<|ae.qv (bX J) J<|rN<|cB h J (fun h=>?_) (fun h=>?_)
            ·refine ax<|rA J J<|rN<|ab.ret<|have h:=bE h df;?_
             cases h
             exact hH J [0,0] J ⟨J,J⟩
            ·refine tK<|ab.cF<|tR<|ae.qv (bd J J) J<|rM J J<|rN<|ab.stop<|?_
             cases h
             exact gH _ _ J<|ai.lq [0,0] J J J
   ·refine ab.exit J<|have h:=bE h df;ax<|rA J J<|rN<|ab.ret<|?_
    cases h
    exact hH J [0,0] J ⟨J,J⟩
end Go.Proofs.YtckmkjeblanlfaaGreatDoor
