/- The code computes the plain functions: proofs written by shal.py. -/
import Derived.Test.YtnchkajkgjkpmaaGreatDoorRigW1
set_option maxHeartbeats 4000000
set_option maxRecDepth 100000
set_option linter.unusedVariables false
set_option linter.unusedSimpArgs false
namespace Go.Proofs.YtnchkajkgjkpmaaGreatDoor
open Go Go.Eng Go.Proofs Go.Beacon
attribute [local irreducible] ARun ATodo AQ QV ACall ImpX AWp AM
theorem sB [GI:bc] {bd:Bk} {bB:Bk} {bY:Bk} {cm:Bk} {cq:Bk} {dj:Bk} {aa:ak} {ah:ae} {aT:ae} {r:Bool} (h:gY aa ah aT=some r):ACall Tryz.prog 215 [.ptr bd 0,.str ah,.str aT] [(bd,.cells (sq aa bB bY cm cq dj)),(bB,eU aa.aW)] (T0 ([(bd,.cells (sq aa bB bY cm cq dj)),(bB,eU aa.aW)]) (.bool r)):=by
 unfold gY at h
 refine ACall.dN ?_
 refine ACall.aQ Tryz.func215 J Tryz.ntmps215 Tryz.results215 J J ?_
 refine ax<|rA J J<|rN<|tS<|ATodo.cut (fun aB=>∃ (c1:Bool),gE c1=some r∧aB=⟨17,[(6,.bool c1)],[(bd,.cells (sq aa bB bY cm cq dj)),(bB,eU aa.aW)]⟩) ?_ ?_
 ·refine tR<|rM J J<|rM J J<|ARun.qv (qD J J) J<|rM J J<|gT h J J J (fun h=>?_) (fun h=>?_)
  ·exact rM J J<|rY J J J<|rM J J<|rY J J J<|aq h fun v2 e1 h=>eE J (mS e1) cR (.cons .p0 (.cons .p0 .nil)) (fun _=>J) J fun b3=>rY J J J<|rM J J<|rY J J J<|aq h fun v4 e2 h=>dc J (ba e2) (.cons (vI.uf .p2) (.cons (.co (.refl _)) .nil)) J J<|rT J J J<|rA J J<|rN<|ATodo.stop<|ImpX.lq [0,0] ⟨v4,h,J⟩ J J
  ·exact rG J J J J<|rG J J J J<|rG J J J J<|rG J J J J<|rE J J J<|rA J J<|rN<|ATodo.stop<|ImpX.lq [0,0] ⟨false,h,J⟩ J J
 ·rintro aB ⟨c1,h,rfl⟩
  unfold gE at h
  refine ATodo.ret<|?_
  cases h
  exact hH J [0,0] J ⟨J,J⟩
theorem BC [GI:bc] {self:Query→Option (Int×Int)} (kP:∀ {aa:Query} {r:Int×Int},self aa=some r→Pu Tryz.prog 289 [.agg [I aa.Kind,.str aa.Field,.str aa.Op,I aa.Value.Kind,.bool aa.Value.bV,I aa.Value.Number,.str aa.Value.Words,I aa.Version.bH,I aa.Version.bI,I aa.Version.bF,oX aa.Kids]] (.pj [I r.1,I r.2])) {aa:Query} {r:Int×Int} (h:np self aa=some r):Pu Tryz.prog 289 [.agg [I aa.Kind,.str aa.Field,.str aa.Op,I aa.Value.Kind,.bool aa.Value.bV,I aa.Value.Number,.str aa.Value.Words,I aa.Version.bH,I aa.Version.bI,I aa.Version.bF,oX aa.Kids]] (.pj [I r.1,I r.2]):=by
 unfold np at h
 refine ACall.aQ Tryz.func289 J Tryz.ntmps289 Tryz.results289 J J ?_
 refine ax<|bO J J J J fun b1=>rA J J<|rA J J<|rN<|tS<|tS<|ATodo.cut (fun aB=>∃ (c2:Bool),qe self aa c2=some r∧aB=⟨38,[(1,.ptr b1 0),(2,I (0:Int)),(3,I (0:Int)),(15,.bool c2)],[(b1,.cells (xi aa))]⟩) ?_ ?_
 ·refine tR<|rF J J J<|rL J J .p0 J J<|ARun.qv (bS J J) J<|rM J J<|ARun.dA J J J (fun hc=>?_) (fun hc=>?_)
  ·rw [zF hc] at h
   exact rF J J J<|rY J J J<|rL J J .p0 J J<|rY J J J<|ARun.qv (bS J J) J<|rE J J J<|rN<|ATodo.stop<|ImpX.lq [0] ⟨decide (aa.Kind=(2:Int)),h,J⟩ J J
  ·rw [zE hc] at h
   exact rG J J J J<|rG J J J J<|rT J J J<|rN<|ATodo.stop<|ImpX.lq [0] ⟨true,h,J⟩ J J
 ·rintro aB ⟨c2,h,rfl⟩
  unfold qe at h
  refine ATodo.cut (fun aB=>∃ (n3:Int),nn self aa n3=some r∧aB=⟨38,[(1,.ptr b1 0),(2,I n3),(3,I (0:Int))],[(b1,.cells (xi aa))]⟩) ?_ ?_
  ·refine cB h J (fun h=>?_) (fun h=>?_)
   ·exact tR<|rA J J<|rN<|ATodo.stop<|ImpX.lq [0] ⟨(1:Int),h,J⟩ J J
   ·exact tK<|ATodo.stop<|ImpX.lq [0] ⟨(0:Int),h,J⟩ J J
  ·rintro aB ⟨n3,h,rfl⟩
   unfold nn at h
   refine tS<|ax<|rF J J J<|rL J J .p0 J J<|ARun.qv (bD J) J<|rM J J<|rN<|ATodo.block<|ATodo.bT (fun x:Int×Int×Int=>fY self aa x.1 x.2.1 x.2.2) (fun x aB=>aB=⟨38,[(2,I x.1),(3,I x.2.1),(17,oX aa.Kids),(18,I (aa.Kids.length:Int)),(19,I x.2.2)],[]⟩) h ?_ ?_
   ·exact ImpX.lq [] J J J
   ·intro x z1 aB J1 dB h ic dm
    obtain ⟨n7,n8,n9⟩:=x
    obtain rfl:=dB
    replace h:fY self aa n7 n8 n9=some z1:=h
    unfold fY at h
    refine ax<|ARun.qv (bu J J) J<|rN<|tS<|cD h J (fun h=>?_) (fun h=>?_)
    ·refine tK<|tS<|ATodo.block<|ax<|aq h fun v10 e1 h=>ARun.qv (aP J J J e1 J (by rw [Query.tN];rfl)) J<|ARun.qv (aH J J J) J<|bn J J J J fun ud=>au J J J J .p0 J J<|rN<|ax<|ARun.qv (ao J J .p0 J) J<|aq h fun v12 e2 h=>aA J (kP e2) cR J<|rM J J<|rX J J J<|rX J J J<|rA J J<|rA J J<|rN<|tR<|rM J J<|rM J J<|ARun.qv (bh J J) J<|rM J J<|rM J J<|ARun.qv (TH J J) J<|rA J J<|rA J J<|rN<|ATodo.bU<|tR<|ARun.qv (bh J J) J<|rM J J<|rN<|ATodo.stop<|?_
     cases h
     exact ic _ _ J<|ImpX.lq [] J J J
    ·refine ATodo.exit J<|have h:=bz h dm;ax<|rM J J<|rM J J<|ARun.qv (bh J J) J<|rA J J<|rA J J<|rN<|ATodo.ret<|?_
     cases h
     exact hQ J J J
theorem Cq [GI:bc]:∀ (k:Nat) {aa:Query} {r:Int×Int},fX k aa=some r→Pu Tryz.prog 289 [.agg [I aa.Kind,.str aa.Field,.str aa.Op,I aa.Value.Kind,.bool aa.Value.bV,I aa.Value.Number,.str aa.Value.Words,I aa.Version.bH,I aa.Version.bI,I aa.Version.bF,oX aa.Kids]] (.pj [I r.1,I r.2]):=by
 intro k
 induction k with
 | zero=>intro aa r h;cases h
 | succ k ih=>intro aa r h;exact BC ih h
theorem ES [GI:bc] {aa:Query} {r:Int×Int} (h:xx aa=some r):Pu Tryz.prog 289 [.agg [I aa.Kind,.str aa.Field,.str aa.Op,I aa.Value.Kind,.bool aa.Value.bV,I aa.Value.Number,.str aa.Value.Words,I aa.Version.bH,I aa.Version.bI,I aa.Version.bF,oX aa.Kids]] (.pj [I r.1,I r.2]):=Cq depth h
theorem oY [GI:bc] {aa:Int} {ah:Int} {aT:Int} {r:Bool} (h:kq aa ah aT=r):Pu Tryz.prog 144 [I aa,I ah,I aT] (.bool r):=by
 unfold kq at h
 refine ACall.aQ Tryz.func144 J Tryz.ntmps144 Tryz.results144 J J ?_
 refine ax<|rA J J<|rN<|tS<|ATodo.cut (fun aB=>∃ (c1:Bool),tQ c1=r∧aB=⟨15,[(6,.bool c1)],[]⟩) ?_ ?_
 ·refine tR<|rM J J<|rM J J<|ARun.qv (bu J J) J<|rM J J<|ARun.dA J J J (fun hc=>?_) (fun hc=>?_)
  ·rw [zF hc] at h
   exact rM J J<|rY J J J<|rM J J<|rY J J J<|ARun.qv (dJ J J) J<|rE J J J<|rA J J<|rN<|ATodo.stop<|ImpX.lq [] ⟨decide (aT < aa),h,J⟩ J J
  ·rw [zE hc] at h
   exact rG J J J J<|rG J J J J<|rT J J J<|rA J J<|rN<|ATodo.stop<|ImpX.lq [] ⟨true,h,J⟩ J J
 ·rintro aB ⟨c1,h,rfl⟩
  unfold tQ at h
  refine ATodo.ret<|?_
  obtain rfl:=h
  exact hP J J
theorem zO [GI:bc] {aa:Query} {ah:Query} {r:Bool} (h:oc aa ah=r):Pu Tryz.prog 355 [.agg [I aa.Kind,.str aa.Field,.str aa.Op,I aa.Value.Kind,.bool aa.Value.bV,I aa.Value.Number,.str aa.Value.Words,I aa.Version.bH,I aa.Version.bI,I aa.Version.bF,oX aa.Kids],.ik [I ah.Kind,.str ah.Field,.str ah.Op,I ah.Value.Kind,.bool ah.Value.bV,I ah.Value.Number,.str ah.Value.Words,I ah.Version.bH,I ah.Version.bI,I ah.Version.bF,oX ah.Kids]] (.bool r):=by
 unfold oc at h
 refine ACall.aQ Tryz.func355 J Tryz.ntmps355 Tryz.results355 J J ?_
 refine ax<|bO J J J J fun b1=>rA J J<|rN<|ax<|rF J J J<|rL J J .p0 J J<|ARun.qv (bJ J J) J<|ARun.qv (aG J J J) J<|ARun.qv (bS J J) J<|rA J J<|rN<|ATodo.ret<|?_
 obtain rfl:=h
 exact hP J J
theorem sS [GI:bc] {aa:List Query} {er:Query→Option Bool} {cL:FuncId} [aZ Tryz.prog cL] {dR:List AV} (jw:∀ {y0:_} {u:Bool},er y0=some u→Pu Tryz.prog cL (.agg [I y0.Kind,.str y0.Field,.str y0.Op,I y0.Value.Kind,.bool y0.Value.bV,I y0.Value.Number,.str y0.Value.Words,I y0.Version.bH,I y0.Version.bI,I y0.Version.bF,oX y0.Kids] :: dR) (.bool u)) {r:Int} (h:jl aa er=some r):Pu Tryz.prog 237 [oX aa,.func (.func cL) dR] (I r):=by
 unfold jl at h
 refine ACall.aQ Tryz.func237 J Tryz.ntmps237 Tryz.results237 J J ?_
 refine ax<|rA J J<|rN<|tS<|ax<|rM J J<|ARun.qv (bD J) J<|rM J J<|rN<|ATodo.block<|ATodo.bT (fun x:Int=>eW aa er x) (fun x aB=>aB=⟨19,[(0,oX aa),(1,.func (.func cL) dR),(7,I (aa.length:Int)),(8,I x)],[]⟩) h ?_ ?_
 ·exact ImpX.lq [] J J J
 ·intro n2 z1 aB J1 dB h ic dm
  obtain rfl:=dB
  replace h:eW aa er n2=some z1:=h
  unfold eW at h
  refine ax<|ARun.qv (bu J J) J<|rN<|tS<|cD h J (fun h=>?_) (fun h=>?_)
  ·refine tK<|tS<|ATodo.block<|ax<|rM J J<|rA J J<|rN<|ax<|rM J J<|rM J J<|rM J J<|aq h fun v3 e1 h=>ARun.qv (aP J J J e1 J (by rw [Query.tN];rfl)) J<|ARun.qv (aH J J J) J<|aq h fun v4 e2 h=>tG J J (jw e2) cR J<|rN<|cB h J (fun h=>?_) (fun h=>?_)
   ·refine ax<|rM J J<|rA J J<|rN<|ATodo.ret<|have h:=bz h dm;?_
    cases h
    exact hP J J
   ·refine tK<|ATodo.bU<|tR<|ARun.qv (bh J J) J<|rM J J<|rN<|ATodo.stop<|?_
    cases h
    exact ic _ _ J<|ImpX.lq [] J J J
  ·refine ATodo.exit J<|have h:=bz h dm;ax<|rA J J<|rN<|ATodo.ret<|?_
   cases h
   exact hP J J
theorem gu [GI:bc] {aa:List Query} {er:Query→Option Bool} {cL:FuncId} [aZ Tryz.prog cL] {dR:List AV} (jw:∀ {y0:_} {u:Bool},er y0=some u→Pu Tryz.prog cL (.agg [I y0.Kind,.str y0.Field,.str y0.Op,I y0.Value.Kind,.bool y0.Value.bV,I y0.Value.Number,.str y0.Value.Words,I y0.Version.bH,I y0.Version.bI,I y0.Version.bF,oX y0.Kids] :: dR) (.bool u)) {r:Bool} (h:bQ aa er=some r):Pu Tryz.prog 159 [oX aa,.func (.func cL) dR] (.bool r):=by
 unfold bQ at h
 refine ACall.aQ Tryz.func159 J Tryz.ntmps159 Tryz.results159 J J ?_
 refine ax<|rA J J<|rN<|ax<|rM J J<|rM J J<|aq h fun v1 e1 h=>dc J (sS jw e1) (.cons (.co (.refl _)) (.cons (.co (.refl _)) .nil)) J J<|ARun.qv (uu J J) J<|rA J J<|rN<|ATodo.ret<|?_
 cases h
 exact hP J J
theorem Cr [GI:bc] {aa:Query} {r:Int} (h:oL aa=some r):Pu Tryz.prog 329 [.agg [I aa.Kind,.str aa.Field,.str aa.Op,I aa.Value.Kind,.bool aa.Value.bV,I aa.Value.Number,.str aa.Value.Words,I aa.Version.bH,I aa.Version.bI,I aa.Version.bF,oX aa.Kids]] (I r):=by
 unfold oL at h
 refine ACall.aQ Tryz.func329 J Tryz.ntmps329 Tryz.results329 J J ?_
 refine ax<|bO J J J J fun b1=>rA J J<|rN<|tS<|ax<|rF J J J<|rL J J .p0 J J<|aA J (oY J) cR J<|rN<|cB h J (fun h=>?_) (fun h=>?_)
 ·refine ax<|rA J J<|rN<|ATodo.ret<|?_
  cases h
  exact hP J J
 ·refine tK<|ax<|rF J J J<|rL J J .p0 J J<|ARun.qv (bD J) J<|rA J J<|rN<|ax<|rM J J<|ARun.qv (du J J) J<|rA J J<|rN<|ax<|rF J J J<|rL J J .p0 J J<|ARun.qv (bl J J J J J) J<|bn J J J J fun b2=>au J J J J .p0 J J<|rN<|tS<|ax<|rF J J J<|rL J J .p1 J J<|rN<|ATodo.block<|ax<|ARun.qv (bS J J) J<|rA J J<|rN<|ATodo.cut (fun aB=>∃ (c3:Bool) (q4:ae) (q5:ae) (n6:Int) (c7:Bool) (n8:Int) (q9:ae) (n10:Int) (n11:Int) (n12:Int),k8 aa c3 q4 q5 n6 c7 n8 q9 n10 n11 n12=some r∧aB=⟨79,[(1,.ptr b1 0),(4,.bool c3),(5,.ptr b2 0)],[(b1,.cells (xi aa)),(b2,.cells [I aa.Kind,.str q4,.str q5,I n6,.bool c7,I n8,.str q9,I n10,I n11,I n12,.nil])]⟩) ?_ ?_
  ·refine cD h J (fun h=>?_) (fun h=>?_)
   ·refine ATodo.kZ (id:=9) (A:=[0,1,0,4,0,16,0,64,3,259,783,1807,3903,7999,16383,32767]) (H0:=[(b2,.cells [I aa.Kind,.str [],.str [],I (0:Int),.bool false,I (0:Int),.str [],I (0:Int),I (0:Int),I (0:Int),.nil])]) (HH:=fun β=>[(b2,.cells [I aa.Kind,.str aa.Field,.str aa.Op,I aa.Value.Kind,.bool aa.Value.bV,I aa.Value.Number,.str aa.Value.Words,I (0:Int),I (0:Int),I (0:Int),.nil]),(b1,.cells (xi aa))]) 14 mixed J (by kernel_rfl) (by kernel_rfl) [⟨none,some 9,[],fun _=>(b2,.cells [I aa.Kind,.str [],.str [],I (0:Int),.bool false,I (0:Int),.str [],I (0:Int),I (0:Int),I (0:Int),.nil]),none,[]⟩,⟨some 9,some 11,[],fun _=>(b2,.cells [I aa.Kind,.str aa.Field,.str [],I (0:Int),.bool false,I (0:Int),.str [],I (0:Int),I (0:Int),I (0:Int),.nil]),none,[]⟩,⟨some 11,some 13,[],fun _=>(b2,.cells [I aa.Kind,.str aa.Field,.str aa.Op,I (0:Int),.bool false,I (0:Int),.str [],I (0:Int),I (0:Int),I (0:Int),.nil]),none,[]⟩,⟨some 13,none,[],fun _=>(b2,.cells [I aa.Kind,.str aa.Field,.str aa.Op,I aa.Value.Kind,.bool aa.Value.bV,I aa.Value.Number,.str aa.Value.Words,I (0:Int),I (0:Int),I (0:Int),.nil]),none,[]⟩] [] J (by kernel_rfl) J (.cons .p0 .nil) (fun _=>J)<|AT.am 9 J J<|AM.qv (an J J) J<|AM.qv (az J J .p0 J) J<|AM.qv (an J J) J<|AM.qv (az J J .p0 J) J<|AM.qv (an J J) J<|AM.qv (aU J J .p0 J J) J<|AM.qv (an J J) J<|AM.qv (aU J J .p0 J J) J<|AM.qv (an J J) J<|AM.nil<|AT.UW (Ti:=[(b2,.cells [I aa.Kind,.str [],.str [],I (0:Int),.bool false,I (0:Int),.str [],I (0:Int),I (0:Int),I (0:Int),.nil])]) (Pi:=[(b2,.cells [I aa.Kind,.str aa.Field,.str [],I (0:Int),.bool false,I (0:Int),.str [],I (0:Int),I (0:Int),I (0:Int),.nil])]) (fun _=>J) (fun _=>J) (fun _=>J) J J ?_ ?_
    ·exact au J J J J .p0 J J<|ARun.nil ⟨_,J⟩
    refine AT.am 1 J J<|AM.qv (an J J) J<|AM.nil<|AT.UW (Ti:=[(b2,.cells [I aa.Kind,.str aa.Field,.str [],I (0:Int),.bool false,I (0:Int),.str [],I (0:Int),I (0:Int),I (0:Int),.nil])]) (Pi:=[(b2,.cells [I aa.Kind,.str aa.Field,.str aa.Op,I (0:Int),.bool false,I (0:Int),.str [],I (0:Int),I (0:Int),I (0:Int),.nil])]) (fun _=>J) (fun _=>J) (fun _=>J) J J ?_ ?_
    ·exact au J J J J .p0 J J<|ARun.nil ⟨_,J⟩
    refine AT.am 1 J J<|AM.qv (an J J) J<|AM.nil<|AT.UW (Ti:=[(b2,.cells [I aa.Kind,.str aa.Field,.str aa.Op,I (0:Int),.bool false,I (0:Int),.str [],I (0:Int),I (0:Int),I (0:Int),.nil])]) (Pi:=[(b2,.cells [I aa.Kind,.str aa.Field,.str aa.Op,I aa.Value.Kind,.bool aa.Value.bV,I aa.Value.Number,.str aa.Value.Words,I (0:Int),I (0:Int),I (0:Int),.nil])]) (fun _=>J) (fun _=>J) (fun _=>J) J J ?_ ?_
    ·exact au J J J J .p0 J J<|ARun.nil ⟨_,J⟩
    exact AT.yx (fun _=>J) fun β=>rF J J J<|au J J J J .p0 J J<|rN<|ATodo.stop<|ImpX.lq [1,0] ⟨decide ((aa.Kids.length:Int)≠(0:Int)),aa.Field,aa.Op,aa.Value.Kind,aa.Value.bV,aa.Value.Number,aa.Value.Words,aa.Version.bH,aa.Version.bI,aa.Version.bF,h,J⟩ J J
   ·refine ax<|ARun.qv (bS J J) J<|rA J J<|rN<|ATodo.cut (fun aB=>∃ (Dp:Bool) (OF:ae),iY aa Dp OF=some r∧aB=⟨79,[(1,.ptr b1 0),(4,.bool Dp),(5,.ptr b2 0)],[(b1,.cells (xi aa)),(b2,.cells [I aa.Kind,.str OF,.str [],I (0:Int),.bool false,I (0:Int),.str [],I (0:Int),I (0:Int),I (0:Int),.nil])]⟩) ?_ ?_
    ·refine cD h J (fun h=>?_) (fun h=>?_)
     ·exact tR<|rF J J J<|rL J J .p1 J J<|rF J J J<|au J J J J .p0 J J<|rN<|ATodo.stop<|ImpX.lq [1,0] ⟨decide ((aa.Kids.length:Int)≠(0:Int)),aa.Field,h,J⟩ J J
     ·refine ax<|ARun.qv (bS J J) J<|rA J J<|rN<|ATodo.cut (fun aB=>∃ (OJ:Bool),iZ aa OJ=some r∧aB=⟨79,[(1,.ptr b1 0),(4,.bool OJ),(5,.ptr b2 0)],[(b1,.cells (xi aa)),(b2,.cells [I aa.Kind,.str [],.str [],I (0:Int),.bool false,I (0:Int),.str [],I (0:Int),I (0:Int),I (0:Int),.nil])]⟩) ?_ ?_
      ·refine cD h J (fun h=>?_) (fun h=>?_)
       ·exact tR<|rM J J<|ARun.qv (du J J) J<|rA J J<|rN<|ATodo.stop<|ImpX.lq [1,0] ⟨decide ((aa.Kids.length:Int)≠(1:Int)),h,J⟩ J J
       ·refine ATodo.cut (fun aB=>∃ (Lu:Bool),k9 aa Lu=some r∧aB=⟨79,[(1,.ptr b1 0),(4,.bool Lu),(5,.ptr b2 0)],[(b1,.cells (xi aa)),(b2,.cells [I aa.Kind,.str [],.str [],I (0:Int),.bool false,I (0:Int),.str [],I (0:Int),I (0:Int),I (0:Int),.nil])]⟩) ?_ ?_
        ·refine tR<|rM J J<|ARun.qv (bu J J) J<|rM J J<|gF h J J J (fun h=>?_) (fun h=>?_)
         ·exact rF J J J<|rY J J J<|rL J J .p1 J J<|rY J J J<|ARun.qv (fI J) J<|rY J J J<|aq h fun v17 e1 h=>dc J (gu (fun e=>zO (Option.some.inj e)) e1) (.cons (.co (.refl _)) (.cons (.uX _ _ _ (.cons (.wo _ _ _ .p1 (.cons (.co (.refl _)) (.cons (.co (.refl _)) (.cons (.co (.refl _)) (.cons (.co (.refl _)) (.cons (.co (.refl _)) (.cons (.co (.refl _)) (.cons (.co (.refl _)) (.cons (.co (.refl _)) (.cons (.co (.refl _)) (.cons (.co (.refl _)) (.cons (.co (.refl _)) .nil)))))))))))) .nil)) .nil)) J J<|rE J J J<|rA J J<|rN<|ATodo.stop<|ImpX.lq [1,0] ⟨v17,h,J⟩ J J
         ·exact rG J J J J<|rG J J J J<|rG J J J J<|rT J J J<|rA J J<|rN<|ATodo.stop<|ImpX.lq [1,0] ⟨true,h,J⟩ J J
        ·rintro aB ⟨Lu,h,rfl⟩
         unfold k9 at h
         exact ATodo.stop<|ImpX.lq [0,0] ⟨Lu,h,J⟩ J J
      ·rintro aB ⟨OJ,h,rfl⟩
       unfold iZ at h
       exact ATodo.stop<|ImpX.lq [0,0] ⟨OJ,[],h,J⟩ J J
    ·rintro aB ⟨Dp,OF,h,rfl⟩
     unfold iY at h
     exact ATodo.stop<|ImpX.lq [0,0] ⟨Dp,OF,[],(0:Int),false,(0:Int),[],(0:Int),(0:Int),(0:Int),h,J⟩ J J
  ·rintro aB ⟨c3,q4,q5,n6,c7,n8,q9,n10,n11,n12,h,rfl⟩
   unfold k8 at h
   refine ATodo.bU<|tS<|tS<|ATodo.cut (fun aB=>∃ (P3:Bool),rJ P3=some r∧aB=⟨79,[(78,.bool P3)],[]⟩) ?_ ?_
   ·refine tR<|rM J J<|rM J J<|ARun.guard J J J (fun hc=>?_) (fun hc=>?_)
    ·rw [FJ hc] at h
     refine rF J J J<|rY J J J<|rL J J .p1 J J<|rY J J J<|rF J J J<|rY J J J<|rL J J .p0 J J<|rY J J J<|ARun.qv (qD J J) J<|rE J J J<|rM J J<|ARun.dA J J J (fun hc=>?_) (fun hc=>?_)
     ·rw [zF hc] at h
      refine rF J J J<|rY J J J<|rL J J .p1 J J<|rY J J J<|rF J J J<|rY J J J<|rL J J .p0 J J<|rY J J J<|ARun.qv (qD J J) J<|rE J J J<|rM J J<|ARun.dA J J J (fun hc=>?_) (fun hc=>?_)
      ·rw [zF hc] at h
       refine rF J J J<|rY J J J<|ARun.qv (aU J J .p1 J J) J<|rY J J J<|rF J J J<|rY J J J<|ARun.qv (aU J J .p0 J J) J<|rY J J J<|ARun.qv (Aa (g:=a8.av) (X:=(⟨n6,c7,n8,q9⟩:a8)) (Y:=aa.Value) J J J J J) J<|rE J J J<|rM J J<|ARun.dA J J J (fun hc=>?_) (fun hc=>?_)
       ·rw [zF hc] at h
        exact rF J J J<|rY J J J<|ARun.qv (aU J J .p1 J J) J<|rY J J J<|rF J J J<|rY J J J<|ARun.qv (aU J J .p0 J J) J<|rY J J J<|ARun.qv (Aa (g:=Version.av) (X:=(⟨n10,n11,n12⟩:Version)) (Y:=aa.Version) J J J J J) J<|rE J J J<|rN<|ATodo.stop<|ImpX.lq [] ⟨decide ((⟨n10,n11,n12⟩:Version)≠aa.Version),h,J⟩ J J
       ·rw [zE hc] at h
        exact rG J J J J<|rG J J J J<|rG J J J J<|rG J J J J<|rT J J J<|rN<|ATodo.stop<|ImpX.lq [] ⟨true,h,J⟩ J J
      ·rw [zE hc] at h
       exact rG J J J J<|rG J J J J<|rG J J J J<|rG J J J J<|rT J J J<|rM J J<|rG J J J J<|rG J J J J<|rG J J J J<|rG J J J J<|rG J J J J<|rT J J J<|rN<|ATodo.stop<|ImpX.lq [] ⟨true,h,J⟩ J J
     ·rw [zE hc] at h
      exact rG J J J J<|rG J J J J<|rG J J J J<|rG J J J J<|rT J J J<|rM J J<|rG J J J J<|rG J J J J<|rG J J J J<|rG J J J J<|rG J J J J<|rT J J J<|rM J J<|rG J J J J<|rG J J J J<|rG J J J J<|rG J J J J<|rG J J J J<|rT J J J<|rN<|ATodo.stop<|ImpX.lq [] ⟨true,h,J⟩ J J
    ·rw [FI hc] at h
     exact rG J J J J<|rG J J J J<|rG J J J J<|rG J J J J<|rT J J J<|rM J J<|rG J J J J<|rG J J J J<|rG J J J J<|rG J J J J<|rG J J J J<|rT J J J<|rM J J<|rG J J J J<|rG J J J J<|rG J J J J<|rG J J J J<|rG J J J J<|rT J J J<|rM J J<|rG J J J J<|rG J J J J<|rG J J J J<|rG J J J J<|rG J J J J<|rT J J J<|rN<|ATodo.stop<|ImpX.lq [] ⟨true,h,J⟩ J J
   ·rintro aB ⟨P3,h,rfl⟩
    unfold rJ at h
    refine cB h J (fun h=>?_) (fun h=>?_)
    ·refine ax<|rA J J<|rN<|ATodo.ret<|?_
     cases h
     exact hP J J
    ·refine tK<|ax<|rA J J<|rN<|ATodo.ret<|?_
     cases h
     exact hP J J
theorem ly [GI:bc] {aa:ae} {ah:ae} {r:Bool} (h:cW aa ah=some r):Pu Tryz.prog 300 [.str aa,.str ah] (.bool r):=by
 unfold cW at h
 refine ACall.aQ Tryz.func300 J Tryz.ntmps300 Tryz.results300 J J ?_
 refine ax<|rA J J<|rN<|tS<|ATodo.cut (fun aB=>∃ (c1:Bool),df c1=some r∧aB=⟨18,[(4,.bool c1)],[]⟩) ?_ ?_
 ·refine tR<|rM J J<|ARun.qv (eR J) J<|rM J J<|ARun.qv (eR J) J<|ARun.qv (uu J J) J<|rM J J<|gT h J J J (fun h=>?_) (fun h=>?_)
  ·exact rM J J<|rY J J J<|rM J J<|rY J J J<|ARun.qv (eR J) J<|rY J J J<|aq h fun l2 e1 h=>ARun.qv (vP J .none (.some _ _ _ J) J J e1) J<|rY J J J<|rM J J<|rY J J J<|ARun.qv (fS J J) J<|rT J J J<|rA J J<|rN<|ATodo.stop<|ImpX.lq [] ⟨decide (l2=ah),h,J⟩ J J
  ·exact rG J J J J<|rG J J J J<|rG J J J J<|rG J J J J<|rG J J J J<|rE J J J<|rA J J<|rN<|ATodo.stop<|ImpX.lq [] ⟨false,h,J⟩ J J
 ·rintro aB ⟨c1,h,rfl⟩
  unfold df at h
  refine ATodo.ret<|?_
  cases h
  exact hP J J
theorem sf [GI:bc] {aa:ae} {ah:ae} {r:ae×Bool} (h:fA aa ah=some r):Pu Tryz.prog 327 [.str aa,.str ah] (.pj [.str r.1,.bool r.2]):=by
 unfold fA at h
 refine ACall.aQ Tryz.func327 J Tryz.ntmps327 Tryz.results327 J J ?_
 refine ax<|rA J J<|rA J J<|rN<|tS<|ax<|rM J J<|rM J J<|aq h fun v1 e1 h=>aA J (ly e1) cR J<|ARun.qv (bt J) J<|rN<|cB h J (fun h=>?_) (fun h=>?_)
 ·refine ax<|rM J J<|rA J J<|rA J J<|rN<|ATodo.ret<|?_
  cases h
  exact hQ J J J
 ·refine tK<|ax<|rM J J<|rM J J<|ARun.qv (eR J) J<|aq h fun l2 e2 h=>ARun.qv (vP J (.some _ _ _ J) .none J J e2) J<|rA J J<|rA J J<|rN<|ATodo.ret<|?_
  cases h
  exact hQ J J J
theorem jx [GI:bc] {aa:ae} {ah:ae} {r:ae×Bool} (h:strings_CutPrefix aa ah=some r):Pu Tryz.prog 283 [.str aa,.str ah] (.pj [.str r.1,.bool r.2]):=by
 unfold strings_CutPrefix at h
 refine ACall.aQ Tryz.func283 J Tryz.ntmps283 Tryz.results283 J J ?_
 refine ax<|rA J J<|rA J J<|rN<|ax<|rM J J<|rM J J<|aq h fun v1 e1 h=>aA J (sf e1) cR J<|rX J J J<|rX J J J<|rA J J<|rA J J<|rN<|ATodo.ret<|?_
 cases h
 exact hQ J J J
theorem BD [GI:bc] {aa:ae} {r:Bool} (h:sH aa=some r):Pu Tryz.prog 357 [.str aa] (.bool r):=by
 unfold sH at h
 refine ACall.aQ Tryz.func357 J Tryz.ntmps357 Tryz.results357 J J ?_
 refine ax<|rA J J<|rN<|ax<|rM J J<|aq h fun v1 e1 h=>aA J (jx e1) cR J<|rM J J<|rX J J J<|rX J J J<|rA J J<|rA J J<|rN<|tS<|ATodo.cut (fun aB=>∃ (c2:Bool),pI c2=some r∧aB=⟨15,[(2,.bool c2)],[]⟩) ?_ ?_
 ·refine tR<|rM J J<|rM J J<|ARun.guard J J J (fun hc=>?_) (fun hc=>?_)
  ·exact have h:=gr hc h;rM J J<|rY J J J<|aq h fun v3 e2 h=>aA J (gU e2) cR J<|rT J J J<|rA J J<|rN<|ATodo.stop<|ImpX.lq [] ⟨v3,h,J⟩ J J
  ·exact have h:=gw hc h;rG J J J J<|rE J J J<|rA J J<|rN<|ATodo.stop<|ImpX.lq [] ⟨false,h,J⟩ J J
 ·rintro aB ⟨c2,h,rfl⟩
  unfold pI at h
  refine ATodo.ret<|?_
  cases h
  exact hP J J
theorem x1 {aa:ae} {r:Bool} (h:nE aa=some r):Pu Tryz.prog 221 [.str aa] (.bool r):=by
 unfold nE at h
 refine ACall.aQ Tryz.func221 J Tryz.ntmps221 Tryz.results221 J J ?_
 refine ax<|rA J J<|rN<|tS<|ATodo.cut (fun aB=>∃ (c1:Bool),mf c1=some r∧aB=⟨10,[(2,.bool c1)],[]⟩) ?_ ?_
 ·refine tR<|rM J J<|ARun.qv (eR J) J<|ARun.qv (sA J J) J<|rM J J<|gT h J J J (fun h=>?_) (fun h=>?_)
  ·exact rM J J<|rY J J J<|aq h fun v2 e1 h=>aA J (wA e1) cR J<|rT J J J<|rA J J<|rN<|ATodo.stop<|ImpX.lq [] ⟨v2,h,J⟩ J J
  ·exact rG J J J J<|rE J J J<|rA J J<|rN<|ATodo.stop<|ImpX.lq [] ⟨false,h,J⟩ J J
 ·rintro aB ⟨c1,h,rfl⟩
  unfold mf at h
  refine ATodo.ret<|?_
  cases h
  exact hP J J
theorem wC {aa:ae} {r:Bool} (h:oN aa=some r):Pu Tryz.prog 358 [.str aa] (.bool r):=by
 unfold oN at h
 refine ACall.aQ Tryz.func358 J Tryz.ntmps358 Tryz.results358 J J ?_
 refine ax<|rA J J<|rN<|ax<|rM J J<|aq h fun v1 e1 h=>aA J (jx e1) cR J<|rM J J<|rX J J J<|rX J J J<|rA J J<|rA J J<|rN<|tS<|ATodo.cut (fun aB=>∃ (c2:Bool),oM c2=some r∧aB=⟨15,[(2,.bool c2)],[]⟩) ?_ ?_
 ·refine tR<|rM J J<|rM J J<|ARun.guard J J J (fun hc=>?_) (fun hc=>?_)
  ·exact have h:=gr hc h;rM J J<|rY J J J<|aq h fun v3 e2 h=>aA J (x1 e2) cR J<|rT J J J<|rA J J<|rN<|ATodo.stop<|ImpX.lq [] ⟨v3,h,J⟩ J J
  ·exact have h:=gw hc h;rG J J J J<|rE J J J<|rA J J<|rN<|ATodo.stop<|ImpX.lq [] ⟨false,h,J⟩ J J
 ·rintro aB ⟨c2,h,rfl⟩
  unfold oM at h
  refine ATodo.ret<|?_
  cases h
  exact hP J J
theorem HR {aa:ae} {r:Bool} (h:vc aa=some r):Pu Tryz.prog 356 [.str aa] (.bool r):=by
 unfold vc at h
 refine ACall.aQ Tryz.func356 J Tryz.ntmps356 Tryz.results356 J J ?_
 refine ax<|rA J J<|rN<|tS<|ATodo.cut (fun aB=>∃ (c1:Bool),iJ c1=some r∧aB=⟨25,[(2,.bool c1)],[]⟩) ?_ ?_
 ·refine tR<|rM J J<|ARun.qv (fS J J) J<|rM J J<|gF h J J J (fun h=>?_) (fun h=>?_)
  ·refine rM J J<|rY J J J<|ARun.qv (fS J J) J<|rE J J J<|rM J J<|gF h J J J (fun h=>?_) (fun h=>?_)
   ·refine rM J J<|rY J J J<|ARun.qv (fS J J) J<|rE J J J<|rM J J<|gF h J J J (fun h=>?_) (fun h=>?_)
    ·refine rM J J<|rY J J J<|ARun.qv (fS J J) J<|rE J J J<|rM J J<|gF h J J J (fun h=>?_) (fun h=>?_)
     ·refine rM J J<|rY J J J<|aq h fun v2 e1 h=>aA J (BD e1) cR J<|rE J J J<|rM J J<|ARun.guard J J J (fun hc=>?_) (fun hc=>?_)
      ·exact have h:=gw hc h;rM J J<|rY J J J<|aq h fun v3 e2 h=>aA J (wC e2) cR J<|rE J J J<|rA J J<|rN<|ATodo.stop<|ImpX.lq [] ⟨v3,h,J⟩ J J
      ·exact have h:=gr hc h;rG J J J J<|rT J J J<|rA J J<|rN<|ATodo.stop<|ImpX.lq [] ⟨true,h,J⟩ J J
     ·exact rG J J J J<|rT J J J<|rM J J<|rG J J J J<|rG J J J J<|rT J J J<|rA J J<|rN<|ATodo.stop<|ImpX.lq [] ⟨true,h,J⟩ J J
    ·exact rG J J J J<|rT J J J<|rM J J<|rG J J J J<|rG J J J J<|rT J J J<|rM J J<|rG J J J J<|rG J J J J<|rT J J J<|rA J J<|rN<|ATodo.stop<|ImpX.lq [] ⟨true,h,J⟩ J J
   ·exact rG J J J J<|rT J J J<|rM J J<|rG J J J J<|rG J J J J<|rT J J J<|rM J J<|rG J J J J<|rG J J J J<|rT J J J<|rM J J<|rG J J J J<|rG J J J J<|rT J J J<|rA J J<|rN<|ATodo.stop<|ImpX.lq [] ⟨true,h,J⟩ J J
  ·exact rG J J J J<|rT J J J<|rM J J<|rG J J J J<|rG J J J J<|rT J J J<|rM J J<|rG J J J J<|rG J J J J<|rT J J J<|rM J J<|rG J J J J<|rG J J J J<|rT J J J<|rM J J<|rG J J J J<|rG J J J J<|rT J J J<|rA J J<|rN<|ATodo.stop<|ImpX.lq [] ⟨true,h,J⟩ J J
 ·rintro aB ⟨c1,h,rfl⟩
  unfold iJ at h
  refine ATodo.ret<|?_
  cases h
  exact hP J J
theorem BE [GI:bc] {r:(List ae)} (h:fw=r):ACall Tryz.prog 359 [] [] (T1 (fun iC=>[(iC,pw r)]) (fun iC=>.sl 1 iC 0 r.length)):=by
 unfold fw at h
 refine ACall.dN ?_
 refine ACall.aQ Tryz.func359 J Tryz.ntmps359 Tryz.results359 J J ?_
 refine ax<|rA J J<|rN<|ax<|rf J J J J J J fun b1=>rA J J<|rN<|ATodo.ret<|?_
 obtain rfl:=h
 exact hH J [0] J ⟨b1,J,J⟩
theorem yN [GI:bc] {aa:Version} {r:Bool} (h:fB aa=r):Pu Tryz.prog 219 [Version.av aa] (.bool r):=by
 unfold fB at h
 refine ACall.aQ Tryz.func219 J Tryz.ntmps219 Tryz.results219 J J ?_
 refine ax<|bO J J J J fun b1=>rA J J<|rN<|tS<|ATodo.cut (fun aB=>∃ (c2:Bool),qg c2=r∧aB=⟨19,[(2,.bool c2)],[]⟩) ?_ ?_
 ·refine tR<|rF J J J<|rL J J .p0 J J<|aA J (oY J) cR J<|ARun.qv (bt J) J<|rM J J<|ARun.guard J J J (fun hc=>?_) (fun hc=>?_)
  ·rw [Bc hc] at h
   refine rF J J J<|rY J J J<|rL J J .p0 J J<|rY J J J<|aA J (oY J) cR J<|rY J J J<|ARun.qv (bt J) J<|rT J J J<|rM J J<|ARun.guard J J J (fun hc=>?_) (fun hc=>?_)
   ·rw [Bc hc] at h
    exact rF J J J<|rY J J J<|rL J J .p0 J J<|rY J J J<|aA J (oY J) cR J<|rY J J J<|ARun.qv (bt J) J<|rT J J J<|rA J J<|rN<|ATodo.stop<|ImpX.lq [] ⟨!(kq aa.bF (0:Int) (9999:Int)),h,J⟩ J J
   ·rw [Bd hc] at h
    exact rG J J J J<|rG J J J J<|rG J J J J<|rE J J J<|rA J J<|rN<|ATodo.stop<|ImpX.lq [] ⟨false,h,J⟩ J J
  ·rw [Bd hc] at h
   exact rG J J J J<|rG J J J J<|rG J J J J<|rE J J J<|rM J J<|rG J J J J<|rG J J J J<|rG J J J J<|rG J J J J<|rE J J J<|rA J J<|rN<|ATodo.stop<|ImpX.lq [] ⟨false,h,J⟩ J J
 ·rintro aB ⟨c2,h,rfl⟩
  unfold qg at h
  refine ATodo.ret<|?_
  obtain rfl:=h
  exact hP J J
theorem BF {aa:a8} {r:Bool} (h:sI aa=some r):Pu Tryz.prog 222 [a8.av aa] (.bool r):=by
 unfold sI at h
 refine ACall.aQ Tryz.func222 J Tryz.ntmps222 Tryz.results222 J J ?_
 refine ax<|bO J J J J fun b1=>rA J J<|rN<|ax<|rF J J J<|rL J J .p0 J J<|ARun.qv (bl J J J J J) J<|bn J J J J fun b2=>au J J J J .p0 J J<|rN<|tS<|ax<|rF J J J<|rL J J .p1 J J<|rN<|ATodo.block<|ax<|ARun.qv (bS J J) J<|rA J J<|rN<|ATodo.cut (fun aB=>∃ (c3:Bool) (n4:Int) (q5:ae),nF aa c3 n4 q5=some r∧aB=⟨46,[(1,.ptr b1 0),(3,.ptr b2 0)],[(b1,.cells [I aa.Kind,.bool aa.bV,I aa.Number,.str aa.Words]),(b2,.cells [I aa.Kind,.bool c3,I n4,.str q5])]⟩) ?_ ?_
 ·refine cD h J (fun h=>?_) (fun h=>?_)
  ·exact tK<|ATodo.stop<|ImpX.lq [1,0] ⟨false,(0:Int),[],h,J⟩ J J
  ·refine ax<|ARun.qv (bS J J) J<|rA J J<|rN<|ATodo.cut (fun aB=>∃ (c6:Bool) (n7:Int) (q8:ae),pJ aa c6 n7 q8=some r∧aB=⟨46,[(1,.ptr b1 0),(3,.ptr b2 0)],[(b1,.cells [I aa.Kind,.bool aa.bV,I aa.Number,.str aa.Words]),(b2,.cells [I aa.Kind,.bool c6,I n7,.str q8])]⟩) ?_ ?_
   ·refine cD h J (fun h=>?_) (fun h=>?_)
    ·exact tR<|rF J J J<|rL J J .p1 J J<|rF J J J<|au J J J J .p0 J J<|rN<|ATodo.stop<|ImpX.lq [1,0] ⟨aa.bV,(0:Int),[],h,J⟩ J J
    ·refine ax<|ARun.qv (bS J J) J<|rA J J<|rN<|ATodo.cut (fun aB=>∃ (n9:Int) (MG:ae),pK aa n9 MG=some r∧aB=⟨46,[(1,.ptr b1 0),(3,.ptr b2 0)],[(b1,.cells [I aa.Kind,.bool aa.bV,I aa.Number,.str aa.Words]),(b2,.cells [I aa.Kind,.bool false,I n9,.str MG])]⟩) ?_ ?_
     ·refine cD h J (fun h=>?_) (fun h=>?_)
      ·exact tR<|rF J J J<|rL J J .p1 J J<|rF J J J<|au J J J J .p0 J J<|rN<|ATodo.stop<|ImpX.lq [1,0] ⟨aa.Number,[],h,J⟩ J J
      ·refine ax<|ARun.qv (bS J J) J<|rA J J<|rN<|cD h J (fun h=>?_) (fun h=>?_)
       ·exact tR<|rF J J J<|rL J J .p1 J J<|rF J J J<|au J J J J .p0 J J<|rN<|ATodo.stop<|ImpX.lq [1,0] ⟨(0:Int),aa.Words,h,J⟩ J J
       ·refine ax<|rA J J<|rN<|ATodo.ret<|?_
        cases h
        exact hP J J
     ·rintro aB ⟨n9,MG,h,rfl⟩
      unfold pK at h
      exact ATodo.stop<|ImpX.lq [0,0] ⟨false,n9,MG,h,J⟩ J J
   ·rintro aB ⟨c6,n7,q8,h,rfl⟩
    unfold pJ at h
    exact ATodo.stop<|ImpX.lq [0,0] ⟨c6,n7,q8,h,J⟩ J J
 ·rintro aB ⟨c3,n4,q5,h,rfl⟩
  unfold nF at h
  refine ATodo.bU<|tS<|ATodo.cut (fun aB=>∃ (EK:Bool),lK EK=some r∧aB=⟨46,[(2,.bool EK)],[]⟩) ?_ ?_
  ·refine tR<|ARun.qv (ao J J .p0 J) J<|ARun.qv (ao J J .p1 J) J<|ARun.qv (XH (g:=a8.av) (X:=aa) (Y:=(⟨aa.Kind,c3,n4,q5⟩:a8)) J J J J J) J<|rM J J<|gT h J J J (fun h=>?_) (fun h=>?_)
   ·refine rF J J J<|rY J J J<|rL J J .p0 J J<|rY J J J<|aA J (oY J) cR J<|rY J J J<|ARun.qv (bt J) J<|rT J J J<|rM J J<|ARun.guard J J J (fun hc=>?_) (fun hc=>?_)
    ·refine have h:=gr hc h;rF J J J<|rY J J J<|rL J J .p0 J J<|rY J J J<|ARun.qv (eR J) J<|rY J J J<|ARun.qv (sA J J) J<|rT J J J<|rM J J<|gT h J J J (fun h=>?_) (fun h=>?_)
     ·exact rF J J J<|rY J J J<|rL J J .p0 J J<|rY J J J<|aq h fun v12 e1 h=>aA J (mK e1) cR J<|rT J J J<|rA J J<|rN<|ATodo.stop<|ImpX.lq [] ⟨v12,h,J⟩ J J
     ·exact rG J J J J<|rG J J J J<|rE J J J<|rA J J<|rN<|ATodo.stop<|ImpX.lq [] ⟨false,h,J⟩ J J
    ·exact have h:=gw hc h;rG J J J J<|rG J J J J<|rG J J J J<|rE J J J<|rM J J<|rG J J J J<|rG J J J J<|rG J J J J<|rE J J J<|rA J J<|rN<|ATodo.stop<|ImpX.lq [] ⟨false,h,J⟩ J J
   ·exact rG J J J J<|rG J J J J<|rG J J J J<|rE J J J<|rM J J<|rG J J J J<|rG J J J J<|rG J J J J<|rG J J J J<|rE J J J<|rM J J<|rG J J J J<|rG J J J J<|rG J J J J<|rE J J J<|rA J J<|rN<|ATodo.stop<|ImpX.lq [] ⟨false,h,J⟩ J J
  ·rintro aB ⟨EK,h,rfl⟩
   unfold lK at h
   refine ATodo.ret<|?_
   cases h
   exact hP J J
theorem Cs {aa:Query} {r:Int} (h:oO aa=some r):Pu Tryz.prog 330 [.agg [I aa.Kind,.str aa.Field,.str aa.Op,I aa.Value.Kind,.bool aa.Value.bV,I aa.Value.Number,.str aa.Value.Words,I aa.Version.bH,I aa.Version.bI,I aa.Version.bF,oX aa.Kids]] (I r):=by
 unfold oO at h
 refine ACall.aQ Tryz.func330 J Tryz.ntmps330 Tryz.results330 J J ?_
 refine ax<|bO J J J J fun b1=>rA J J<|rN<|tS<|tS<|ATodo.cut (fun aB=>∃ (c2:Bool),eJ aa c2=some r∧aB=⟨98,[(1,.ptr b1 0),(24,.bool c2)],[(b1,.cells (xi aa))]⟩) ?_ ?_
 ·refine tR<|rF J J J<|rL J J .p0 J J<|aq h fun v3 e1 h=>aA J (HR e1) cR J<|ARun.qv (bt J) J<|rM J J<|ARun.guard J J J (fun hc=>?_) (fun hc=>?_)
  ·refine have h:=gw hc h;rF J J J<|rY J J J<|rL J J .p0 J J<|rY J J J<|ARun.qv (bS J J) J<|rY J J J<|rM J J<|gT h J J J (fun h=>?_) (fun h=>?_)
   ·refine rF J J J<|rY J J J<|rL J J .p0 J J<|rY J J J<|aq h fun v4 e2 h=>aA J (BD e2) cR J<|rY J J J<|ARun.qv (bt J) J<|rY J J J<|rT J J J<|rY J J J<|rM J J<|ARun.guard J J J (fun hc=>?_) (fun hc=>?_)
    ·exact have h:=gr hc h;rF J J J<|rY J J J<|rL J J .p0 J J<|rY J J J<|aq h fun v5 e3 h=>aA J (wC e3) cR J<|rY J J J<|ARun.qv (bt J) J<|rY J J J<|rT J J J<|rE J J J<|rN<|ATodo.stop<|ImpX.lq [0] ⟨!v5,h,J⟩ J J
    ·exact have h:=gw hc h;rG J J J J<|rG J J J J<|rG J J J J<|rY J J J<|rE J J J<|rE J J J<|rN<|ATodo.stop<|ImpX.lq [0] ⟨false,h,J⟩ J J
   ·exact rG J J J J<|rG J J J J<|rG J J J J<|rY J J J<|rE J J J<|rY J J J<|rM J J<|rG J J J J<|rG J J J J<|rG J J J J<|rG J J J J<|rY J J J<|rE J J J<|rE J J J<|rN<|ATodo.stop<|ImpX.lq [0] ⟨false,h,J⟩ J J
  ·exact have h:=gr hc h;rG J J J J<|rG J J J J<|rG J J J J<|ARun.bK J J J<|ARun.bK J J J<|ARun.bK J J J<|ARun.bK J J J<|rG J J J J<|rG J J J J<|ARun.bK J J J<|ARun.bK J J J<|ARun.bK J J J<|ARun.bK J J J<|rG J J J J<|rT J J J<|rN<|ATodo.stop<|ImpX.lq [0] ⟨true,h,J⟩ J J
 ·rintro aB ⟨c2,h,rfl⟩
  unfold eJ at h
  refine cB h J (fun h=>?_) (fun h=>?_)
  ·refine ax<|rA J J<|rN<|ATodo.ret<|?_
   cases h
   exact hP J J
  ·refine tK<|tS<|ax<|rF J J J<|rL J J .p0 J J<|ARun.qv (bS J J) J<|rN<|cD h J (fun h=>?_) (fun h=>?_)
   ·refine ax<|rA J J<|rN<|ATodo.ret<|?_
    cases h
    exact hP J J
   ·refine tK<|ax<|rF J J J<|rL J J .p0 J J<|ARun.qv (fS J J) J<|rA J J<|rN<|tS<|ATodo.block<|tS<|ATodo.kZ (id:=6) (A:=[0,0,2,7,15,31]) (H0:=[]) (HH:=fun β=>[((β 0),pw fw),(b1,.cells (xi aa))]) 3 mixed J (by kernel_rfl) (by kernel_rfl) [⟨some 0,none,[],fun b=>(b,pw fw),none,[]⟩] [0] J (by kernel_rfl) J .nil (fun _=>J)<|AT.UU (V:=fun b=>.sl 1 b 0 fw.length) (Ti:=[]) (Pi:=fun b=>[(b,pw fw)]) (fun _=>J) (fun _=>J) (fun _ _=>J) J (fun _=>J) J J J ?_ ?_
    ·exact eE J (BE J) cR .nil (fun _=>J) J fun b6=>ARun.nil ⟨b6,_,J,J⟩
    refine AT.am 2 J J<|AM.qv (an J J) J<|AM.qv (az J J .p0 J) J<|AM.nil<|AT.yx (fun _=>J) fun β=>?_
    generalize β 0=b6
    clear β
    refine aq h fun v7 e4 h=>dc J (ba e4) (.cons (vI.uf .p0) (.cons (.co (.refl _)) .nil)) J J<|ARun.qv (bt J) J<|rA J J<|rN<|cB h J (fun h=>?_) (fun h=>?_)
    ·refine ax<|rA J J<|rN<|ATodo.ret<|?_
     cases h
     exact hP J J
    ·refine tS<|ATodo.cut (fun aB=>∃ (c8:Bool),og aa c8=some r∧aB=⟨98,[(1,.ptr b1 0),(3,.bool (decide (aa.Field=([102,105,114,109,119,97,114,101]:ae)))),(37,.bool c8)],[(b1,.cells (xi aa))]⟩) ?_ ?_
     ·refine tR<|rM J J<|rM J J<|ARun.cA J J J (fun hc=>?_) (fun hc=>?_)
      ·rw [ux hc] at h
       exact rF J J J<|rY J J J<|ARun.qv (aU J J .p1 J J) J<|rY J J J<|ARun.qv (bl J J J J J) J<|rY J J J<|ARun.qv (Aa (g:=a8.av) (X:=aa.Value) (Y:=(⟨(0:Int),false,(0:Int),[]⟩:a8)) J J J J J) J<|rT J J J<|rA J J<|rN<|ATodo.stop<|ImpX.lq [1] ⟨decide (aa.Value≠(⟨(0:Int),false,(0:Int),[]⟩:a8)),h,J⟩ J J
      ·rw [uy hc] at h
       exact rG J J J J<|rG J J J J<|rG J J J J<|rE J J J<|rA J J<|rN<|ATodo.stop<|ImpX.lq [1] ⟨false,h,J⟩ J J
     ·rintro aB ⟨c8,h,rfl⟩
      unfold og at h
      refine cB h J (fun h=>?_) (fun h=>?_)
      ·refine ax<|rA J J<|rN<|ATodo.ret<|?_
       cases h
       exact hP J J
      ·refine tS<|ATodo.cut (fun aB=>∃ (c9:Bool),oe aa c9=some r∧aB=⟨98,[(1,.ptr b1 0),(3,.bool (decide (aa.Field=([102,105,114,109,119,97,114,101]:ae)))),(45,.bool c9)],[(b1,.cells (xi aa))]⟩) ?_ ?_
       ·refine tR<|rM J J<|rM J J<|ARun.cA J J J (fun hc=>?_) (fun hc=>?_)
        ·rw [ux hc] at h
         exact rF J J J<|rY J J J<|ARun.qv (aU J J .p0 J J) J<|rY J J J<|aA J (yN J) cR J<|rY J J J<|ARun.qv (bt J) J<|rT J J J<|rA J J<|rN<|ATodo.stop<|ImpX.lq [0] ⟨!(fB aa.Version),h,J⟩ J J
        ·rw [uy hc] at h
         exact rG J J J J<|rG J J J J<|rG J J J J<|rE J J J<|rA J J<|rN<|ATodo.stop<|ImpX.lq [0] ⟨false,h,J⟩ J J
       ·rintro aB ⟨c9,h,rfl⟩
        unfold oe at h
        refine cB h J (fun h=>?_) (fun h=>?_)
        ·refine ax<|rA J J<|rN<|ATodo.ret<|?_
         cases h
         exact hP J J
        ·refine ax<|rM J J<|rA J J<|rN<|cD h J (fun h=>?_) (fun h=>?_)
         ·refine ax<|rA J J<|rN<|ATodo.ret<|?_
          cases h
          exact hP J J
         ·refine tS<|ATodo.cut (fun aB=>∃ (FR:Bool),jb aa FR=some r∧aB=⟨98,[(1,.ptr b1 0),(55,.bool FR)],[(b1,.cells (xi aa))]⟩) ?_ ?_
          ·refine tR<|rF J J J<|ARun.qv (aU J J .p0 J J) J<|ARun.qv (bl J J J J J) J<|ARun.qv (Aa (g:=Version.av) (X:=aa.Version) (Y:=(⟨(0:Int),(0:Int),(0:Int)⟩:Version)) J J J J J) J<|rM J J<|gF h J J J (fun h=>?_) (fun h=>?_)
           ·refine rF J J J<|rY J J J<|ARun.qv (aU J J .p0 J J) J<|rY J J J<|aq h fun v11 e5 h=>aA J (BF e5) cR J<|rY J J J<|ARun.qv (bt J) J<|rE J J J<|rM J J<|ARun.guard J J J (fun hc=>?_) (fun hc=>?_)
            ·rw [FJ hc] at h
             exact rF J J J<|rY J J J<|rF J J J<|rY J J J<|rL J J .p0 J J<|rY J J J<|ARun.qv (bS J J) J<|rE J J J<|rA J J<|rN<|ATodo.stop<|ImpX.lq [0] ⟨decide (aa.Value.Kind=(0:Int)),h,J⟩ J J
            ·rw [FI hc] at h
             exact rG J J J J<|rG J J J J<|rG J J J J<|rT J J J<|rA J J<|rN<|ATodo.stop<|ImpX.lq [0] ⟨true,h,J⟩ J J
           ·exact rG J J J J<|rG J J J J<|rG J J J J<|rT J J J<|rM J J<|rG J J J J<|rG J J J J<|rG J J J J<|rG J J J J<|rT J J J<|rA J J<|rN<|ATodo.stop<|ImpX.lq [0] ⟨true,h,J⟩ J J
          ·rintro aB ⟨FR,h,rfl⟩
           unfold jb at h
           refine cB h J (fun h=>?_) (fun h=>?_)
           ·refine ax<|rA J J<|rN<|ATodo.ret<|?_
            cases h
            exact hP J J
           ·refine tS<|ATodo.cut (fun aB=>∃ (c12:Bool),ja aa c12=some r∧aB=⟨98,[(1,.ptr b1 0),(72,.bool c12)],[(b1,.cells (xi aa))]⟩) ?_ ?_
            ·refine tR<|rF J J J<|rF J J J<|rL J J .p0 J J<|ARun.qv (du J J) J<|rM J J<|gT h J J J (fun h=>?_) (fun h=>?_)
             ·exact rF J J J<|rY J J J<|rL J J .p0 J J<|rY J J J<|aq h fun mb e6 h=>aA J (wC e6) cR J<|rY J J J<|ARun.qv (bt J) J<|rT J J J<|rA J J<|rN<|ATodo.stop<|ImpX.lq [0] ⟨!mb,h,J⟩ J J
             ·exact rG J J J J<|rG J J J J<|rG J J J J<|rE J J J<|rA J J<|rN<|ATodo.stop<|ImpX.lq [0] ⟨false,h,J⟩ J J
            ·rintro aB ⟨c12,h,rfl⟩
             unfold ja at h
             refine cB h J (fun h=>?_) (fun h=>?_)
             ·refine ax<|rA J J<|rN<|ATodo.ret<|?_
              cases h
              exact hP J J
             ·refine tS<|ATodo.cut (fun aB=>∃ (EL:Bool),od EL=some r∧aB=⟨98,[(83,.bool EL)],[]⟩) ?_ ?_
              ·refine tR<|rF J J J<|rF J J J<|rL J J .p0 J J<|ARun.qv (du J J) J<|rM J J<|ARun.cA J J J (fun hc=>?_) (fun hc=>?_)
               ·rw [ux hc] at h
                refine rF J J J<|rY J J J<|rL J J .p0 J J<|rY J J J<|ARun.qv (qD J J) J<|rT J J J<|rM J J<|ARun.cA J J J (fun hc=>?_) (fun hc=>?_)
                ·rw [ux hc] at h
                 exact rF J J J<|rY J J J<|rL J J .p0 J J<|rY J J J<|ARun.qv (qD J J) J<|rT J J J<|rA J J<|rN<|ATodo.stop<|ImpX.lq [] ⟨decide (aa.Op≠([33,61]:ae)),h,J⟩ J J
                ·rw [uy hc] at h
                 exact rG J J J J<|rG J J J J<|rE J J J<|rA J J<|rN<|ATodo.stop<|ImpX.lq [] ⟨false,h,J⟩ J J
               ·rw [uy hc] at h
                exact rG J J J J<|rG J J J J<|rE J J J<|rM J J<|rG J J J J<|rG J J J J<|rG J J J J<|rE J J J<|rA J J<|rN<|ATodo.stop<|ImpX.lq [] ⟨false,h,J⟩ J J
              ·rintro aB ⟨EL,h,rfl⟩
               unfold od at h
               refine cB h J (fun h=>?_) (fun h=>?_)
               ·refine ax<|rA J J<|rN<|ATodo.ret<|?_
                cases h
                exact hP J J
               ·refine tK<|ATodo.bU<|ax<|rA J J<|rN<|ATodo.ret<|?_
                cases h
                exact hP J J
theorem zP {self:Query→Option Int} (kP:∀ {aa:Query} {r:Int},self aa=some r→Pu Tryz.prog 290 [.agg [I aa.Kind,.str aa.Field,.str aa.Op,I aa.Value.Kind,.bool aa.Value.bV,I aa.Value.Number,.str aa.Value.Words,I aa.Version.bH,I aa.Version.bI,I aa.Version.bF,oX aa.Kids]] (I r)) {aa:Query} {r:Int} (h:lf self aa=some r):Pu Tryz.prog 290 [.agg [I aa.Kind,.str aa.Field,.str aa.Op,I aa.Value.Kind,.bool aa.Value.bV,I aa.Value.Number,.str aa.Value.Words,I aa.Version.bH,I aa.Version.bI,I aa.Version.bF,oX aa.Kids]] (I r):=by
 unfold lf at h
 refine ACall.aQ Tryz.func290 J Tryz.ntmps290 Tryz.results290 J J ?_
 refine ax<|bO J J J J fun b1=>rA J J<|rN<|tS<|ax<|ARun.qv (ao J J .p0 J) J<|aq h fun v2 e1 h=>aA J (Cr e1) cR J<|rA J J<|rN<|ax<|rM J J<|ARun.qv (du J J) J<|rN<|cD h J (fun h=>?_) (fun h=>?_)
 ·refine ax<|rM J J<|rA J J<|rN<|ATodo.ret<|?_
  cases h
  exact hP J J
 ·refine tK<|tS<|tS<|ATodo.cut (fun aB=>∃ (c3:Bool),om self aa c3=some r∧aB=⟨35,[(1,.ptr b1 0),(19,.bool c3)],[(b1,.cells (xi aa))]⟩) ?_ ?_
  ·refine tR<|rF J J J<|rL J J .p0 J J<|ARun.qv (bS J J) J<|rM J J<|ARun.dA J J J (fun hc=>?_) (fun hc=>?_)
   ·rw [zF hc] at h
    exact rF J J J<|rY J J J<|rL J J .p0 J J<|rY J J J<|ARun.qv (bS J J) J<|rE J J J<|rN<|ATodo.stop<|ImpX.lq [0] ⟨decide (aa.Kind=(2:Int)),h,J⟩ J J
   ·rw [zE hc] at h
    exact rG J J J J<|rG J J J J<|rT J J J<|rN<|ATodo.stop<|ImpX.lq [0] ⟨true,h,J⟩ J J
  ·rintro aB ⟨c3,h,rfl⟩
   unfold om at h
   refine cB h J (fun h=>?_) (fun h=>?_)
   ·refine ax<|ARun.qv (ao J J .p0 J) J<|aq h fun v4 e2 h=>aA J (Cs e2) cR J<|rA J J<|rN<|ATodo.ret<|?_
    cases h
    exact hP J J
   ·refine tK<|tS<|ax<|rF J J J<|rL J J .p0 J J<|ARun.qv (bD J) J<|rM J J<|rN<|ATodo.block<|ATodo.bT (fun x:Int=>eN self aa x) (fun x aB=>aB=⟨35,[(23,oX aa.Kids),(24,I (aa.Kids.length:Int)),(25,I x)],[]⟩) h ?_ ?_
    ·exact ImpX.lq [] J J J
    ·intro n6 z1 aB J1 dB h ic dm
     obtain rfl:=dB
     replace h:eN self aa n6=some z1:=h
     unfold eN at h
     refine ax<|ARun.qv (bu J J) J<|rN<|tS<|cD h J (fun h=>?_) (fun h=>?_)
     ·refine tK<|tS<|ATodo.block<|ax<|aq h fun v7 e3 h=>ARun.qv (aP J J J e3 J (by rw [Query.tN];rfl)) J<|ARun.qv (aH J J J) J<|bn J J J J fun b8=>au J J J J .p0 J J<|rN<|ax<|ARun.qv (ao J J .p0 J) J<|aq h fun v9 e4 h=>aA J (kP e4) cR J<|rA J J<|rN<|ax<|rM J J<|ARun.qv (du J J) J<|rN<|cD h J (fun h=>?_) (fun h=>?_)
      ·refine ax<|rM J J<|rA J J<|rN<|ATodo.ret<|have h:=bz h dm;?_
       cases h
       exact hP J J
      ·refine tK<|ATodo.bU<|tR<|ARun.qv (bh J J) J<|rM J J<|rN<|ATodo.stop<|?_
       cases h
       exact ic _ _ J<|ImpX.lq [] J J J
     ·refine ATodo.exit J<|have h:=bz h dm;ax<|rA J J<|rN<|ATodo.ret<|?_
      cases h
      exact hP J J
theorem AL:∀ (k:Nat) {aa:Query} {r:Int},bL k aa=some r→Pu Tryz.prog 290 [.agg [I aa.Kind,.str aa.Field,.str aa.Op,I aa.Value.Kind,.bool aa.Value.bV,I aa.Value.Number,.str aa.Value.Words,I aa.Version.bH,I aa.Version.bI,I aa.Version.bF,oX aa.Kids]] (I r):=by
 intro k
 induction k with
 | zero=>intro aa r h;cases h
 | succ k ih=>intro aa r h;exact zP ih h
theorem Ct {aa:Query} {r:Int} (h:vd aa=some r):Pu Tryz.prog 290 [.agg [I aa.Kind,.str aa.Field,.str aa.Op,I aa.Value.Kind,.bool aa.Value.bV,I aa.Value.Number,.str aa.Value.Words,I aa.Version.bH,I aa.Version.bI,I aa.Version.bF,oX aa.Kids]] (I r):=AL depth h
theorem BG {aa:Query} {r:Int} (h:dC aa=some r):Pu Tryz.prog 217 [.agg [I aa.Kind,.str aa.Field,.str aa.Op,I aa.Value.Kind,.bool aa.Value.bV,I aa.Value.Number,.str aa.Value.Words,I aa.Version.bH,I aa.Version.bI,I aa.Version.bF,oX aa.Kids]] (I r):=by
 unfold dC at h
 refine ACall.aQ Tryz.func217 J Tryz.ntmps217 Tryz.results217 J J ?_
 refine ax<|bO J J J J fun b1=>rA J J<|rN<|tS<|ax<|ARun.qv (ao J J .p0 J) J<|aq h fun v2 e1 h=>aA J (ES e1) cR J<|rM J J<|rX J J J<|rX J J J<|rA J J<|rA J J<|rN<|tS<|ATodo.cut (fun aB=>∃ (c3:Bool),mL aa c3=some r∧aB=⟨18,[(1,.ptr b1 0),(15,.bool c3)],[(b1,.cells (xi aa))]⟩) ?_ ?_
 ·refine tR<|rM J J<|ARun.qv (dJ J J) J<|rM J J<|ARun.dA J J J (fun hc=>?_) (fun hc=>?_)
  ·rw [zF hc] at h
   exact rM J J<|rY J J J<|ARun.qv (dJ J J) J<|rE J J J<|rN<|ATodo.stop<|ImpX.lq [0] ⟨decide ((20:Int) < v2.2),h,J⟩ J J
  ·rw [zE hc] at h
   exact rG J J J J<|rT J J J<|rN<|ATodo.stop<|ImpX.lq [0] ⟨true,h,J⟩ J J
 ·rintro aB ⟨c3,h,rfl⟩
  unfold mL at h
  refine cB h J (fun h=>?_) (fun h=>?_)
  ·refine ax<|rA J J<|rN<|ATodo.ret<|?_
   cases h
   exact hP J J
  ·refine tK<|ax<|ARun.qv (ao J J .p0 J) J<|aq h fun v4 e2 h=>aA J (Ct e2) cR J<|rA J J<|rN<|ATodo.ret<|?_
   cases h
   exact hP J J
theorem HT [GI:bc] {aa:List Int} {r:Int} (h:xy aa=some r):Pu Tryz.prog 216 [cz aa] (I r):=by
 unfold xy at h
 refine ACall.aQ Tryz.func216 J Tryz.ntmps216 Tryz.results216 J J ?_
 refine ax<|rA J J<|rN<|tS<|ax<|rM J J<|ARun.qv (bD J) J<|rM J J<|rN<|ATodo.block<|ATodo.bT (fun x:Int=>ti aa x) (fun x aB=>aB=⟨15,[(5,cz aa),(6,I (aa.length:Int)),(7,I x)],[]⟩) h ?_ ?_
 ·exact ImpX.lq [] J J J
 ·intro n2 z1 aB J1 dB h ic dm
  obtain rfl:=dB
  replace h:ti aa n2=some z1:=h
  unfold ti at h
  refine ax<|ARun.qv (bu J J) J<|rN<|tS<|cD h J (fun h=>?_) (fun h=>?_)
  ·refine tK<|tS<|ATodo.block<|ax<|aq h fun v3 e1 h=>ARun.qv (aP J J J e1 J J) J<|ARun.qv (aG J J J) J<|rA J J<|rN<|ax<|rM J J<|ARun.qv (du J J) J<|rN<|cD h J (fun h=>?_) (fun h=>?_)
   ·refine ax<|rM J J<|rA J J<|rN<|ATodo.ret<|have h:=bz h dm;?_
    cases h
    exact hP J J
   ·refine tK<|ATodo.bU<|tR<|ARun.qv (bh J J) J<|rM J J<|rN<|ATodo.stop<|?_
    cases h
    exact ic _ _ J<|ImpX.lq [] J J J
  ·refine ATodo.exit J<|have h:=bz h dm;ax<|rA J J<|rN<|ATodo.ret<|?_
   cases h
   exact hP J J
theorem F1 [GI:bc] {aa:oC} {r:Bool} (h:qI aa=r):Pu Tryz.prog 218 [oC.av aa] (.bool r):=by
 unfold qI at h
 refine ACall.aQ Tryz.func218 J Tryz.ntmps218 Tryz.results218 J J ?_
 refine ax<|bO J J J J fun b1=>rA J J<|rN<|tS<|ATodo.cut (fun aB=>∃ (c2:Bool),rK c2=r∧aB=⟨14,[(2,.bool c2)],[]⟩) ?_ ?_
 ·refine tR<|rF J J J<|rL J J .p0 J J<|rF J J J<|rL J J .p0 J J<|aA J (oY J) cR J<|ARun.qv (bt J) J<|rM J J<|ARun.guard J J J (fun hc=>?_) (fun hc=>?_)
  ·rw [Bc hc] at h
   exact rF J J J<|rY J J J<|rL J J .p0 J J<|rY J J J<|ARun.qv (sA J J) J<|rT J J J<|rA J J<|rN<|ATodo.stop<|ImpX.lq [] ⟨decide (aa.To≤(345686400000:Int)),h,J⟩ J J
  ·rw [Bd hc] at h
   exact rG J J J J<|rG J J J J<|rE J J J<|rA J J<|rN<|ATodo.stop<|ImpX.lq [] ⟨false,h,J⟩ J J
 ·rintro aB ⟨c2,h,rfl⟩
  unfold rK at h
  refine ATodo.ret<|?_
  obtain rfl:=h
  exact hP J J
theorem vL {bd:Bk} {bB:Bk} {bY:Bk} {cm:Bk} {cq:Bk} {dj:Bk} {aa:ak} {r:Int} (h:eS aa=some r):ACall Tryz.prog 140 [.ptr bd 0] [(bd,.cells (sq aa bB bY cm cq dj)),(bB,eU aa.aW)] (T0 ([(bd,.cells (sq aa bB bY cm cq dj)),(bB,eU aa.aW)]) (I r)):=by
 unfold eS at h
 refine ACall.dN ?_
 refine ACall.aQ Tryz.func140 J Tryz.ntmps140 Tryz.results140 J J ?_
 refine ax<|rA J J<|rN<|tS<|ax<|rM J J<|ARun.qv (aV J) J<|rF J J J<|rF J J J<|rL J J .p0 J J<|ARun.qv (bD J) J<|ARun.qv (dJ J J) J<|rN<|cD h J (fun h=>?_) (fun h=>?_)
 ·refine ax<|rA J J<|rN<|ATodo.ret<|?_
  cases h
  exact hH J [0,0] J ⟨J,J⟩
 ·refine tK<|tS<|ax<|rM J J<|ARun.qv (aV J) J<|rF J J J<|rF J J J<|rL J J .p0 J J<|ARun.qv (bD J) J<|rM J J<|rN<|ATodo.block<|ATodo.bT (fun x:Int=>fo aa x) (fun x aB=>aB=⟨98,[(0,.ptr bd 0),(17,xZ aa.bb.aI),(18,I (aa.bb.aI.length:Int)),(19,I x)],[(bd,.cells (sq aa bB bY cm cq dj)),(bB,eU aa.aW)]⟩) h ?_ ?_
  ·exact ImpX.lq [0,0] J J J
  ·intro n2 z1 aB J1 dB h ic dm
   obtain rfl:=dB
   replace h:fo aa n2=some z1:=h
   unfold fo at h
   refine ax<|ARun.qv (bu J J) J<|rN<|tS<|cD h J (fun h=>?_) (fun h=>?_)
   ·refine tK<|tS<|ATodo.block<|ax<|rM J J<|aq h fun v3 e1 h=>ARun.qv (aP J J J e1 J J) J<|ARun.qv (aH J J J) J<|bn J J J J fun b4=>rA J J<|au J J J J .p0 J J<|rN<|tS<|ATodo.block<|ax<|rF J J J<|rL J J .p0 J J<|aq h fun v5 e2 h=>aA J (gU e2) cR J<|ARun.qv (bt J) J<|rA J J<|rN<|cB h J (fun h=>?_) (fun h=>?_)
    ·refine ax<|rA J J<|rN<|ATodo.ret<|have h:=bz h dm;?_
     cases h
     exact hH J [1,1] J ⟨J,J⟩
    ·refine tS<|ATodo.cut (fun aB=>∃ (c6:Bool),cY aa n2 v3 c6=some z1∧aB=⟨98,[(0,.ptr bd 0),(4,.ptr b4 0),(17,xZ aa.bb.aI),(18,I (aa.bb.aI.length:Int)),(19,I n2),(29,.bool c6)],[(bd,.cells (sq aa bB bY cm cq dj)),(bB,eU aa.aW),(b4,.cells (Rv v3))]⟩) ?_ ?_
     ·refine ATodo.ck (id:=8) (A:=[0,1,3,7,15,7,39,103,231,487,7,1031,4071,8167,16359,32767,65535,131071]) 18 mixed J (by kernel_rfl) (by kernel_rfl)<|AM.qv (aL J) J<|AM.qv (dJ J J) J<|AM.qv (aL J) J<|AM.cA J J J (fun hc=>?_) (fun hc=>?_)
      ·exact have h:=gr hc h;AM.qv (an J J) J<|AM.aj J J J<|AM.qv (az J J .p0 J) J<|AM.aj J J J<|AM.qv (aL J) J<|AM.aj J J J<|AM.qv (aV J) J<|AM.aj J J J<|AM.qv (an J J) J<|AM.aj J J J<|AM.qv (an J J) J<|AM.aj J J J<|AM.qv (az J J .p1 J) J<|AM.aj J J J<|AM.qv (aL J) J<|AM.aj J J J<|AM.qv (gq J J) J<|AM.aj J J J<|aq h fun v7 e3 h=>AM.qv (aP J J J e3 J J) J<|AM.aj J J J<|AM.qv (bJ J J) J<|AM.aj J J J<|AM.qv (aG J J J) J<|AM.aj J J J<|AM.qv (rk J J) J<|AM.qv (cJ J J) J<|AM.qv (bM J) J<|AM.nil<|rN<|ATodo.stop<|ImpX.lq [1,1,0] ⟨Op.bytesLess v3.Key v7.Key||v3.Key==v7.Key,h,J⟩ J J
      ·exact have h:=wq hc h;AM.ai J J J J<|AM.ai J J J J<|AM.ai J J J J<|AM.ai J J J J<|AM.ai J J J J<|AM.ai J J J J<|AM.ai J J J J<|AM.ai J J J J<|AM.ai J J J J<|AM.ai J J J J<|AM.ai J J J J<|AM.ai J J J J<|AM.qv (eD J J) J<|AM.qv (bM J) J<|AM.nil<|rN<|ATodo.stop<|ImpX.lq [1,1,0] ⟨false,h,J⟩ J J
     ·rintro aB ⟨c6,h,rfl⟩
      unfold cY at h
      refine cB h J (fun h=>?_) (fun h=>?_)
      ·refine ax<|rA J J<|rN<|ATodo.ret<|have h:=bz h dm;?_
       cases h
       exact hH J [0,0] J ⟨J,J⟩
      ·refine tS<|ATodo.cut (fun aB=>∃ (c8:Bool),cX aa n2 v3 c8=some z1∧aB=⟨98,[(0,.ptr bd 0),(4,.ptr b4 0),(17,xZ aa.bb.aI),(18,I (aa.bb.aI.length:Int)),(19,I n2),(47,.bool c8)],[(bd,.cells (sq aa bB bY cm cq dj)),(bB,eU aa.aW),(b4,.cells (Rv v3))]⟩) ?_ ?_
       ·refine tR<|rM J J<|rF J J J<|rL J J .p2 J J<|aq h fun v9 e4 h=>aJ J (iD e4) cR (.cons .p0 (.cons .p0 .nil)) J J<|ARun.qv (bt J) J<|rM J J<|ARun.guard J J J (fun hc=>?_) (fun hc=>?_)
        ·exact have h:=gw hc h;rM J J<|rY J J J<|rF J J J<|rY J J J<|rL J J .p2 J J<|rY J J J<|aq h fun v10 e5 h=>aJ J (iD e5) cR (.cons .p0 (.cons .p0 .nil)) J J<|rY J J J<|ARun.qv (bt J) J<|rE J J J<|rA J J<|rN<|ATodo.stop<|ImpX.lq [0,0,0] ⟨!v10,h,J⟩ J J
        ·exact have h:=gr hc h;rG J J J J<|rG J J J J<|rG J J J J<|rG J J J J<|rT J J J<|rA J J<|rN<|ATodo.stop<|ImpX.lq [0,0,0] ⟨true,h,J⟩ J J
       ·rintro aB ⟨c8,h,rfl⟩
        unfold cX at h
        refine cB h J (fun h=>?_) (fun h=>?_)
        ·refine ax<|rA J J<|rN<|ATodo.ret<|have h:=bz h dm;?_
         cases h
         exact hH J [0,0] J ⟨J,J⟩
        ·refine tS<|ATodo.cut (fun aB=>∃ (EK:Bool),ca n2 v3 EK=some z1∧aB=⟨98,[(0,.ptr bd 0),(4,.ptr b4 0),(17,xZ aa.bb.aI),(18,I (aa.bb.aI.length:Int)),(19,I n2),(60,.bool EK)],[(bd,.cells (sq aa bB bY cm cq dj)),(bB,eU aa.aW),(b4,.cells (Rv v3))]⟩) ?_ ?_
         ·refine tR<|rF J J J<|rL J J .p2 J J<|rF J J J<|rL J J .p2 J J<|ARun.qv (fS J J) J<|rM J J<|gF h J J J (fun h=>?_) (fun h=>?_)
          ·refine rM J J<|rY J J J<|rF J J J<|rY J J J<|rL J J .p2 J J<|rY J J J<|rF J J J<|rY J J J<|rL J J .p2 J J<|rY J J J<|aq h fun v12 e6 h=>aJ J (sB e6) cR (.cons .p0 (.cons .p0 .nil)) J J<|rE J J J<|rM J J<|ARun.guard J J J (fun hc=>?_) (fun hc=>?_)
           ·exact have h:=gw hc h;rM J J<|rY J J J<|rF J J J<|rY J J J<|rL J J .p2 J J<|rY J J J<|rF J J J<|rY J J J<|rL J J .p2 J J<|rY J J J<|aq h fun mb e7 h=>aJ J (sB e7) cR (.cons .p0 (.cons .p0 .nil)) J J<|rE J J J<|rA J J<|rN<|ATodo.stop<|ImpX.lq [0,0,0] ⟨mb,h,J⟩ J J
           ·exact have h:=gr hc h;rG J J J J<|rG J J J J<|rG J J J J<|rG J J J J<|rG J J J J<|rT J J J<|rA J J<|rN<|ATodo.stop<|ImpX.lq [0,0,0] ⟨true,h,J⟩ J J
          ·exact rG J J J J<|rG J J J J<|rG J J J J<|rG J J J J<|rG J J J J<|rT J J J<|rM J J<|rG J J J J<|rG J J J J<|rG J J J J<|rG J J J J<|rG J J J J<|rG J J J J<|rT J J J<|rA J J<|rN<|ATodo.stop<|ImpX.lq [0,0,0] ⟨true,h,J⟩ J J
         ·rintro aB ⟨EK,h,rfl⟩
          unfold ca at h
          refine cB h J (fun h=>?_) (fun h=>?_)
          ·refine ax<|rA J J<|rN<|ATodo.ret<|have h:=bz h dm;?_
           cases h
           exact hH J [0,0] J ⟨J,J⟩
          ·refine tK<|ATodo.bU<|tS<|tS<|ATodo.ck (id:=14) (A:=[0,1,3,0,8,31,63,127,255]) 9 mixed J (by kernel_rfl) (by kernel_rfl)<|AM.qv (an J J) J<|AM.qv (aU J J .p2 J J) J<|aq h fun lW e8 h=>AM.dv J (BG e8) cR J<|AM.qv (an J J) J<|AM.qv (az J J .p2 J) J<|aq h fun FO e9 h=>AM.dv J (vq e9) cR J<|AM.aY (xs:=([lW,FO]:List Int).map I) J J J J J J<|aq h fun dU zM h=>AM.dv J (HT zM) cR J<|AM.qv (bM J) J<|AM.nil<|rN<|ax<|rM J J<|ARun.qv (du J J) J<|rN<|cD h J (fun h=>?_) (fun h=>?_)
           ·refine ax<|rM J J<|rA J J<|rN<|ATodo.ret<|have h:=bz h dm;?_
            cases h
            exact hH J [0,0] J ⟨J,J⟩
           ·refine tK<|ax<|rF J J J<|ARun.qv (aU J J .p2 J J) J<|aA J (F1 J) cR J<|ARun.qv (bt J) J<|rN<|cB h J (fun h=>?_) (fun h=>?_)
            ·refine ax<|rA J J<|rN<|ATodo.ret<|have h:=bz h dm;?_
             cases h
             exact hH J [0,0] J ⟨J,J⟩
            ·refine tK<|ATodo.bU<|tR<|ARun.qv (bh J J) J<|rM J J<|rN<|ATodo.stop<|?_
             cases h
             exact ic _ _ J<|ImpX.lq [0,0] J J J
   ·refine ATodo.exit J<|have h:=bz h dm;ax<|rA J J<|rN<|ATodo.ret<|?_
    cases h
    exact hH J [0,0] J ⟨J,J⟩
theorem jW {aa:bb} {r:(Option ak)×Int} (h:cK aa=some r):ACall Tryz.prog 59 [bb.av aa] [] (TM r.1 (T0 ([]) (.pj [.raw (.pointer none),I r.2])) (fun x=>T6 (fun iC vl vm vn vo vp=>[(iC,.cells (sq x vl vm vn vo vp)),(vl,eU x.aW),(vm,nA x.cT),(vn,sd x.at_),(vo,pq x.cG),(vp,yh x.im)]) (fun iC vl vm vn vo vp=>.pj [.ptr iC 0,I r.2]))):=by
 unfold cK at h
 refine ACall.dN ?_
 refine ACall.aQ Tryz.func59 J Tryz.ntmps59 Tryz.results59 J J ?_
 refine ax<|bO J J J J fun b1=>rA J J<|rA J J<|rN<|ax<|ARun.qv (ao J J .p0 J) J<|aq h fun v2 e1 h=>xu J (Cp e1) cR .nil (fun _ _ _ _ _ _=>J) J fun b3 b4 b5 b6 b7 b8=>rA J J<|rN<|tS<|ax<|rM J J<|ARun.ghost<|ImpX.Mz .p0 fun me2 YA=>ImpX.here<|ARun.qv (vT YA J) J<|rM J J<|ARun.ghost<|ImpX.Mz .p0 fun me4 YB=>ImpX.here<|ARun.qv (vT YB J) J<|rM J J<|ARun.ghost<|ImpX.Mz .p0 fun me6 YC=>ImpX.here<|ARun.qv (vT YC J) J<|rM J J<|ARun.ghost<|ImpX.Mz .p0 fun me8 YD=>ImpX.here<|ARun.qv (vT YD J) J<|aC (xs:=[.raw (.func (.func 137) #[.pointer (some ⟨me2,0,none⟩)] #[]),.raw (.func (.func 138) #[.pointer (some ⟨me4,0,none⟩)] #[]),.raw (.func (.func 139) #[.pointer (some ⟨me6,0,none⟩)] #[]),.raw (.func (.func 140) #[.pointer (some ⟨me8,0,none⟩)] #[])]) J J J J J J<|ARun.qv (QV.PW (b:=(4:Int)) (by rfl) (D5 J)) J<|rM J J<|rN<|ATodo.block<|ATodo.Yb 6<|rm.next<|ax<|ARun.qv (QV.dT (by decide) (bu J J)) J<|rN<|tS<|ATodo.D4 J<|tK<|tS<|ATodo.block<|ax<|ARun.qv (qZ J J J J J) J<|ARun.qv (aG J J J) J<|rA J J<|rN<|ax<|rM J J<|aq h fun v9 zM h=>Bq YA J J (wZ zM) cR (.cons .p0 (.cons .p0 .nil)) J J<|rA J J<|rN<|ax<|rM J J<|ARun.qv (du J J) J<|rN<|cD h J (fun h=>?_) (fun h=>?_)
 ·refine ax<|rM J J<|rA J J<|rA J J<|rN<|ATodo.ret<|?_
  cases h
  exact hI J J [] J ⟨J,J⟩
 ·refine tK<|ATodo.bU<|tR<|ARun.qv (av:=I (1:Int)) (QV.PW (by decide) (bh J J)) J<|rM J J<|rN<|ATodo.stop<|ImpX.here<|rm.next<|ax<|ARun.qv (QV.dT (by decide) (bu J J)) J<|rN<|tS<|ATodo.D4 J<|tK<|tS<|ATodo.block<|ax<|ARun.qv (qZ J J J J J) J<|ARun.qv (aG J J J) J<|rA J J<|rN<|ax<|rM J J<|aq h fun v10 AZ h=>Bq YB J J (wB AZ) cR (.cons .p0 .nil) J J<|rA J J<|rN<|ax<|rM J J<|ARun.qv (du J J) J<|rN<|cD h J (fun h=>?_) (fun h=>?_)
  ·refine ax<|rM J J<|rA J J<|rA J J<|rN<|ATodo.ret<|?_
   cases h
   exact hI J J [] J ⟨J,J⟩
  ·refine tK<|ATodo.bU<|tR<|ARun.qv (av:=I (2:Int)) (QV.PW (by decide) (bh J J)) J<|rM J J<|rN<|ATodo.stop<|ImpX.here<|rm.next<|ax<|ARun.qv (QV.dT (by decide) (bu J J)) J<|rN<|tS<|ATodo.D4 J<|tK<|tS<|ATodo.block<|ax<|ARun.qv (qZ J J J J J) J<|ARun.qv (aG J J J) J<|rA J J<|rN<|ax<|rM J J<|aq h fun v11 FX h=>Bq YC J J (vr FX) cR (.cons .p0 (.cons .p0 (.cons .p0 .nil))) J J<|rA J J<|rN<|ax<|rM J J<|ARun.qv (du J J) J<|rN<|cD h J (fun h=>?_) (fun h=>?_)
   ·refine ax<|rM J J<|rA J J<|rA J J<|rN<|ATodo.ret<|?_
    cases h
    exact hI J J [] J ⟨J,J⟩
   ·refine tK<|ATodo.bU<|tR<|ARun.qv (av:=I (3:Int)) (QV.PW (by decide) (bh J J)) J<|rM J J<|rN<|ATodo.stop<|ImpX.here<|rm.next<|ax<|ARun.qv (QV.dT (by decide) (bu J J)) J<|rN<|tS<|ATodo.D4 J<|tK<|tS<|ATodo.block<|ax<|ARun.qv (qZ J J J J J) J<|ARun.qv (aG J J J) J<|rA J J<|rN<|ax<|rM J J<|aq h fun v12 FY h=>Bq YD J J (vL FY) cR (.cons .p0 (.cons .p0 .nil)) J J<|rA J J<|rN<|ax<|rM J J<|ARun.qv (du J J) J<|rN<|cD h J (fun h=>?_) (fun h=>?_)
    ·refine ax<|rM J J<|rA J J<|rA J J<|rN<|ATodo.ret<|?_
     cases h
     exact hI J J [] J ⟨J,J⟩
    ·refine tK<|ATodo.bU<|tR<|ARun.qv (av:=I (4:Int)) (QV.PW (by decide) (bh J J)) J<|rM J J<|rN<|ATodo.stop<|ImpX.here<|rm.next<|ax<|ARun.qv (QV.dF (by decide) (bu J J)) J<|rN<|tS<|ATodo.OQ J<|ATodo.exit J<|ax<|rM J J<|rA J J<|rA J J<|rN<|ATodo.ret<|?_
     cases h
     exact hI J J [0,0,0,0,0,0] J ⟨b3,b4,b5,b6,b7,b8,J,J⟩
theorem Dr {aa:ae} {r:Bool} (h:pL aa=some r):Pu Tryz.prog 331 [.str aa] (.bool r):=by
 unfold pL at h
 refine ACall.aQ Tryz.func331 J Tryz.ntmps331 Tryz.results331 J J ?_
 refine ax<|rA J J<|rN<|tS<|ax<|rM J J<|ARun.qv (eR J) J<|rM J J<|rN<|ATodo.block<|ATodo.bT (fun x:Int=>fC aa x) (fun x aB=>aB=⟨22,[(0,.str aa),(5,I (aa.length:Int)),(6,I x)],[]⟩) h ?_ ?_
 ·exact ImpX.lq [] J J J
 ·intro n2 z1 aB J1 dB h ic dm
  obtain rfl:=dB
  replace h:fC aa n2=some z1:=h
  unfold fC at h
  refine ax<|ARun.qv (bu J J) J<|rN<|tS<|cD h J (fun h=>?_) (fun h=>?_)
  ·refine tK<|tS<|ATodo.block<|ax<|rM J J<|rA J J<|rN<|tS<|ATodo.cut (fun aB=>∃ (c3:Bool),mg n2 c3=some z1∧aB=⟨22,[(0,.str aa),(5,I (aa.length:Int)),(6,I n2),(18,.bool c3)],[]⟩) ?_ ?_
   ·refine tR<|rM J J<|rM J J<|aq h fun c4 e1 h=>ARun.qv (qF J J e1) J<|ARun.qv (bu J J) J<|rM J J<|gF h J J J (fun h=>?_) (fun h=>?_)
    ·exact rM J J<|rY J J J<|rM J J<|rY J J J<|aq h fun c5 e2 h=>ARun.qv (qF J J e2) J<|rY J J J<|ARun.qv (bS J J) J<|rE J J J<|rN<|ATodo.stop<|ImpX.lq [] ⟨decide ((c5.toNat:Int)=(127:Int)),h,J⟩ J J
    ·exact rG J J J J<|rG J J J J<|rG J J J J<|rT J J J<|rN<|ATodo.stop<|ImpX.lq [] ⟨true,h,J⟩ J J
   ·rintro aB ⟨c3,h,rfl⟩
    unfold mg at h
    refine cB h J (fun h=>?_) (fun h=>?_)
    ·refine ax<|rA J J<|rN<|ATodo.ret<|have h:=bz h dm;?_
     cases h
     exact hP J J
    ·refine tK<|ATodo.bU<|tR<|ARun.qv (bh J J) J<|rM J J<|rN<|ATodo.stop<|?_
     cases h
     exact ic _ _ J<|ImpX.lq [] J J J
  ·refine ATodo.exit J<|have h:=bz h dm;?_
   unfold sJ at h
   refine ax<|rM J J<|aq h fun v6 e3 h=>aA J (mK e3) cR J<|rA J J<|rN<|ATodo.ret<|?_
   cases h
   exact hP J J
theorem lZ [GI:bc] {aa:ae} {ah:ae} {r:Bool} (h:strings_HasPrefix aa ah=some r):Pu Tryz.prog 239 [.str aa,.str ah] (.bool r):=by
 unfold strings_HasPrefix at h
 refine ACall.aQ Tryz.func239 J Tryz.ntmps239 Tryz.results239 J J ?_
 refine ax<|rA J J<|rN<|ax<|rM J J<|rM J J<|aq h fun v1 e1 h=>aA J (ly e1) cR J<|rA J J<|rN<|ATodo.ret<|?_
 cases h
 exact hP J J
theorem zQ [GI:bc] {aa:ae} {ah:ae} {r:Bool} (h:strings_HasSuffix aa ah=some r):Pu Tryz.prog 332 [.str aa,.str ah] (.bool r):=by
 unfold strings_HasSuffix at h
 refine ACall.aQ Tryz.func332 J Tryz.ntmps332 Tryz.results332 J J ?_
 refine ax<|rA J J<|rN<|ax<|rM J J<|rM J J<|aq h fun v1 e1 h=>aA J (lx e1) cR J<|rA J J<|rN<|ATodo.ret<|?_
 cases h
 exact hP J J
theorem vu {aa:ae} {ah:ae} {r:Bool} (h:strings_Contains aa ah=some r):Pu Tryz.prog 156 [.str aa,.str ah] (.bool r):=by
 unfold strings_Contains at h
 refine ACall.aQ Tryz.func156 J Tryz.ntmps156 Tryz.results156 J J ?_
 refine ax<|rA J J<|rN<|ax<|rM J J<|rM J J<|aq h fun v1 e1 h=>aA J (Dl e1) cR J<|ARun.qv (uu J J) J<|rA J J<|rN<|ATodo.ret<|?_
 cases h
 exact hP J J
theorem HU {aa:ae} {r:Bool} (h:ve aa=some r):Pu Tryz.prog 291 [.str aa] (.bool r):=by
 unfold ve at h
 refine ACall.aQ Tryz.func291 J Tryz.ntmps291 Tryz.results291 J J ?_
 refine ax<|rA J J<|rN<|tS<|ATodo.cut (fun aB=>∃ (c1:Bool),lL c1=some r∧aB=⟨20,[(2,.bool c1)],[]⟩) ?_ ?_
 ·refine tR<|rM J J<|aq h fun v2 e1 h=>aA J (Dr e1) cR J<|rM J J<|ARun.guard J J J (fun hc=>?_) (fun hc=>?_)
  ·refine have h:=gr hc h;rM J J<|rY J J J<|aq h fun v3 e2 h=>aA J (lZ e2) cR J<|rY J J J<|ARun.qv (bt J) J<|rT J J J<|rM J J<|ARun.guard J J J (fun hc=>?_) (fun hc=>?_)
   ·refine have h:=gr hc h;rM J J<|rY J J J<|aq h fun v4 e3 h=>aA J (zQ e3) cR J<|rY J J J<|ARun.qv (bt J) J<|rT J J J<|rM J J<|ARun.guard J J J (fun hc=>?_) (fun hc=>?_)
    ·exact have h:=gr hc h;rM J J<|rY J J J<|aq h fun v5 e4 h=>aA J (vu e4) cR J<|rY J J J<|ARun.qv (bt J) J<|rT J J J<|rA J J<|rN<|ATodo.stop<|ImpX.lq [] ⟨!v5,h,J⟩ J J
    ·exact have h:=gw hc h;rG J J J J<|rG J J J J<|rE J J J<|rA J J<|rN<|ATodo.stop<|ImpX.lq [] ⟨false,h,J⟩ J J
   ·exact have h:=gw hc h;rG J J J J<|rG J J J J<|rE J J J<|rM J J<|rG J J J J<|rG J J J J<|rG J J J J<|rE J J J<|rA J J<|rN<|ATodo.stop<|ImpX.lq [] ⟨false,h,J⟩ J J
  ·exact have h:=gw hc h;rG J J J J<|rG J J J J<|rE J J J<|rM J J<|rG J J J J<|rG J J J J<|rG J J J J<|rE J J J<|rM J J<|rG J J J J<|rG J J J J<|rG J J J J<|rE J J J<|rA J J<|rN<|ATodo.stop<|ImpX.lq [] ⟨false,h,J⟩ J J
 ·rintro aB ⟨c1,h,rfl⟩
  unfold lL at h
  refine ATodo.ret<|?_
  cases h
  exact hP J J
theorem Ds {aa:ae} {r:Bool} (h:pM aa=some r):Pu Tryz.prog 220 [.str aa] (.bool r):=by
 unfold pM at h
 refine ACall.aQ Tryz.func220 J Tryz.ntmps220 Tryz.results220 J J ?_
 refine ax<|rA J J<|rN<|tS<|ATodo.cut (fun aB=>∃ (c1:Bool),mh c1=some r∧aB=⟨11,[(2,.bool c1)],[]⟩) ?_ ?_
 ·refine tR<|rM J J<|ARun.qv (eR J) J<|aA J (oY J) cR J<|ARun.qv (bt J) J<|rM J J<|ARun.guard J J J (fun hc=>?_) (fun hc=>?_)
  ·exact have h:=gr hc h;rM J J<|rY J J J<|aq h fun v2 e1 h=>aA J (HU e1) cR J<|rT J J J<|rA J J<|rN<|ATodo.stop<|ImpX.lq [] ⟨v2,h,J⟩ J J
  ·exact have h:=gw hc h;rG J J J J<|rE J J J<|rA J J<|rN<|ATodo.stop<|ImpX.lq [] ⟨false,h,J⟩ J J
 ·rintro aB ⟨c1,h,rfl⟩
  unfold mh at h
  refine ATodo.ret<|?_
  cases h
  exact hP J J
theorem BH {aa:aE} {r:Int} (h:dE aa=some r):Pu Tryz.prog 142 [aE.av aa] (I r):=by
 unfold dE at h
 refine ACall.aQ Tryz.func142 J Tryz.ntmps142 Tryz.results142 J J ?_
 refine ax<|bO J J J J fun b1=>rA J J<|rN<|ax<|rF J J J<|ARun.qv (aU J J .p0 J J) J<|bn J J J J fun b2=>au J J J J .p0 J J<|rN<|tS<|ATodo.block<|tS<|ATodo.cut (fun aB=>∃ (c3:Bool),iK aa c3=some r∧aB=⟨120,[(1,.ptr b1 0),(3,.ptr b2 0),(10,.bool c3)],[(b1,.cells (zL aa)),(b2,.cells (VA aa.Device))]⟩) ?_ ?_
 ·refine tR<|rF J J J<|rL J J .p0 J J<|aq h fun v4 e1 h=>aA J (gU e1) cR J<|ARun.qv (bt J) J<|rM J J<|ARun.guard J J J (fun hc=>?_) (fun hc=>?_)
  ·refine have h:=gw hc h;rF J J J<|rY J J J<|rL J J .p0 J J<|rY J J J<|aq h fun v5 e2 h=>aA J (gU e2) cR J<|rY J J J<|ARun.qv (bt J) J<|rE J J J<|rM J J<|ARun.guard J J J (fun hc=>?_) (fun hc=>?_)
   ·refine have h:=gw hc h;rF J J J<|rY J J J<|rL J J .p0 J J<|rY J J J<|ARun.qv (qD J J) J<|rY J J J<|rM J J<|gT h J J J (fun h=>?_) (fun h=>?_)
    ·exact rF J J J<|rY J J J<|rL J J .p0 J J<|rY J J J<|aq h fun v6 e3 h=>aA J (gU e3) cR J<|rY J J J<|ARun.qv (bt J) J<|rY J J J<|rT J J J<|rE J J J<|rA J J<|rN<|ATodo.stop<|ImpX.lq [1,0] ⟨!v6,h,J⟩ J J
    ·exact rG J J J J<|rG J J J J<|rG J J J J<|rY J J J<|rE J J J<|rE J J J<|rA J J<|rN<|ATodo.stop<|ImpX.lq [1,0] ⟨false,h,J⟩ J J
   ·exact have h:=gr hc h;rG J J J J<|rG J J J J<|rG J J J J<|ARun.bK J J J<|ARun.bK J J J<|ARun.bK J J J<|ARun.bK J J J<|rG J J J J<|rT J J J<|rA J J<|rN<|ATodo.stop<|ImpX.lq [1,0] ⟨true,h,J⟩ J J
  ·exact have h:=gr hc h;rG J J J J<|rG J J J J<|rG J J J J<|rT J J J<|rM J J<|rG J J J J<|rG J J J J<|rG J J J J<|rG J J J J<|ARun.bK J J J<|ARun.bK J J J<|ARun.bK J J J<|ARun.bK J J J<|rG J J J J<|rT J J J<|rA J J<|rN<|ATodo.stop<|ImpX.lq [1,0] ⟨true,h,J⟩ J J
 ·rintro aB ⟨c3,h,rfl⟩
  unfold iK at h
  refine cB h J (fun h=>?_) (fun h=>?_)
  ·refine ax<|rA J J<|rN<|ATodo.ret<|?_
   cases h
   exact hP J J
  ·refine ax<|rF J J J<|ARun.qv (aU J J .p1 J J) J<|aA J (yN J) cR J<|ARun.qv (bt J) J<|rA J J<|rN<|cB h J (fun h=>?_) (fun h=>?_)
   ·refine ax<|rA J J<|rN<|ATodo.ret<|?_
    cases h
    exact hP J J
   ·refine ax<|rF J J J<|rL J J .p1 J J<|ARun.qv (bD J) J<|ARun.qv (dJ J J) J<|rA J J<|rN<|cD h J (fun h=>?_) (fun h=>?_)
    ·refine ax<|rA J J<|rN<|ATodo.ret<|?_
     cases h
     exact hP J J
    ·refine tK<|ATodo.bU<|tS<|ax<|rF J J J<|rL J J .p1 J J<|ARun.qv (bD J) J<|rM J J<|rN<|ATodo.block<|ATodo.bT (fun x:Int=>lN aa x) (fun x aB=>aB=⟨120,[(1,.ptr b1 0),(3,.ptr b2 0),(43,N0 aa.Device.kO),(44,I (aa.Device.kO.length:Int)),(45,I x)],[(b1,.cells (zL aa)),(b2,.cells (VA aa.Device))]⟩) h ?_ ?_
     ·exact ImpX.lq [0,0] J J J
     ·intro n8 z1 aB J1 dB h ic dm
      obtain rfl:=dB
      replace h:lN aa n8=some z1:=h
      unfold lN at h
      refine ax<|ARun.qv (bu J J) J<|rN<|tS<|cD h J (fun h=>?_) (fun h=>?_)
      ·refine tK<|tS<|ATodo.block<|ax<|rM J J<|aq h fun v9 e4 h=>ARun.qv (aP J J J e4 J J) J<|ARun.qv (aH J J J) J<|bn J J J J fun vH=>rA J J<|au J J J J .p0 J J<|rN<|ATodo.block<|ax<|rF J J J<|rL J J .p0 J J<|aq h fun v11 e5 h=>aA J (gU e5) cR J<|ARun.qv (bt J) J<|rA J J<|rN<|cB h J (fun h=>?_) (fun h=>?_)
       ·refine ax<|rA J J<|rN<|ATodo.ret<|have h:=bz h dm;?_
        cases h
        exact hP J J
       ·refine tS<|ATodo.cut (fun aB=>∃ (c12:Bool),jH n8 v9 c12=some z1∧aB=⟨120,[(1,.ptr b1 0),(3,.ptr b2 0),(5,.ptr vH 0),(43,N0 aa.Device.kO),(44,I (aa.Device.kO.length:Int)),(45,I n8),(55,.bool c12)],[(b1,.cells (zL aa)),(b2,.cells (VA aa.Device)),(vH,.cells [.str v9.Name,.str v9.Value])]⟩) ?_ ?_
        ·refine ATodo.ck (id:=13) (A:=[0,1,3,7,15,7,39,7,135,487,999,2023,4095,8191,16383]) 15 mixed J (by kernel_rfl) (by kernel_rfl)<|AM.qv (aL J) J<|AM.qv (dJ J J) J<|AM.qv (aL J) J<|AM.cA J J J (fun hc=>?_) (fun hc=>?_)
         ·exact have h:=gr hc h;AM.qv (an J J) J<|AM.aj J J J<|AM.qv (az J J .p0 J) J<|AM.aj J J J<|AM.qv (an J J) J<|AM.aj J J J<|AM.qv (az J J .p2 J) J<|AM.aj J J J<|AM.qv (aL J) J<|AM.aj J J J<|AM.qv (gq J J) J<|AM.aj J J J<|aq h fun mb e6 h=>AM.qv (aP J J J e6 J J) J<|AM.aj J J J<|AM.qv (bJ J J) J<|AM.aj J J J<|AM.qv (aG J J J) J<|AM.aj J J J<|AM.qv (rk J J) J<|AM.qv (cJ J J) J<|AM.qv (bM J) J<|AM.nil<|rN<|ATodo.stop<|ImpX.lq [1,1,0] ⟨Op.bytesLess v9.Name mb.Name||v9.Name==mb.Name,h,J⟩ J J
         ·exact have h:=wq hc h;AM.ai J J J J<|AM.ai J J J J<|AM.ai J J J J<|AM.ai J J J J<|AM.ai J J J J<|AM.ai J J J J<|AM.ai J J J J<|AM.ai J J J J<|AM.ai J J J J<|AM.qv (eD J J) J<|AM.qv (bM J) J<|AM.nil<|rN<|ATodo.stop<|ImpX.lq [1,1,0] ⟨false,h,J⟩ J J
        ·rintro aB ⟨c12,h,rfl⟩
         unfold jH at h
         refine cB h J (fun h=>?_) (fun h=>?_)
         ·refine ax<|rA J J<|rN<|ATodo.ret<|have h:=bz h dm;?_
          cases h
          exact hP J J
         ·refine ax<|rF J J J<|rL J J .p2 J J<|aq h fun lW e7 h=>aA J (Ds e7) cR J<|ARun.qv (bt J) J<|rA J J<|rN<|cB h J (fun h=>?_) (fun h=>?_)
          ·refine ax<|rA J J<|rN<|ATodo.ret<|have h:=bz h dm;?_
           cases h
           exact hP J J
          ·refine tK<|ATodo.bU<|ATodo.bU<|tR<|ARun.qv (bh J J) J<|rM J J<|rN<|ATodo.stop<|?_
           cases h
           exact ic _ _ J<|ImpX.lq [0,0] J J J
      ·refine ATodo.exit J<|have h:=bz h dm;?_
       unfold tn at h
       refine tS<|ax<|rF J J J<|rL J J .p0 J J<|ARun.qv (bD J) J<|ARun.qv (dJ J J) J<|rN<|cD h J (fun h=>?_) (fun h=>?_)
       ·refine ax<|rA J J<|rN<|ATodo.ret<|?_
        cases h
        exact hP J J
       ·refine tK<|tS<|ax<|rF J J J<|rL J J .p0 J J<|ARun.qv (bD J) J<|rM J J<|rN<|ATodo.block<|ATodo.bT (fun x:Int=>lM aa x) (fun x aB=>aB=⟨120,[(1,.ptr b1 0),(81,N1 aa.ey),(82,I (aa.ey.length:Int)),(83,I x)],[(b1,.cells (zL aa))]⟩) h ?_ ?_
        ·exact ImpX.lq [0] J J J
        ·intro n16 z2 aB J2 dB h zN uS
         obtain rfl:=dB
         replace h:lM aa n16=some z2:=h
         unfold lM at h
         refine ax<|ARun.qv (bu J J) J<|rN<|tS<|cD h J (fun h=>?_) (fun h=>?_)
         ·refine tK<|tS<|ATodo.block<|ax<|rM J J<|aq h fun v17 e8 h=>ARun.qv (aP J J J e8 J J) J<|ARun.qv (aH J J J) J<|bn J J J J fun GP=>rA J J<|au J J J J .p0 J J<|rN<|ATodo.block<|ax<|rF J J J<|rL J J .p0 J J<|aq h fun dI e9 h=>aA J (x1 e9) cR J<|ARun.qv (bt J) J<|rA J J<|rN<|cB h J (fun h=>?_) (fun h=>?_)
          ·refine ax<|rA J J<|rN<|ATodo.ret<|have h:=bz h uS;?_
           cases h
           exact hP J J
          ·refine tS<|ATodo.cut (fun aB=>∃ (c20:Bool),jI n16 v17 c20=some z2∧aB=⟨120,[(1,.ptr b1 0),(7,.ptr GP 0),(81,N1 aa.ey),(82,I (aa.ey.length:Int)),(83,I n16),(93,.bool c20)],[(b1,.cells (zL aa)),(GP,.cells (cE7 v17))]⟩) ?_ ?_
           ·refine ATodo.ck (id:=25) (A:=[0,1,3,7,15,7,39,7,135,487,999,2023,4095,8191,16383]) 15 mixed J (by kernel_rfl) (by kernel_rfl)<|AM.qv (aL J) J<|AM.qv (dJ J J) J<|AM.qv (aL J) J<|AM.cA J J J (fun hc=>?_) (fun hc=>?_)
            ·exact have h:=gr hc h;AM.qv (an J J) J<|AM.aj J J J<|AM.qv (az J J .p0 J) J<|AM.aj J J J<|AM.qv (an J J) J<|AM.aj J J J<|AM.qv (az J J .p1 J) J<|AM.aj J J J<|AM.qv (aL J) J<|AM.aj J J J<|AM.qv (gq J J) J<|AM.aj J J J<|aq h fun v21 zM h=>AM.qv (aP J J J zM J J) J<|AM.aj J J J<|AM.qv (bJ J J) J<|AM.aj J J J<|AM.qv (aG J J J) J<|AM.aj J J J<|AM.qv (rk J J) J<|AM.qv (cJ J J) J<|AM.qv (bM J) J<|AM.nil<|rN<|ATodo.stop<|ImpX.lq [1,0] ⟨Op.bytesLess v17.Name v21.Name||v17.Name==v21.Name,h,J⟩ J J
            ·exact have h:=wq hc h;AM.ai J J J J<|AM.ai J J J J<|AM.ai J J J J<|AM.ai J J J J<|AM.ai J J J J<|AM.ai J J J J<|AM.ai J J J J<|AM.ai J J J J<|AM.ai J J J J<|AM.qv (eD J J) J<|AM.qv (bM J) J<|AM.nil<|rN<|ATodo.stop<|ImpX.lq [1,0] ⟨false,h,J⟩ J J
           ·rintro aB ⟨c20,h,rfl⟩
            unfold jI at h
            refine cB h J (fun h=>?_) (fun h=>?_)
            ·refine ax<|rA J J<|rN<|ATodo.ret<|have h:=bz h uS;?_
             cases h
             exact hP J J
            ·refine tS<|ATodo.cut (fun aB=>∃ (P4:Bool),pN n16 P4=some z2∧aB=⟨120,[(1,.ptr b1 0),(81,N1 aa.ey),(82,I (aa.ey.length:Int)),(83,I n16),(108,.bool P4)],[(b1,.cells (zL aa))]⟩) ?_ ?_
             ·refine tR<|rF J J J<|ARun.qv (aU J J .p1 J J) J<|aq h fun v23 AZ h=>aA J (BF AZ) cR J<|ARun.qv (bt J) J<|rM J J<|ARun.guard J J J (fun hc=>?_) (fun hc=>?_)
              ·rw [FJ hc] at h
               exact rF J J J<|rY J J J<|rF J J J<|rY J J J<|rL J J .p1 J J<|rY J J J<|ARun.qv (bS J J) J<|rE J J J<|rA J J<|rN<|ATodo.stop<|ImpX.lq [0] ⟨decide (v17.Value.Kind=(0:Int)),h,J⟩ J J
              ·rw [FI hc] at h
               exact rG J J J J<|rG J J J J<|rG J J J J<|rT J J J<|rA J J<|rN<|ATodo.stop<|ImpX.lq [0] ⟨true,h,J⟩ J J
             ·rintro aB ⟨P4,h,rfl⟩
              unfold pN at h
              refine cB h J (fun h=>?_) (fun h=>?_)
              ·refine ax<|rA J J<|rN<|ATodo.ret<|have h:=bz h uS;?_
               cases h
               exact hP J J
              ·refine tK<|ATodo.bU<|ATodo.bU<|tR<|ARun.qv (bh J J) J<|rM J J<|rN<|ATodo.stop<|?_
               cases h
               exact zN _ _ J<|ImpX.lq [0] J J J
         ·refine ATodo.exit J<|have h:=bz h uS;ax<|rA J J<|rN<|ATodo.ret<|?_
          cases h
          exact hP J J
theorem Ag [GI:bc] {aa:Int} {r:Bool} (h:oQ aa=r):Pu Tryz.prog 66 [I aa] (.bool r):=by
 unfold oQ at h
 refine ACall.aQ Tryz.func66 J Tryz.ntmps66 Tryz.results66 J J ?_
 refine ax<|rA J J<|rN<|ax<|rM J J<|aA J (oY J) cR J<|ARun.qv (bt J) J<|rA J J<|rN<|ATodo.ret<|?_
 obtain rfl:=h
 exact hP J J
theorem qL {bd:Bk} {bB:Bk} {bY:Bk} {cm:Bk} {cq:Bk} {dj:Bk} {aa:ak} {ah:aE} {aT:Int} {r:Int} (h:fR aa ah aT=some r):ACall Tryz.prog 124 [.ptr bd 0,aE.av ah,I aT] [(bd,.cells (sq aa bB bY cm cq dj)),(bB,eU aa.aW)] (T0 ([(bd,.cells (sq aa bB bY cm cq dj)),(bB,eU aa.aW)]) (I r)):=by
 unfold fR at h
 refine ACall.dN ?_
 refine ACall.aQ Tryz.func124 J Tryz.ntmps124 Tryz.results124 J J ?_
 refine ax<|bO J J J J fun b1=>rA J J<|rN<|tS<|ax<|ARun.qv (ao J J .p0 J) J<|aq h fun v2 e1 h=>aA J (BH e1) cR J<|rA J J<|rN<|ax<|rM J J<|ARun.qv (du J J) J<|rN<|cD h J (fun h=>?_) (fun h=>?_)
 ·refine ax<|rM J J<|rA J J<|rN<|ATodo.ret<|?_
  cases h
  exact hH J [1,1] J ⟨J,J⟩
 ·refine tK<|tS<|ax<|rF J J J<|rF J J J<|rL J J .p0 J J<|rA J J<|rN<|ATodo.block<|tS<|ATodo.cut (fun aB=>∃ (c3:Bool),et aT c3=some r∧aB=⟨30,[(2,I aT),(17,.bool c3)],[(bd,.cells (sq aa bB bY cm cq dj)),(bB,eU aa.aW)]⟩) ?_ ?_
  ·refine tR<|rM J J<|ARun.qv (qD J J) J<|rM J J<|gT h J J J (fun h=>?_) (fun h=>?_)
   ·exact rM J J<|rY J J J<|rM J J<|rY J J J<|aq h fun v4 e2 h=>aJ J (iD e2) cR (.cons .p1 (.cons .p1 .nil)) J J<|rY J J J<|ARun.qv (bt J) J<|rT J J J<|rA J J<|rN<|ATodo.stop<|ImpX.lq [0,0] ⟨!v4,h,J⟩ J J
   ·exact rG J J J J<|rG J J J J<|rG J J J J<|rE J J J<|rA J J<|rN<|ATodo.stop<|ImpX.lq [1,1] ⟨false,h,J⟩ J J
  ·rintro aB ⟨c3,h,rfl⟩
   unfold et at h
   refine cB h J (fun h=>?_) (fun h=>?_)
   ·refine ax<|rA J J<|rN<|ATodo.ret<|?_
    cases h
    exact hH J [0,0] J ⟨J,J⟩
   ·refine ax<|rM J J<|aA J (Ag J) cR J<|ARun.qv (bt J) J<|rA J J<|rN<|cB h J (fun h=>?_) (fun h=>?_)
    ·refine ax<|rA J J<|rN<|ATodo.ret<|?_
     cases h
     exact hH J [0,0] J ⟨J,J⟩
    ·refine tK<|ATodo.bU<|ax<|rA J J<|rN<|ATodo.ret<|?_
     cases h
     exact hH J [0,0] J ⟨J,J⟩
theorem sg {Xd:Bk} {aa:bb} {ah:ae} {aT:ae} {bG:aE} {eB:Int} {r:(Option ak)×Int} (h:lg aa ah aT bG eB=some r):ACall Tryz.prog 48 [bb.av aa,.ptr Xd 0,.str aT,aE.av bG,I eB] [(Xd,.cells [.str ah])] (TM r.1 (T0 ([(Xd,.cells [.str ah])]) (.pj [.raw (.pointer none),I r.2])) (fun x=>T6 (fun iC vl vm vn vo vp=>[(Xd,.cells [.str ah]),(iC,.cells (sq x vl vm vn vo vp)),(vl,eU x.aW),(vm,nA x.cT),(vn,sd x.at_),(vo,pq x.cG),(vp,yh x.im)]) (fun iC vl vm vn vo vp=>.pj [.ptr iC 0,I r.2]))):=by
 unfold lg at h
 refine ACall.dN ?_
 refine ACall.aQ Tryz.func48 J Tryz.ntmps48 Tryz.results48 J J ?_
 refine ax<|bO J J J J fun b1=>bO J J J J fun b2=>rA J J<|rA J J<|rN<|ax<|ARun.qv (ao J J .p1 J) J<|aq h fun v3 e1 h=>Ld h (fun e2 h=>?_) (fun x4 e2 h=>?_)
 ·refine have Qe:=xp e2 (jW e1);aJ J Qe cR .nil J J<|rM J J<|rX J J J<|rX J J J<|rA J J<|rA J J<|rN<|tS<|ax<|rM J J<|ARun.qv (du J J) J<|rN<|cD h J (fun h=>?_) (fun h=>?_)
  ·refine ax<|rM J J<|rA J J<|rA J J<|rN<|ATodo.ret<|?_
   cases h
   exact hI J J [2] J ⟨J,J⟩
  ·refine tK<|tS<|tS<|ATodo.cut (fun aB=>∃ (c5:Bool),qh c5=some r∧aB=⟨45,[(4,I eB),(8,.ptr b2 0),(12,.raw (.pointer none)),(36,.bool c5)],[(Xd,.cells [.str ah]),(b2,.cells (zL bG))]⟩) ?_ ?_
   ·refine tR<|rM J J<|ARun.qv (Mv J J) J<|rM J J<|rY J J J<|rM J J<|rY J J J<|ARun.qv (aV J) J<|rY J J J<|rL J J .p2 J J<|rY J J J<|aq h fun v6 e3 h=>aA J (gU e3) cR J<|rY J J J<|ARun.qv (bt J) J<|rT J J J<|rM J J<|ARun.guard J J J (fun hc=>?_) (fun hc=>?_)
    ·exact have h:=gw hc h;rM J J<|rY J J J<|aq h fun v7 e4 h=>aA J (iE e4) cR J<|rY J J J<|ARun.qv (bt J) J<|rE J J J<|rN<|ATodo.stop<|ImpX.lq [2,0] ⟨!v7,h,J⟩ J J
    ·exact have h:=gr hc h;rG J J J J<|rG J J J J<|rT J J J<|rN<|ATodo.stop<|ImpX.lq [2,0] ⟨true,h,J⟩ J J
   ·rintro aB ⟨c5,h,rfl⟩
    unfold qh at h
    refine cB h J (fun h=>?_) (fun h=>?_)
    ·refine ax<|rA J J<|rA J J<|rN<|ATodo.ret<|?_
     cases h
     exact hI J J [0] J ⟨J,J⟩
    ·refine tK<|tS<|ax<|rM J J<|ARun.qv (ao J J .p1 J) J<|rM J J<|?_
     cases h
 ·refine have Qf:=xq e2 (jW e1);xu J Qf cR .nil (fun _ _ _ _ _ _=>J) J fun b8 b9 vH ud KQ yK=>rM J J<|rX J J J<|rX J J J<|rA J J<|rA J J<|rN<|tS<|ax<|rM J J<|ARun.qv (du J J) J<|rN<|cD h J (fun h=>?_) (fun h=>?_)
  ·refine ax<|rM J J<|rA J J<|rA J J<|rN<|ATodo.ret<|?_
   cases h
   exact hI J J [8] J ⟨J,J⟩
  ·refine tK<|tS<|tS<|ATodo.cut (fun aB=>∃ (EL:Bool),nq bG eB x4 EL=some r∧aB=⟨45,[(4,I eB),(8,.ptr b2 0),(12,.ptr b8 0),(36,.bool EL)],[(Xd,.cells [.str ah]),(b2,.cells (zL bG)),(b8,.cells (sq x4 b9 vH ud KQ yK)),(b9,eU x4.aW),(vH,nA x4.cT),(ud,sd x4.at_),(KQ,pq x4.cG),(yK,yh x4.im)]⟩) ?_ ?_
   ·refine tR<|rM J J<|ARun.qv (Mv J J) J<|rM J J<|rY J J J<|rM J J<|rY J J J<|ARun.qv (aV J) J<|rY J J J<|rL J J (.next .p7) J J<|rY J J J<|aq h fun FO e5 h=>aA J (gU e5) cR J<|rY J J J<|ARun.qv (bt J) J<|rT J J J<|rM J J<|ARun.guard J J J (fun hc=>?_) (fun hc=>?_)
    ·exact have h:=gw hc h;rM J J<|rY J J J<|aq h fun dU e6 h=>aA J (iE e6) cR J<|rY J J J<|ARun.qv (bt J) J<|rE J J J<|rN<|ATodo.stop<|ImpX.lq [8,6,0,0,0,0,0,0] ⟨!dU,h,J⟩ J J
    ·exact have h:=gr hc h;rG J J J J<|rG J J J J<|rT J J J<|rN<|ATodo.stop<|ImpX.lq [8,6,0,0,0,0,0,0] ⟨true,h,J⟩ J J
   ·rintro aB ⟨EL,h,rfl⟩
    unfold nq at h
    refine cB h J (fun h=>?_) (fun h=>?_)
    ·refine ax<|rA J J<|rA J J<|rN<|ATodo.ret<|?_
     cases h
     exact hI J J [0] J ⟨J,J⟩
    ·refine tK<|tS<|ax<|rM J J<|ARun.qv (ao J J .p1 J) J<|rM J J<|aq h fun v17 e7 h=>aJ J (qL e7) cR (.cons .p2 (.cons .p2 .nil)) J J<|rA J J<|rN<|ax<|rM J J<|ARun.qv (du J J) J<|rN<|cD h J (fun h=>?_) (fun h=>?_)
     ·refine ax<|rM J J<|rA J J<|rA J J<|rN<|ATodo.ret<|?_
      cases h
      exact hI J J [2] J ⟨J,J⟩
     ·refine tK<|ax<|rM J J<|rA J J<|rA J J<|rN<|ATodo.ret<|?_
      cases h
      exact hI J J [2,0,0,1,1,1,1] J ⟨b8,b9,vH,ud,KQ,yK,J,J⟩
theorem Dt [GI:bc] {aa:ae} {ah:ae} {r:Bool} (h:nG aa ah=some r):Pu Tryz.prog 198 [.str aa,.str ah] (.bool r):=by
 unfold nG at h
 refine ACall.aQ Tryz.func198 J Tryz.ntmps198 Tryz.results198 J J ?_
 refine ax<|rA J J<|rN<|ax<|rM J J<|aq h fun v1 e1 h=>aA J (lY e1) cR J<|rM J J<|rX J J J<|rX J J J<|rA J J<|rA J J<|rN<|tS<|ATodo.cut (fun aB=>∃ (c2:Bool),jO c2=some r∧aB=⟨23,[(4,.bool c2)],[]⟩) ?_ ?_
 ·refine tR<|rM J J<|rM J J<|ARun.qv (fS J J) J<|rM J J<|gF h J J J (fun h=>?_) (fun h=>?_)
  ·refine rM J J<|rY J J J<|rM J J<|ARun.guard J J J (fun hc=>?_) (fun hc=>?_)
   ·exact have h:=gr hc h;rM J J<|rY J J J<|rM J J<|rY J J J<|aq h fun v3 e2 h=>aA J (lZ e2) cR J<|rY J J J<|rT J J J<|rE J J J<|rA J J<|rN<|ATodo.stop<|ImpX.lq [] ⟨v3,h,J⟩ J J
   ·exact have h:=gw hc h;rG J J J J<|rG J J J J<|rY J J J<|rE J J J<|rE J J J<|rA J J<|rN<|ATodo.stop<|ImpX.lq [] ⟨false,h,J⟩ J J
  ·exact rG J J J J<|ARun.bK J J J<|ARun.bK J J J<|ARun.bK J J J<|rG J J J J<|rT J J J<|rA J J<|rN<|ATodo.stop<|ImpX.lq [] ⟨true,h,J⟩ J J
 ·rintro aB ⟨c2,h,rfl⟩
  unfold jO at h
  refine ATodo.ret<|?_
  cases h
  exact hP J J
theorem zR [GI:bc] {aa:ae} {ah:ae} {r:Bool} (h:jc aa ah=some r):Pu Tryz.prog 197 [.str aa,.ik [.str ah]] (.bool r):=by
 unfold jc at h
 refine ACall.aQ Tryz.func197 J Tryz.ntmps197 Tryz.results197 J J ?_
 refine ax<|rA J J<|rN<|ax<|rM J J<|ARun.qv (aG J J J) J<|aq h fun v1 e1 h=>aA J (Dt e1) cR J<|rA J J<|rN<|ATodo.ret<|?_
 cases h
 exact hP J J
theorem lz [GI:bc] {aa:List ae} {er:ae→Option Bool} {cL:FuncId} [aZ Tryz.prog cL] {dR:List AV} (jw:∀ {y0:_} {u:Bool},er y0=some u→Pu Tryz.prog cL (.str y0 :: dR) (.bool u)) {r:Int} (h:fD aa er=some r):Pu Tryz.prog 167 [ph aa,.func (.func cL) dR] (I r):=by
 unfold fD at h
 refine ACall.aQ Tryz.func167 J Tryz.ntmps167 Tryz.results167 J J ?_
 refine ax<|rA J J<|rN<|tS<|ax<|rM J J<|ARun.qv (bD J) J<|rM J J<|rN<|ATodo.block<|ATodo.bT (fun x:Int=>ei aa er x) (fun x aB=>aB=⟨19,[(0,ph aa),(1,.func (.func cL) dR),(7,I (aa.length:Int)),(8,I x)],[]⟩) h ?_ ?_
 ·exact ImpX.lq [] J J J
 ·intro n2 z1 aB J1 dB h ic dm
  obtain rfl:=dB
  replace h:ei aa er n2=some z1:=h
  unfold ei at h
  refine ax<|ARun.qv (bu J J) J<|rN<|tS<|cD h J (fun h=>?_) (fun h=>?_)
  ·refine tK<|tS<|ATodo.block<|ax<|rM J J<|rA J J<|rN<|ax<|rM J J<|rM J J<|rM J J<|aq h fun v3 e1 h=>ARun.qv (aP J J J e1 J J) J<|ARun.qv (aG J J J) J<|aq h fun v4 e2 h=>tG J J (jw e2) cR J<|rN<|cB h J (fun h=>?_) (fun h=>?_)
   ·refine ax<|rM J J<|rA J J<|rN<|ATodo.ret<|have h:=bz h dm;?_
    cases h
    exact hP J J
   ·refine tK<|ATodo.bU<|tR<|ARun.qv (bh J J) J<|rM J J<|rN<|ATodo.stop<|?_
    cases h
    exact ic _ _ J<|ImpX.lq [] J J J
  ·refine ATodo.exit J<|have h:=bz h dm;ax<|rA J J<|rN<|ATodo.ret<|?_
   cases h
   exact hP J J
theorem bP [GI:bc] {aa:List ae} {er:ae→Option Bool} {cL:FuncId} [aZ Tryz.prog cL] {dR:List AV} (jw:∀ {y0:_} {u:Bool},er y0=some u→Pu Tryz.prog cL (.str y0 :: dR) (.bool u)) {r:Bool} (h:aM aa er=some r):Pu Tryz.prog 153 [ph aa,.func (.func cL) dR] (.bool r):=by
 unfold aM at h
 refine ACall.aQ Tryz.func153 J Tryz.ntmps153 Tryz.results153 J J ?_
 refine ax<|rA J J<|rN<|ax<|rM J J<|rM J J<|aq h fun v1 e1 h=>dc J (lz jw e1) (.cons (.co (.refl _)) (.cons (.co (.refl _)) .nil)) J J<|ARun.qv (uu J J) J<|rA J J<|rN<|ATodo.ret<|?_
 cases h
 exact hP J J
theorem sT [GI:bc] {aa:List ae} {ah:ae} {r:Bool} (h:kr aa ah=some r):Pu Tryz.prog 130 [ph aa,.str ah] (.bool r):=by
 unfold kr at h
 refine ACall.aQ Tryz.func130 J Tryz.ntmps130 Tryz.results130 J J ?_
 refine ax<|bO J J J J fun b1=>rA J J<|rN<|ax<|rM J J<|ARun.qv (fI J) J<|aq h fun v2 e1 h=>dc J (bP (fun e=>zR e) e1) (.cons (.co (.refl _)) (.cons (.uX _ _ _ (.cons (.wo _ _ _ .p0 (.cons (.co (.refl _)) .nil)) .nil)) .nil)) J J<|rA J J<|rN<|ATodo.ret<|?_
 cases h
 exact hP J J
theorem sC [GI:bc] {bd:Bk} {bB:Bk} {bY:Bk} {cm:Bk} {cq:Bk} {dj:Bk} {aa:ak} {ah:ae} {aT:ae} {r:(List Int)×ak} (h:gZ aa ah aT=some r):ACall Tryz.prog 128 [.ptr bd 0,.str ah,.str aT] [(bd,.cells (sq aa bB bY cm cq dj)),(bB,eU aa.aW),(bY,nA aa.cT),(cm,sd aa.at_),(cq,pq aa.cG)] (T0 ([(bd,.cells [yg r.2.bb.al,By r.2.bb.bj,zK r.2.bb.aD,xZ r.2.bb.aI,.bZ bB,.bZ bY,.bZ cm,.bZ cq,.bZ dj]),(bB,eU r.2.aW),(bY,nA r.2.cT),(cm,sd r.2.at_),(cq,pq r.2.cG)]) (cz r.1)):=by
 unfold gZ at h
 refine ACall.dN ?_
 refine ACall.aQ Tryz.func128 J Tryz.ntmps128 Tryz.results128 J J ?_
 refine ax<|rA J J<|rN<|tS<|ax<|rM J J<|ARun.qv (aV J) J<|rF J J J<|rL J J .p0 J J<|rM J J<|rM J J<|ARun.qv (bl J J J J J) J<|aq h fun v1 e1 h=>ARun.qv (EC (gk:=aX.av) (gv:=(Ba 1 I)) (M:=aa.cG) (key:=(⟨ah,aT⟩:aX)) (Z:=[]) J J .p4 J J e1 J) J<|rM J J<|rX J J J<|rX J J J<|rA J J<|rA J J<|rN<|ax<|rM J J<|rN<|cB h J (fun h=>?_) (fun h=>?_)
 ·refine ax<|rM J J<|rA J J<|rN<|ATodo.ret<|?_
  cases h
  exact hH J [0,0,0,0,0] J ⟨J,J⟩
 ·refine tK<|ax<|rA J J<|rN<|tS<|ax<|rM J J<|rM J J<|aq h fun v2 e2 h=>eE J (mS e2) cR (.cons .p0 (.cons .p0 .nil)) (fun _=>J) J fun b3=>ARun.qv (iO J) J<|rM J J<|rN<|ATodo.block<|ATodo.bT (fun x:(List Int)×Int=>cO aa ah aT v2 x.1 x.2) (fun x aB=>∃ (b7:Bk),aB=⟨77,[(0,.ptr bd 0),(1,.str ah),(2,.str aT),(9,.sl 1 b7 0 x.1.length),(29,.sl 1 b3 0 v2.length),(30,I (v2.length:Int)),(31,I x.2)],[(bd,.cells (sq aa bB bY cm cq dj)),(bB,eU aa.aW),(bY,nA aa.cT),(cm,sd aa.at_),(cq,pq aa.cG),(b7,Lx x.1),(b3,pw v2)]⟩) h ?_ ?_
  ·exact ImpX.arr (s:=9) 1 J fun vH=>ImpX.lq [1,1,2,2,2,0,0] ⟨vH,J⟩ J J
  ·intro x z1 aB J1 dB h ic dm
   obtain ⟨l8,n9⟩:=x
   obtain ⟨b7,rfl⟩:=dB
   replace h:cO aa ah aT v2 l8 n9=some z1:=h
   unfold cO at h
   refine ax<|ARun.qv (bu J J) J<|rN<|tS<|cD h J (fun h=>?_) (fun h=>?_)
   ·refine tK<|tS<|ATodo.block<|ax<|aq h fun v11 e3 h=>ARun.qv (fg J J J e3) J<|ARun.qv (iP (g:=AV.str) J J (.inl .p6) e3 J) J<|rA J J<|rN<|ax<|rM J J<|ARun.qv (aV J) J<|rF J J J<|rL J J .p0 J J<|rM J J<|aq h fun v12 e4 h=>ARun.qv (GH (gk:=AV.str) (gv:=(Ba 1 I)) (M:=aa.at_) (key:=v11) (Z:=[]) J J .p3 J J e4 J) J<|ARun.qv (bD J) J<|rM J J<|rN<|ATodo.block<|ATodo.bT (fun x:(List Int)×Int=>cN aa ah n9 v12 x.1 x.2) (fun x aB=>∃ (HQ:Bk),aB=⟨77,[(0,.ptr bd 0),(1,.str ah),(2,.str aT),(9,.sl 1 HQ 0 x.1.length),(29,.sl 1 b3 0 v2.length),(30,I (v2.length:Int)),(31,I n9),(40,cz v12),(41,I (v12.length:Int)),(42,I x.2)],[(bd,.cells (sq aa bB bY cm cq dj)),(bB,eU aa.aW),(bY,nA aa.cT),(cm,sd aa.at_),(cq,pq aa.cG),(HQ,Lx x.1),(b3,pw v2)]⟩) h ?_ ?_
    ·exact ImpX.lq [0,0,0,0,0,0,0] ⟨b7,J⟩ J J
    ·intro x z2 aB J2 dB h zN uS
     obtain ⟨AG,n18⟩:=x
     obtain ⟨HQ,rfl⟩:=dB
     replace h:cN aa ah n9 v12 AG n18=some z2:=h
     unfold cN at h
     refine ax<|ARun.qv (bu J J) J<|rN<|tS<|cD h J (fun h=>?_) (fun h=>?_)
     ·refine tK<|tS<|ATodo.block<|ax<|aq h fun dI e5 h=>ARun.qv (aP J J J e5 J J) J<|ARun.qv (aG J J J) J<|rA J J<|rN<|tS<|ATodo.ck (id:=11) (A:=[0,1,3,7,0,16,48,112,240,0,1008,2032,4080,8191,0,32767]) 16 mixed J (by kernel_rfl) (by kernel_rfl)<|AM.qv (aL J) J<|AM.qv (aV J) J<|AM.qv (an J J) J<|AM.qv (az J J .p0 J) J<|AM.qv (aL J) J<|AM.qv (aV J) J<|AM.qv (an J J) J<|AM.qv (an J J) J<|AM.qv (az J J .p0 J) J<|AM.qv (aL J) J<|aq h fun v20 e6 h=>AM.qv (aP J J J e6 J J) J<|AM.qv (bJ J J) J<|AM.qv (aG J J J) J<|aq h fun v21 e7 h=>AM.qv (GH (gk:=AV.str) (gv:=(Ba 1 AV.str)) (M:=aa.cT) (key:=v20.bN) (Z:=[]) J J .p2 J J e7 J) J<|AM.qv (aL J) J<|aq h fun v22 e8 h=>AM.dv J (sT e8) cR J<|AM.nil<|rN<|ATodo.cut (fun aB=>∃ (Ug:Bk) (yd:List Int),gG n18 yd=some z2∧aB=⟨77,[(0,.ptr bd 0),(1,.str ah),(2,.str aT),(9,.sl 1 Ug 0 yd.length),(29,.sl 1 b3 0 v2.length),(30,I (v2.length:Int)),(31,I n9),(40,cz v12),(41,I (v12.length:Int)),(42,I n18)],[(bd,.cells (sq aa bB bY cm cq dj)),(bB,eU aa.aW),(bY,nA aa.cT),(cm,sd aa.at_),(cq,pq aa.cG),(Ug,Lx yd),(b3,pw v2)]⟩) ?_ ?_
      ·refine cB h J (fun h=>?_) (fun h=>?_)
       ·exact tR<|rM J J<|rM J J<|aC (xs:=([dI]:List Int).map I) J J J J J J<|aq h fun Ls e9 h=>cS (g:=I) J J J J J J J J (.list _) e9 (fun _=>.p5) J fun Lz=>rA J J<|rN<|ATodo.stop<|ImpX.lq [0,0,0,0,0,0,0] ⟨Lz,Ls,h,J⟩ J J
       ·exact tK<|ATodo.stop<|ImpX.lq [0,0,0,0,0,0,0] ⟨HQ,AG,h,J⟩ J J
      ·rintro aB ⟨Ug,yd,h,rfl⟩
       unfold gG at h
       refine ATodo.bU<|tR<|ARun.qv (bh J J) J<|rM J J<|rN<|ATodo.stop<|?_
       cases h
       exact zN _ _ J<|ImpX.lq [0,0,0,0,0,0,0] ⟨Ug,J⟩ J J
     ·refine ATodo.exit J<|have h:=bz h uS;ATodo.bU<|tR<|ARun.qv (bh J J) J<|rM J J<|rN<|ATodo.stop<|?_
      cases h
      exact ic _ _ J<|ImpX.lq [0,0,0,0,0,0,0] ⟨HQ,J⟩ J J
   ·refine ATodo.exit J<|have h:=bz h dm;ax<|rM J J<|ARun.qv (aV J) J<|rF J J J<|rL J J .p0 J J<|rM J J<|rM J J<|ARun.qv (bl J J J J J) J<|rM J J<|ARun.ghost<|ImpX.freeze .p5<|ImpX.here<|ARun.ghost<|ImpX.cox (s:=75) (pz:=cz l8) J (.co (Co.Ck .p5))<|ImpX.here<|tM (gk:=aX.av) (gv:=(Ba 1 I)) (M:=aa.cG) (key:=(⟨ah,aT⟩:aX)) (v:=l8) J J J J .p4<|rN<|ax<|rM J J<|rA J J<|rN<|ATodo.ret<|?_
    cases h
    exact ImpX.co (s:=6) J (Co.Ck .p5)<|ImpX.here ⟨_,.cons (.tmp _ _ J) .nil,_,.cons .p0 (.cons .p0 (.cons .p0 (.cons .p0 (.cons .p0 .nil)))),⟨J,J⟩⟩
theorem uI [GI:bc] {aa:ae} {r:bq} (h:sK aa=r):Pu Tryz.prog 282 [.str aa] (bq.av r):=by
 unfold sK at h
 refine ACall.aQ Tryz.func282 J Tryz.ntmps282 Tryz.results282 J J ?_
 refine ax<|bn J J J J fun b1=>rN<|ax<|rM J J<|ARun.qv (bl J J J J J) J<|ARun.qv (bl J J J J J) J<|au J J J J .p0 J J<|rN<|ATodo.ret<|?_
 obtain rfl:=h
 exact ImpX.here ⟨_,.cons (.all _ _ _ _ _ _ J .p0 ay.h aO.h J J) .nil,J⟩
theorem JM [GI:bc] {aa:aE} {ah:ae} {r:bq} (h:qJ aa ah=some r):Pu Tryz.prog 201 [aE.av aa,.str ah] (bq.av r):=by
 unfold qJ at h
 refine ACall.aQ Tryz.func201 J Tryz.ntmps201 Tryz.results201 J J ?_
 refine ax<|bO J J J J fun b1=>bn J J J J fun b2=>rN<|tS<|ax<|rM J J<|rN<|ATodo.block<|ax<|ARun.qv (fS J J) J<|rA J J<|rN<|cD h J (fun h=>?_) (fun h=>?_)
 ·refine ax<|rF J J J<|rF J J J<|rL J J .p1 J J<|aA J (uI J) cR J<|au J J J J .p0 J J<|rN<|ATodo.ret<|?_
  cases h
  exact ImpX.here ⟨_,.cons (.all _ _ _ _ _ _ J .p0 ay.h aO.h J J) .nil,J⟩
 ·refine ax<|ARun.qv (fS J J) J<|rA J J<|rN<|cD h J (fun h=>?_) (fun h=>?_)
  ·refine ax<|rF J J J<|rF J J J<|rL J J .p1 J J<|aA J (uI J) cR J<|au J J J J .p0 J J<|rN<|ATodo.ret<|?_
   cases h
   exact ImpX.here ⟨_,.cons (.all _ _ _ _ _ _ J .p0 ay.h aO.h J J) .nil,J⟩
  ·refine ax<|ARun.qv (fS J J) J<|rA J J<|rN<|cD h J (fun h=>?_) (fun h=>?_)
   ·refine ax<|rF J J J<|rF J J J<|rL J J .p1 J J<|aA J (uI J) cR J<|au J J J J .p0 J J<|rN<|ATodo.ret<|?_
    cases h
    exact ImpX.here ⟨_,.cons (.all _ _ _ _ _ _ J .p0 ay.h aO.h J J) .nil,J⟩
   ·refine ax<|ARun.qv (fS J J) J<|rA J J<|rN<|cD h J (fun h=>?_) (fun h=>?_)
    ·refine ax<|rF J J J<|rF J J J<|ARun.qv (aU J J .p1 J J) J<|ARun.qv (bl J J J J J) J<|au J J J J .p0 J J<|rN<|ATodo.ret<|?_
     cases h
     exact ImpX.here ⟨_,.cons (.all _ _ _ _ _ _ J .p0 ay.h aO.h J J) .nil,J⟩
    ·refine tK<|ATodo.bU<|tS<|ax<|rM J J<|aq h fun v3 e1 h=>aA J (jx e1) cR J<|rM J J<|rX J J J<|rX J J J<|rA J J<|rA J J<|rN<|ax<|rM J J<|rN<|cB h J (fun h=>?_) (fun h=>?_)
     ·refine tS<|ax<|rF J J J<|rF J J J<|rL J J .p1 J J<|ARun.qv (bD J) J<|rM J J<|rN<|ATodo.block<|ATodo.bT (fun x:Int=>jz aa v3 x) (fun x aB=>aB=⟨76,[(4,.ptr b2 0),(5,.str v3.1),(44,N0 aa.Device.kO),(45,I (aa.Device.kO.length:Int)),(46,I x)],[(b2,.cells [.bool false,I (0:Int),.bool false,I (0:Int),.str [],I (0:Int),I (0:Int),I (0:Int)])]⟩) h ?_ ?_
      ·exact ImpX.lq [0] J J J
      ·intro n5 z1 aB J1 dB h ic dm
       obtain rfl:=dB
       replace h:jz aa v3 n5=some z1:=h
       unfold jz at h
       refine ax<|ARun.qv (bu J J) J<|rN<|tS<|cD h J (fun h=>?_) (fun h=>?_)
       ·refine tK<|tS<|ATodo.block<|ax<|aq h fun v6 e2 h=>ARun.qv (aP J J J e2 J J) J<|ARun.qv (aH J J J) J<|bn J J J J fun b7=>au J J J J .p0 J J<|rN<|ax<|rF J J J<|rL J J .p0 J J<|rM J J<|ARun.qv (fS J J) J<|rN<|cD h J (fun h=>?_) (fun h=>?_)
        ·refine ax<|rF J J J<|rL J J .p0 J J<|aA J (uI J) cR J<|au J J J J .p1 J J<|rN<|ATodo.ret<|have h:=bz h dm;?_
         cases h
         exact ImpX.here ⟨_,.cons (.all _ _ _ _ _ _ J .p1 ay.h aO.h J J) .nil,J⟩
        ·refine tK<|ATodo.bU<|tR<|ARun.qv (bh J J) J<|rM J J<|rN<|ATodo.stop<|?_
         cases h
         exact ic _ _ J<|ImpX.lq [1] J J J
       ·refine ATodo.exit J<|have h:=bz h dm;ax<|ARun.qv (bl J J J J J) J<|au J J J J .p0 J J<|rN<|ATodo.ret<|?_
        cases h
        exact ImpX.here ⟨_,.cons (.all _ _ _ _ _ _ J .p0 ay.h aO.h J J) .nil,J⟩
     ·refine tK<|tS<|ax<|rF J J J<|rL J J .p1 J J<|ARun.qv (bD J) J<|rM J J<|rN<|ATodo.block<|ATodo.bT (fun x:Int=>jA aa ah x) (fun x aB=>aB=⟨76,[(1,.str ah),(4,.ptr b2 0),(60,N1 aa.ey),(61,I (aa.ey.length:Int)),(62,I x)],[(b2,.cells [.bool false,I (0:Int),.bool false,I (0:Int),.str [],I (0:Int),I (0:Int),I (0:Int)])]⟩) h ?_ ?_
      ·exact ImpX.lq [0] J J J
      ·intro n9 z2 aB J2 dB h zN uS
       obtain rfl:=dB
       replace h:jA aa ah n9=some z2:=h
       unfold jA at h
       refine ax<|ARun.qv (bu J J) J<|rN<|tS<|cD h J (fun h=>?_) (fun h=>?_)
       ·refine tK<|tS<|ATodo.block<|ax<|aq h fun v10 e3 h=>ARun.qv (aP J J J e3 J J) J<|ARun.qv (aH J J J) J<|bn J J J J fun ud=>au J J J J .p0 J J<|rN<|ax<|rF J J J<|rL J J .p0 J J<|aq h fun Vs e4 h=>ARun.qv (Lk e4 J J) J<|rM J J<|ARun.qv (fS J J) J<|rN<|cD h J (fun h=>?_) (fun h=>?_)
        ·refine ax<|rF J J J<|ARun.qv (aU J J .p0 J J) J<|ARun.qv (bl J J J J J) J<|au J J J J .p1 J J<|rN<|ATodo.ret<|have h:=bz h uS;?_
         cases h
         exact ImpX.here ⟨_,.cons (.all _ _ _ _ _ _ J .p1 ay.h aO.h J J) .nil,J⟩
        ·refine tK<|ATodo.bU<|tR<|ARun.qv (bh J J) J<|rM J J<|rN<|ATodo.stop<|?_
         cases h
         exact zN _ _ J<|ImpX.lq [1] J J J
       ·refine ATodo.exit J<|have h:=bz h uS;ax<|ARun.qv (bl J J J J J) J<|au J J J J .p0 J J<|rN<|ATodo.ret<|?_
        cases h
        exact ImpX.here ⟨_,.cons (.all _ _ _ _ _ _ J .p0 ay.h aO.h J J) .nil,J⟩
theorem BI [GI:bc] {aa:ae} {ah:aE} {r:bq} (h:nt aa ah=some r):Pu Tryz.prog 200 [.str aa,.ik [.str ah.Device.Key,.str ah.Device.Model,.str ah.Device.ar,I ah.Device.dO.bH,I ah.Device.dO.bI,I ah.Device.dO.bF,N0 ah.Device.kO,N1 ah.ey]] (bq.av r):=by
 unfold nt at h
 refine ACall.aQ Tryz.func200 J Tryz.ntmps200 Tryz.results200 J J ?_
 refine ax<|bn J J J J fun b1=>rN<|ax<|ARun.qv (aH J J J) J<|rM J J<|aq h fun v2 e1 h=>aA J (JM e1) cR J<|au J J J J .p0 J J<|rN<|ATodo.ret<|?_
 cases h
 exact ImpX.here ⟨_,.cons (.all _ _ _ _ _ _ J .p0 ay.h aO.h J J) .nil,J⟩
theorem x2 [GI:bc] {aa:Int} {r:Bool} (h:cmp_isNaN_int aa=r):Pu Tryz.prog 134 [I aa] (.bool r):=by
 unfold cmp_isNaN_int at h
 refine ACall.aQ Tryz.func134 J Tryz.ntmps134 Tryz.results134 J J ?_
 refine ax<|rA J J<|rN<|ax<|rM J J<|rM J J<|ARun.qv (du J J) J<|rA J J<|rN<|ATodo.ret<|?_
 obtain rfl:=h
 exact hP J J
theorem dL [GI:bc] {aa:Int} {ah:Int} {r:Int} (h:cmp_Compare_int aa ah=r):Pu Tryz.prog 57 [I aa,I ah] (I r):=by
 unfold cmp_Compare_int at h
 refine ACall.aQ Tryz.func57 J Tryz.ntmps57 Tryz.results57 J J ?_
 refine ax<|rA J J<|rN<|ax<|rM J J<|aA J (x2 J) cR J<|rA J J<|rN<|ax<|rM J J<|aA J (x2 J) cR J<|rA J J<|rN<|tS<|ax<|rM J J<|rN<|cB h J (fun h=>?_) (fun h=>?_)
 ·refine tS<|ax<|rM J J<|rN<|cB h J (fun h=>?_) (fun h=>?_)
  ·refine ax<|rA J J<|rN<|ATodo.ret<|?_
   obtain rfl:=h
   exact hP J J
  ·refine tK<|ax<|rA J J<|rN<|ATodo.ret<|?_
   obtain rfl:=h
   exact hP J J
 ·refine tK<|tS<|ax<|rM J J<|rN<|cB h J (fun h=>?_) (fun h=>?_)
  ·refine ax<|rA J J<|rN<|ATodo.ret<|?_
   obtain rfl:=h
   exact hP J J
  ·refine tK<|tS<|ax<|rM J J<|rM J J<|ARun.qv (bu J J) J<|rN<|cD h J (fun h=>?_) (fun h=>?_)
   ·refine ax<|rA J J<|rN<|ATodo.ret<|?_
    obtain rfl:=h
    exact hP J J
   ·refine tK<|tS<|ax<|rM J J<|rM J J<|ARun.qv (dJ J J) J<|rN<|cD h J (fun h=>?_) (fun h=>?_)
    ·refine ax<|rA J J<|rN<|ATodo.ret<|?_
     obtain rfl:=h
     exact hP J J
    ·refine tK<|ax<|rA J J<|rN<|ATodo.ret<|?_
     obtain rfl:=h
     exact hP J J
theorem xL [GI:bc] {aa:Version} {ah:Version} {r:Int} (h:iV aa ah=some r):Pu Tryz.prog 326 [Version.av aa,Version.av ah] (I r):=by
 unfold iV at h
 refine ACall.aQ Tryz.func326 J Tryz.ntmps326 Tryz.results326 J J ?_
 refine ax<|bO J J J J fun b1=>bO J J J J fun b2=>rA J J<|rN<|tS<|ATodo.ck (id:=1) (A:=[0,1,0,4,15,0,32,0,128,511,0,1024,0,4096,16383,32767,65535,131071]) 18 mixed J (by kernel_rfl) (by kernel_rfl)<|AM.qv (an J J) J<|AM.qv (az J J .p1 J) J<|AM.qv (an J J) J<|AM.qv (az J J .p0 J) J<|AM.dv J (dL J) cR J<|AM.qv (an J J) J<|AM.qv (az J J .p1 J) J<|AM.qv (an J J) J<|AM.qv (az J J .p0 J) J<|AM.dv J (dL J) cR J<|AM.qv (an J J) J<|AM.qv (az J J .p1 J) J<|AM.qv (an J J) J<|AM.qv (az J J .p0 J) J<|AM.dv J (dL J) cR J<|AM.aY (xs:=([(cmp_Compare_int aa.bH ah.bH),(cmp_Compare_int aa.bI ah.bI),(cmp_Compare_int aa.bF ah.bF)]:List Int).map I) J J J J J J<|aq h fun v3 e1 h=>AM.dv J (mT e1) cR J<|AM.qv (bM J) J<|AM.nil<|rN<|ATodo.ret<|?_
 cases h
 exact hP J J
theorem Du [GI:bc] {aa:Query} {ah:bq} {r:Bool} (h:pO aa ah=some r):Pu Tryz.prog 281 [.agg [I aa.Kind,.str aa.Field,.str aa.Op,I aa.Value.Kind,.bool aa.Value.bV,I aa.Value.Number,.str aa.Value.Words,I aa.Version.bH,I aa.Version.bI,I aa.Version.bF,oX aa.Kids],bq.av ah] (.bool r):=by
 unfold pO at h
 refine ACall.aQ Tryz.func281 J Tryz.ntmps281 Tryz.results281 J J ?_
 refine ax<|bO J J J J fun b1=>bO J J J J fun b2=>rA J J<|rN<|tS<|tS<|ATodo.cut (fun aB=>∃ (c3:Bool),iv aa ah c3=some r∧aB=⟨69,[(2,.ptr b1 0),(3,.ptr b2 0),(17,.bool c3)],[(b1,.cells (xi aa)),(b2,.cells [.bool ah.Is,I ah.Value.Kind,.bool ah.Value.bV,I ah.Value.Number,.str ah.Value.Words,I ah.Version.bH,I ah.Version.bI,I ah.Version.bF])]⟩) ?_ ?_
 ·refine tR<|rF J J J<|rL J J .p0 J J<|ARun.qv (bt J) J<|rM J J<|ARun.guard J J J (fun hc=>?_) (fun hc=>?_)
  ·rw [FJ hc] at h
   exact rF J J J<|rY J J J<|rF J J J<|rY J J J<|rL J J .p0 J J<|rY J J J<|rF J J J<|rY J J J<|rF J J J<|rY J J J<|rL J J .p1 J J<|rY J J J<|ARun.qv (du J J) J<|rE J J J<|rN<|ATodo.stop<|ImpX.lq [1,0] ⟨decide (ah.Value.Kind≠aa.Value.Kind),h,J⟩ J J
  ·rw [FI hc] at h
   exact rG J J J J<|rG J J J J<|rG J J J J<|rG J J J J<|rG J J J J<|rG J J J J<|rT J J J<|rN<|ATodo.stop<|ImpX.lq [1,0] ⟨true,h,J⟩ J J
 ·rintro aB ⟨c3,h,rfl⟩
  unfold iv at h
  refine cB h J (fun h=>?_) (fun h=>?_)
  ·refine ax<|rA J J<|rN<|ATodo.ret<|?_
   cases h
   exact hP J J
  ·refine tK<|ax<|rA J J<|rN<|tS<|ATodo.block<|ax<|rF J J J<|rL J J .p0 J J<|ARun.qv (fS J J) J<|rA J J<|rN<|ATodo.cut (fun aB=>∃ (n4:Int),jP aa n4=some r∧aB=⟨69,[(2,.ptr b1 0),(5,I n4)],[(b1,.cells (xi aa))]⟩) ?_ ?_
   ·refine cD h J (fun h=>?_) (fun h=>?_)
    ·exact tR<|rF J J J<|ARun.qv (aU J J .p1 J J) J<|rF J J J<|ARun.qv (aU J J .p0 J J) J<|aq h fun v5 e1 h=>aA J (xL e1) cR J<|rA J J<|rN<|ATodo.stop<|ImpX.lq [0] ⟨v5,h,J⟩ J J
    ·refine ax<|rF J J J<|rF J J J<|rL J J .p1 J J<|ARun.qv (bS J J) J<|rA J J<|rN<|ATodo.cut (fun aB=>∃ (n6:Int),jQ aa n6=some r∧aB=⟨69,[(2,.ptr b1 0),(5,I n6)],[(b1,.cells (xi aa))]⟩) ?_ ?_
     ·refine cD h J (fun h=>?_) (fun h=>?_)
      ·exact tR<|rF J J J<|rF J J J<|rL J J .p1 J J<|rF J J J<|rF J J J<|rL J J .p0 J J<|aA J (dL J) cR J<|rA J J<|rN<|ATodo.stop<|ImpX.lq [0] ⟨(cmp_Compare_int ah.Value.Number aa.Value.Number),h,J⟩ J J
      ·refine ax<|rF J J J<|ARun.qv (aU J J .p1 J J) J<|rF J J J<|ARun.qv (aU J J .p0 J J) J<|ARun.qv (Aa (g:=a8.av) (X:=ah.Value) (Y:=aa.Value) J J J J J) J<|rA J J<|rN<|ATodo.cut (fun aB=>∃ (n7:Int),mi aa n7=some r∧aB=⟨69,[(2,.ptr b1 0),(5,I n7)],[(b1,.cells (xi aa))]⟩) ?_ ?_
       ·refine cD h J (fun h=>?_) (fun h=>?_)
        ·exact tR<|rA J J<|rN<|ATodo.stop<|ImpX.lq [0] ⟨(1:Int),h,J⟩ J J
        ·exact tK<|ATodo.stop<|ImpX.lq [0] ⟨(0:Int),h,J⟩ J J
       ·rintro aB ⟨n7,h,rfl⟩
        unfold mi at h
        exact ATodo.stop<|ImpX.lq [0] ⟨n7,h,J⟩ J J
     ·rintro aB ⟨n6,h,rfl⟩
      unfold jQ at h
      exact ATodo.stop<|ImpX.lq [0] ⟨n6,h,J⟩ J J
   ·rintro aB ⟨n4,h,rfl⟩
    unfold jP at h
    refine ATodo.bU<|tS<|ax<|rF J J J<|rL J J .p0 J J<|rN<|ATodo.block<|ax<|ARun.qv (fS J J) J<|rA J J<|rN<|cD h J (fun h=>?_) (fun h=>?_)
    ·refine ax<|rM J J<|ARun.qv (bS J J) J<|rA J J<|rN<|ATodo.ret<|?_
     cases h
     exact hP J J
    ·refine ax<|ARun.qv (fS J J) J<|rA J J<|rN<|cD h J (fun h=>?_) (fun h=>?_)
     ·refine ax<|rM J J<|ARun.qv (du J J) J<|rA J J<|rN<|ATodo.ret<|?_
      cases h
      exact hP J J
     ·refine ax<|ARun.qv (fS J J) J<|rA J J<|rN<|cD h J (fun h=>?_) (fun h=>?_)
      ·refine ax<|rM J J<|ARun.qv (bu J J) J<|rA J J<|rN<|ATodo.ret<|?_
       cases h
       exact hP J J
      ·refine ax<|ARun.qv (fS J J) J<|rA J J<|rN<|cD h J (fun h=>?_) (fun h=>?_)
       ·refine ax<|rM J J<|ARun.qv (sA J J) J<|rA J J<|rN<|ATodo.ret<|?_
        cases h
        exact hP J J
       ·refine ax<|ARun.qv (fS J J) J<|rA J J<|rN<|cD h J (fun h=>?_) (fun h=>?_)
        ·refine ax<|rM J J<|ARun.qv (dJ J J) J<|rA J J<|rN<|ATodo.ret<|?_
         cases h
         exact hP J J
        ·refine tK<|ATodo.bU<|ax<|rM J J<|ARun.qv (uu J J) J<|rA J J<|rN<|ATodo.ret<|?_
         cases h
         exact hP J J
theorem BJ [GI:bc] {self:Query→(ae→Option bq)→Option Bool} (kP:∀ {aa:Query} {er:ae→Option bq} {cL:FuncId} [aZ Tryz.prog cL] {dR:List AV} (jw:∀ {y0:_} {u:bq},er y0=some u→Pu Tryz.prog cL (.str y0 :: dR) (bq.av u)) {r:Bool},self aa er=some r→Pu Tryz.prog 199 [.agg [I aa.Kind,.str aa.Field,.str aa.Op,I aa.Value.Kind,.bool aa.Value.bV,I aa.Value.Number,.str aa.Value.Words,I aa.Version.bH,I aa.Version.bI,I aa.Version.bF,oX aa.Kids],.func (.func cL) dR] (.bool r)) {aa:Query} {er:ae→Option bq} {cL:FuncId} [aZ Tryz.prog cL] {dR:List AV} (jw:∀ {y0:_} {u:bq},er y0=some u→Pu Tryz.prog cL (.str y0 :: dR) (bq.av u)) {r:Bool} (h:ef self aa er=some r):Pu Tryz.prog 199 [.agg [I aa.Kind,.str aa.Field,.str aa.Op,I aa.Value.Kind,.bool aa.Value.bV,I aa.Value.Number,.str aa.Value.Words,I aa.Version.bH,I aa.Version.bI,I aa.Version.bF,oX aa.Kids],.func (.func cL) dR] (.bool r):=by
 unfold ef at h
 refine ACall.aQ Tryz.func199 J Tryz.ntmps199 Tryz.results199 J J ?_
 refine ax<|bO J J J J fun b1=>rA J J<|rN<|tS<|ax<|rF J J J<|rL J J .p0 J J<|rN<|ATodo.block<|ax<|ARun.qv (bS J J) J<|rA J J<|rN<|cD h J (fun h=>?_) (fun h=>?_)
 ·refine tS<|ATodo.ck (id:=3) (A:=[0,0,0,4,14,31,63]) 7 mixed J (by kernel_rfl) (by kernel_rfl)<|AM.qv (ao J J .p0 J) J<|AM.qv (aL J) J<|AM.qv (an J J) J<|AM.qv (az J J .p0 J) J<|aq h fun v2 e1 h=>AM.Vb J J (jw e1) cR J<|aq h fun v3 e2 h=>AM.dv J (Du e2) cR J<|AM.qv (bM J) J<|AM.nil<|rN<|ATodo.ret<|?_
  cases h
  exact hP J J
 ·refine ax<|ARun.qv (bS J J) J<|rA J J<|rN<|cD h J (fun h=>?_) (fun h=>?_)
  ·refine ax<|rM J J<|rF J J J<|rL J J .p0 J J<|aq h fun v4 e3 h=>tG J J (jw e3) cR J<|ARun.qv (GK (ft:=4) (off:=0) ⟨_,_,Tryz.underlying244,J,J,J⟩ J J J) J<|rA J J<|rN<|ATodo.ret<|?_
   cases h
   exact hP J J
  ·refine ax<|ARun.qv (bS J J) J<|rA J J<|rN<|cD h J (fun h=>?_) (fun h=>?_)
   ·refine ax<|rF J J J<|rL J J .p0 J J<|aq h fun v5 e4 h=>ARun.qv (aP J J J e4 J (by rw [Query.tN];rfl)) J<|ARun.qv (aH J J J) J<|rM J J<|aq h fun v6 e5 h=>dc J (kP jw e5) (.cons (.co (.refl _)) (.cons (.co (.refl _)) .nil)) J J<|ARun.qv (bt J) J<|rA J J<|rN<|ATodo.ret<|?_
    cases h
    exact hP J J
   ·refine tK<|ATodo.bU<|ax<|rF J J J<|rL J J .p0 J J<|ARun.qv (bS J J) J<|rA J J<|rN<|tS<|ax<|rF J J J<|rL J J .p0 J J<|ARun.qv (bD J) J<|rM J J<|rN<|ATodo.block<|ATodo.bT (fun x:Int=>fZ self aa er x) (fun x aB=>aB=⟨53,[(1,.func (.func cL) dR),(5,.bool (decide (aa.Kind=(4:Int)))),(38,oX aa.Kids),(39,I (aa.Kids.length:Int)),(40,I x)],[]⟩) h ?_ ?_
    ·exact ImpX.lq [] J J J
    ·intro n8 z1 aB J1 dB h ic dm
     obtain rfl:=dB
     replace h:fZ self aa er n8=some z1:=h
     unfold fZ at h
     refine ax<|ARun.qv (bu J J) J<|rN<|tS<|cD h J (fun h=>?_) (fun h=>?_)
     ·refine tK<|tS<|ATodo.block<|ax<|aq h fun v9 e6 h=>ARun.qv (aP J J J e6 J (by rw [Query.tN];rfl)) J<|ARun.qv (aH J J J) J<|bn J J J J fun vH=>au J J J J .p0 J J<|rN<|ax<|ARun.qv (ao J J .p0 J) J<|rM J J<|aq h fun v11 e7 h=>dc J (kP jw e7) (.cons (.co (.refl _)) (.cons (.co (.refl _)) .nil)) J J<|rM J J<|ARun.qv (Md J J) J<|rN<|cB h J (fun h=>?_) (fun h=>?_)
      ·refine ax<|rM J J<|ARun.qv (A9 J) J<|rA J J<|rN<|ATodo.ret<|have h:=bz h dm;?_
       cases h
       exact hP J J
      ·refine tK<|ATodo.bU<|tR<|ARun.qv (bh J J) J<|rM J J<|rN<|ATodo.stop<|?_
       cases h
       exact ic _ _ J<|ImpX.lq [] J J J
     ·refine ATodo.exit J<|have h:=bz h dm;ax<|rM J J<|rA J J<|rN<|ATodo.ret<|?_
      cases h
      exact hP J J
theorem Cu [GI:bc]:∀ (k:Nat) {aa:Query} {er:ae→Option bq} {cL:FuncId} [aZ Tryz.prog cL] {dR:List AV} (jw:∀ {y0:_} {u:bq},er y0=some u→Pu Tryz.prog cL (.str y0 :: dR) (bq.av u)) {r:Bool},dG k aa er=some r→Pu Tryz.prog 199 [.agg [I aa.Kind,.str aa.Field,.str aa.Op,I aa.Value.Kind,.bool aa.Value.bV,I aa.Value.Number,.str aa.Value.Words,I aa.Version.bH,I aa.Version.bI,I aa.Version.bF,oX aa.Kids],.func (.func cL) dR] (.bool r):=by
 intro k
 induction k with
 | zero=>intro aa er cL _ dR jw r h;cases h
 | succ k ih=>intro aa er cL _ dR jw r h;exact BJ ih jw h
theorem ET [GI:bc] {aa:Query} {er:ae→Option bq} {cL:FuncId} [aZ Tryz.prog cL] {dR:List AV} (jw:∀ {y0:_} {u:bq},er y0=some u→Pu Tryz.prog cL (.str y0 :: dR) (bq.av u)) {r:Bool} (h:Bt aa er=some r):Pu Tryz.prog 199 [.agg [I aa.Kind,.str aa.Field,.str aa.Op,I aa.Value.Kind,.bool aa.Value.bV,I aa.Value.Number,.str aa.Value.Words,I aa.Version.bH,I aa.Version.bI,I aa.Version.bF,oX aa.Kids],.func (.func cL) dR] (.bool r):=Cu depth jw h
theorem EU [GI:bc] {aa:Query} {ah:aE} {r:Bool} (h:dV aa ah=some r):Pu Tryz.prog 131 [.agg [I aa.Kind,.str aa.Field,.str aa.Op,I aa.Value.Kind,.bool aa.Value.bV,I aa.Value.Number,.str aa.Value.Words,I aa.Version.bH,I aa.Version.bI,I aa.Version.bF,oX aa.Kids],aE.av ah] (.bool r):=by
 unfold dV at h
 refine ACall.aQ Tryz.func131 J Tryz.ntmps131 Tryz.results131 J J ?_
 refine ax<|bO J J J J fun b1=>bO J J J J fun b2=>rA J J<|rN<|ax<|ARun.qv (ao J J .p1 J) J<|ARun.qv (fI J) J<|aq h fun v3 e1 h=>dc J (ET (fun e=>BI e) e1) (.cons (.co (.refl _)) (.cons (.uX _ _ _ (.cons (.wo _ _ _ .p0 (.cons (.co (.refl _)) (.cons (.co (.refl _)) (.cons (.co (.refl _)) (.cons (.co (.refl _)) (.cons (.co (.refl _)) (.cons (.co (.refl _)) (.cons (.co (.refl _)) (.cons (.co (.refl _)) .nil))))))))) .nil)) .nil)) J J<|rA J J<|rN<|ATodo.ret<|?_
 cases h
 exact hP J J
theorem sD [GI:bc] {bd:Bk} {bB:Bk} {bY:Bk} {cm:Bk} {cq:Bk} {dj:Bk} {aa:ak} {ah:ae} {aT:aE} {bG:Int} {r:(List Reason)×ak} (h:hC aa ah aT bG=some r):ACall Tryz.prog 52 [.ptr bd 0,.str ah,aE.av aT,I bG] [(bd,.cells (sq aa bB bY cm cq dj)),(bB,eU aa.aW),(bY,nA aa.cT),(cm,sd aa.at_),(cq,pq aa.cG)] (T1 (fun iC=>[(bd,.cells [yg r.2.bb.al,By r.2.bb.bj,zK r.2.bb.aD,xZ r.2.bb.aI,.bZ bB,.bZ bY,.bZ cm,.bZ cq,.bZ dj]),(bB,eU r.2.aW),(bY,nA r.2.cT),(cm,sd r.2.at_),(cq,pq r.2.cG),(iC,wX r.1)]) (fun iC=>.sl 2 iC 0 r.1.length)):=by
 unfold hC at h
 refine ACall.dN ?_
 refine ACall.aQ Tryz.func52 J Tryz.ntmps52 Tryz.results52 J J ?_
 refine ax<|bO J J J J fun b1=>rA J J<|rN<|ax<|rF J J J<|rF J J J<|rL J J .p0 J J<|rA J J<|rN<|tS<|ax<|rM J J<|ARun.qv (fS J J) J<|rN<|cD h J (fun h=>?_) (fun h=>?_)
 ·refine ax<|rA J J<|rN<|ATodo.ret<|?_
  cases h
  exact ImpX.arr (s:=8) 2 J fun b2=>ImpX.here ⟨_,.cons (.tmp _ _ J) .nil,_,.cons .p2 (.cons .p2 (.cons .p2 (.cons .p2 (.cons .p2 (.cons .p0 .nil))))),⟨b2,J,J⟩⟩
 ·refine tK<|ax<|rA J J<|rN<|tS<|ax<|rM J J<|rM J J<|rM J J<|aq h fun v3 e1 h=>aJ J (sC e1) cR (.cons .p1 (.cons .p1 (.cons .p1 (.cons .p1 (.cons .p1 .nil))))) J J<|ARun.qv (bD J) J<|rM J J<|rN<|ATodo.block<|ATodo.bT (fun x:(List Reason)×Int=>cQ aa ah aT bG v3 x.1 x.2) (fun x aB=>∃ (b7:Bk),aB=⟨104,[(0,.ptr bd 0),(1,.str ah),(3,I bG),(6,.ptr b1 0),(9,.str aT.Device.ar),(10,.sl 2 b7 0 x.1.length),(26,cz v3.1),(27,I (v3.1.length:Int)),(28,I x.2)],[(bd,.cells [yg v3.2.bb.al,By v3.2.bb.bj,zK v3.2.bb.aD,xZ v3.2.bb.aI,.bZ bB,.bZ bY,.bZ cm,.bZ cq,.bZ dj]),(bB,eU v3.2.aW),(bY,nA v3.2.cT),(cm,sd v3.2.at_),(cq,pq v3.2.cG),(b1,.cells (zL aT)),(b7,wX x.1)]⟩) h ?_ ?_
  ·exact ImpX.arr (s:=10) 2 J fun vH=>ImpX.lq [1,1,1,1,1,1,0] ⟨vH,J⟩ J J
  ·intro x z1 aB J1 dB h ic dm
   obtain ⟨l8,n9⟩:=x
   obtain ⟨b7,rfl⟩:=dB
   replace h:cQ aa ah aT bG v3 l8 n9=some z1:=h
   unfold cQ at h
   refine ax<|ARun.qv (bu J J) J<|rN<|tS<|cD h J (fun h=>?_) (fun h=>?_)
   ·refine tK<|tS<|ATodo.block<|ax<|aq h fun v11 e2 h=>ARun.qv (aP J J J e2 J J) J<|ARun.qv (aG J J J) J<|rA J J<|rN<|tR<|rM J J<|rM J J<|ARun.qv (bl J J J J J) J<|aC (xs:=([(⟨v11,[]⟩:Reason)]).map Reason.av) J J J J J J<|aq h fun ye e3 h=>cS (g:=Reason.av) J J J J J J J J (.list _) e3 (fun _=>.p6) J fun yK=>rA J J<|rN<|ATodo.bU<|tR<|ARun.qv (bh J J) J<|rM J J<|rN<|ATodo.stop<|?_
    cases h
    exact ic _ _ J<|ImpX.lq [0,0,0,0,0,0,0] ⟨yK,J⟩ J J
   ·refine ATodo.exit J<|have h:=bz h dm;?_
    unfold gI at h
    refine ax<|rM J J<|rM J J<|aq h fun lW e4 h=>eE J (mS e4) cR (.cons .p0 (.cons .p0 .nil)) (fun _=>J) J fun yL=>rA J J<|rN<|tS<|ax<|rM J J<|ARun.qv (aV J) J<|rF J J J<|rF J J J<|rL J J .p0 J J<|ARun.qv (bD J) J<|rM J J<|rN<|ATodo.block<|ATodo.bT (fun x:(List ar)×(List bN)×(List aK)×(List bA)×(List (ae×ae))×(List (ae×(List ae)))×(List (ae×(List Int)))×(List (aX×(List Int)))×(List Reason)×Int=>gH aa ah aT bG v3 lW x.1 x.2.1 x.2.2.1 x.2.2.2.1 x.2.2.2.2.1 x.2.2.2.2.2.1 x.2.2.2.2.2.2.1 x.2.2.2.2.2.2.2.1 x.2.2.2.2.2.2.2.2.1 x.2.2.2.2.2.2.2.2.2) (fun x aB=>∃ (N3:Bk),aB=⟨104,[(0,.ptr bd 0),(1,.str ah),(3,I bG),(6,.ptr b1 0),(10,.sl 2 N3 0 x.2.2.2.2.2.2.2.2.1.length),(13,.sl 1 yL 0 lW.length),(45,xZ v3.2.bb.aI),(46,I (v3.2.bb.aI.length:Int)),(47,I x.2.2.2.2.2.2.2.2.2)],[(bd,.cells [yg x.1,By x.2.1,zK x.2.2.1,xZ x.2.2.2.1,.bZ bB,.bZ bY,.bZ cm,.bZ cq,.bZ dj]),(bB,eU x.2.2.2.2.1),(bY,nA x.2.2.2.2.2.1),(cm,sd x.2.2.2.2.2.2.1),(cq,pq x.2.2.2.2.2.2.2.1),(b1,.cells (zL aT)),(N3,wX x.2.2.2.2.2.2.2.2.1),(yL,pw lW)]⟩) h ?_ ?_
    ·exact ImpX.lq [0,0,1,1,1,1,1,0] ⟨b7,J⟩ J J
    ·intro x z2 aB J2 dB h zN uS
     obtain ⟨AF,EE,B7,KP,Bs,Ac,EJ,EI,Dn,n37⟩:=x
     obtain ⟨N3,rfl⟩:=dB
     replace h:gH aa ah aT bG v3 lW AF EE B7 KP Bs Ac EJ EI Dn n37=some z2:=h
     unfold gH at h
     refine ax<|ARun.qv (bu J J) J<|rN<|tS<|cD h J (fun h=>?_) (fun h=>?_)
     ·refine tK<|tS<|ATodo.cut (fun aB=>∃ (Xa:Bk) (Fx:List ar) (Yg:List bN) (B9:List aK) (P5:List bA) (HJ:List (ae×ae)) (Dm:List (ae×(List ae))) (Lp:List (ae×(List Int))) (Lt:List (aX×(List Int))) (HK:List Reason),dW n37 Fx Yg B9 P5 HJ Dm Lp Lt HK=some z2∧aB=⟨104,[(0,.ptr bd 0),(1,.str ah),(3,I bG),(6,.ptr b1 0),(10,.sl 2 Xa 0 HK.length),(13,.sl 1 yL 0 lW.length),(45,xZ v3.2.bb.aI),(46,I (v3.2.bb.aI.length:Int)),(47,I n37)],[(bd,.cells [yg Fx,By Yg,zK B9,xZ P5,.bZ bB,.bZ bY,.bZ cm,.bZ cq,.bZ dj]),(bB,eU HJ),(bY,nA Dm),(cm,sd Lp),(cq,pq Lt),(b1,.cells (zL aT)),(Xa,wX HK),(yL,pw lW)]⟩) ?_ ?_
      ·refine ATodo.block<|ax<|aq h fun Ca e5 h=>ARun.qv (aP J J J e5 J J) J<|ARun.qv (aH J J J) J<|bn J J J J fun SP=>au J J J J .p0 J J<|rN<|tS<|tS<|ATodo.cut (fun aB=>∃ (Yh:Bool),cE aa ah AF EE B7 KP Bs Ac EJ EI Dn n37 Ca Yh=some z2∧aB=⟨104,[(0,.ptr bd 0),(1,.str ah),(3,I bG),(6,.ptr b1 0),(10,.sl 2 N3 0 Dn.length),(13,.sl 1 yL 0 lW.length),(15,.ptr SP 0),(45,xZ v3.2.bb.aI),(46,I (v3.2.bb.aI.length:Int)),(47,I n37),(83,.bool Yh)],[(bd,.cells [yg AF,By EE,zK B7,xZ KP,.bZ bB,.bZ bY,.bZ cm,.bZ cq,.bZ dj]),(bB,eU Bs),(bY,nA Ac),(cm,sd EJ),(cq,pq EI),(b1,.cells (zL aT)),(N3,wX Dn),(yL,pw lW),(SP,.cells (Rv Ca))]⟩) ?_ ?_
       ·refine tR<|rM J J<|rF J J J<|rF J J J<|rL J J .p0 J J<|ARun.qv (bu J J) J<|rM J J<|gF h J J J (fun h=>?_) (fun h=>?_)
        ·refine rM J J<|rY J J J<|rF J J J<|rY J J J<|rF J J J<|rY J J J<|rL J J .p0 J J<|rY J J J<|ARun.qv (uu J J) J<|rE J J J<|rM J J<|gF h J J J (fun h=>?_) (fun h=>?_)
         ·refine rM J J<|rY J J J<|rF J J J<|rY J J J<|rL J J .p0 J J<|rY J J J<|aq h fun v51 e6 h=>dc J (ba e6) (.cons (vI.uf (.next .p7)) (.cons (.co (.refl _)) .nil)) J J<|rY J J J<|ARun.qv (bt J) J<|rE J J J<|rM J J<|ARun.guard J J J (fun hc=>?_) (fun hc=>?_)
          ·refine have h:=gw hc h;rF J J J<|rY J J J<|rL J J .p0 J J<|rY J J J<|rM J J<|rY J J J<|aq h fun Vt e7 h=>aA J (sT e7) cR J<|rY J J J<|ARun.qv (bt J) J<|rE J J J<|rM J J<|ARun.guard J J J (fun hc=>?_) (fun hc=>?_)
           ·exact have h:=gw hc h;rF J J J<|rY J J J<|ARun.qv (aU J J .p0 J J) J<|rY J J J<|ARun.qv (ao J J .p6 J) J<|rY J J J<|aq h fun v53 e8 h=>aA J (EU e8) cR J<|rY J J J<|ARun.qv (bt J) J<|rE J J J<|rN<|ATodo.stop<|ImpX.lq [1,1,1,1,1,1,1,1,0] ⟨!v53,h,J⟩ J J
           ·exact have h:=gr hc h;rG J J J J<|rG J J J J<|rG J J J J<|rG J J J J<|rT J J J<|rN<|ATodo.stop<|ImpX.lq [1,1,1,1,1,1,1,1,0] ⟨true,h,J⟩ J J
          ·exact have h:=gr hc h;rG J J J J<|rG J J J J<|rG J J J J<|rG J J J J<|rT J J J<|rM J J<|rG J J J J<|rG J J J J<|rG J J J J<|rG J J J J<|rG J J J J<|rT J J J<|rN<|ATodo.stop<|ImpX.lq [1,1,1,1,1,1,1,1,0] ⟨true,h,J⟩ J J
         ·exact rG J J J J<|rG J J J J<|rG J J J J<|rG J J J J<|rT J J J<|rM J J<|rG J J J J<|rG J J J J<|rG J J J J<|rG J J J J<|rG J J J J<|rT J J J<|rM J J<|rG J J J J<|rG J J J J<|rG J J J J<|rG J J J J<|rG J J J J<|rT J J J<|rN<|ATodo.stop<|ImpX.lq [1,1,1,1,1,1,1,1,0] ⟨true,h,J⟩ J J
        ·exact rG J J J J<|rG J J J J<|rG J J J J<|rG J J J J<|rT J J J<|rM J J<|rG J J J J<|rG J J J J<|rG J J J J<|rG J J J J<|rG J J J J<|rT J J J<|rM J J<|rG J J J J<|rG J J J J<|rG J J J J<|rG J J J J<|rG J J J J<|rT J J J<|rM J J<|rG J J J J<|rG J J J J<|rG J J J J<|rG J J J J<|rG J J J J<|rT J J J<|rN<|ATodo.stop<|ImpX.lq [1,1,1,1,1,1,1,1,0] ⟨true,h,J⟩ J J
       ·rintro aB ⟨Yh,h,rfl⟩
        unfold cE at h
        refine cB h J (fun h=>?_) (fun h=>?_)
        ·exact ATodo.exit J<|ATodo.stop<|ImpX.lq [0,0,0,0,0,0,0,0] ⟨N3,AF,EE,B7,KP,Bs,Ac,EJ,EI,Dn,h,J⟩ J J
        ·refine tK<|ax<|rM J J<|rM J J<|rF J J J<|rL J J (.next .p7) J J<|aq h fun v54 e9 h=>aJ J (sC e9) cR (.cons .p0 (.cons .p0 (.cons .p0 (.cons .p0 (.cons .p0 .nil))))) J J<|ARun.qv (bD J) J<|rM J J<|rN<|ATodo.block<|ATodo.bT (fun x:(List Reason)×Int=>cP n37 Ca v54 x.1 x.2) (fun x aB=>∃ (SQ:Bk),aB=⟨104,[(0,.ptr bd 0),(1,.str ah),(3,I bG),(6,.ptr b1 0),(10,.sl 2 SQ 0 x.1.length),(13,.sl 1 yL 0 lW.length),(15,.ptr SP 0),(45,xZ v3.2.bb.aI),(46,I (v3.2.bb.aI.length:Int)),(47,I n37),(88,cz v54.1),(89,I (v54.1.length:Int)),(90,I x.2)],[(bd,.cells [yg v54.2.bb.al,By v54.2.bb.bj,zK v54.2.bb.aD,xZ v54.2.bb.aI,.bZ bB,.bZ bY,.bZ cm,.bZ cq,.bZ dj]),(bB,eU v54.2.aW),(bY,nA v54.2.cT),(cm,sd v54.2.at_),(cq,pq v54.2.cG),(b1,.cells (zL aT)),(SQ,wX x.1),(yL,pw lW),(SP,.cells (Rv Ca))]⟩) h ?_ ?_
         ·exact ImpX.lq [0,0,0,0,0,0,0,0,0] ⟨N3,J⟩ J J
         ·intro x z3 aB J3 dB h Qb N2
          obtain ⟨DS,n60⟩:=x
          obtain ⟨SQ,rfl⟩:=dB
          replace h:cP n37 Ca v54 DS n60=some z3:=h
          unfold cP at h
          refine ax<|ARun.qv (bu J J) J<|rN<|tS<|cD h J (fun h=>?_) (fun h=>?_)
          ·refine tK<|tS<|ATodo.block<|ax<|aq h fun Ad zM h=>ARun.qv (aP J J J zM J J) J<|ARun.qv (aG J J J) J<|rA J J<|rN<|tR<|rM J J<|rM J J<|rF J J J<|rL J J (.next .p7) J J<|ARun.qv (bl J J J J J) J<|aC (xs:=([(⟨Ad,Ca.Key⟩:Reason)]).map Reason.av) J J J J J J<|aq h fun EG AZ h=>cS (g:=Reason.av) J J J J J J J J (.list _) AZ (fun _=>.p6) J fun b63=>rA J J<|rN<|ATodo.bU<|tR<|ARun.qv (bh J J) J<|rM J J<|rN<|ATodo.stop<|?_
           cases h
           exact Qb _ _ J<|ImpX.lq [0,0,0,0,0,0,0,0,0] ⟨b63,J⟩ J J
          ·exact ATodo.exit J<|have h:=bz h N2;ATodo.bU<|ATodo.stop<|ImpX.lq [0,0,0,0,0,0,0,0] ⟨SQ,v54.2.bb.al,v54.2.bb.bj,v54.2.bb.aD,v54.2.bb.aI,v54.2.aW,v54.2.cT,v54.2.at_,v54.2.cG,DS,h,J⟩ J J
      ·rintro aB ⟨Xa,Fx,Yg,B9,P5,HJ,Dm,Lp,Lt,HK,h,rfl⟩
       unfold dW at h
       refine tR<|ARun.qv (bh J J) J<|rM J J<|rN<|ATodo.stop<|?_
       cases h
       exact zN _ _ J<|ImpX.lq [0,0,0,0,0,0,0,0] ⟨Xa,J⟩ J J
     ·refine ATodo.exit J<|have h:=bz h uS;ax<|rM J J<|rA J J<|rN<|ATodo.ret<|?_
      cases h
      exact hH J [0,0,0,0,0,1] J ⟨N3,J,J⟩
theorem uJ:T8 Tryz.prog 125 (fun l=>Value.string ⟨l.toArray⟩) Et:=⟨fun bU off cap zs w hH hb hs=>Tryz.slices_Sort_string bU off cap zs w hH hb hs,fun p cap w=>Tryz.slices_Sort_string_none p cap w⟩
theorem ov [GI:bc] {bd:Bk} {aa:List ae} {r:(List ae)} (h:fG aa=some r):ACall Tryz.prog 125 [.sl 1 bd 0 aa.length] [(bd,.arr 1 (aa.map AV.str))] (T0 [(bd,.arr 1 (r.map AV.str))] (.pj [])):=
 Jd uJ (g:=AV.str) (fun h=>h.dz) (fun w S x=>.str _) (fun _=>J) (fun xs=>List.length_mergeSort _) (fun _=>J) h
theorem mA [GI:bc] {bd:Bk} {aa:List ae} {r:(List ae)} (h:eh aa=some r):ACall Tryz.prog 126 [.sl 1 bd 0 aa.length] [(bd,pw aa)] (T1 (fun iC=>[(iC,pw r)]) (fun iC=>.sl 1 iC 0 r.length)):=by
 unfold eh at h
 refine ACall.dN ?_
 refine ACall.aQ Tryz.func126 J Tryz.ntmps126 Tryz.results126 J J ?_
 refine ax<|rA J J<|rN<|tS<|ax<|rM J J<|ARun.qv (iO J) J<|ARun.qv (bu J J) J<|rN<|cD h J (fun h=>?_) (fun h=>?_)
 ·refine ax<|rM J J<|rA J J<|rN<|ATodo.ret<|?_
  cases h
  exact hH J [0] J ⟨bd,J,J⟩
 ·refine tK<|tS<|ax<|rA J J<|rN<|ATodo.block<|ATodo.bT (fun x:Int=>fc aa x) (fun x aB=>aB=⟨61,[(0,.sl 1 bd 0 aa.length),(3,I x)],[(bd,pw aa)]⟩) h ?_ ?_
  ·exact ImpX.lq [0] J J J
  ·intro n2 z1 aB J1 dB h ic dm
   obtain rfl:=dB
   replace h:fc aa n2=some z1:=h
   unfold fc at h
   refine tS<|ax<|rM J J<|rM J J<|ARun.qv (iO J) J<|ARun.qv (bu J J) J<|rN<|cD h J (fun h=>?_) (fun h=>?_)
   ·refine tK<|tS<|ATodo.block<|tS<|ATodo.ck (id:=6) (A:=[0,0,3,7,0,0,32,112,240,511]) 10 mixed J (by kernel_rfl) (by kernel_rfl)<|AM.qv (aL J) J<|AM.qv (aL J) J<|aq h fun v3 e1 h=>AM.qv (fg J J J e1) J<|AM.qv (iP (g:=AV.str) J J (.inl .p0) e1 J) J<|AM.qv (aL J) J<|AM.qv (aL J) J<|AM.qv (gq J J) J<|aq h fun v4 e2 h=>AM.qv (fg J J J e2) J<|AM.qv (iP (g:=AV.str) J J (.inl .p0) e2 J) J<|AM.qv (fS J J) J<|AM.nil<|rN<|cD h J (fun h=>?_) (fun h=>?_)
    ·refine ax<|rM J J<|rM J J<|aq h fun l5 e3 h=>ARun.qv (lH J J (.some _ _ _ J) .none J J e3) J<|rA J J<|rN<|tS<|ax<|rA J J<|rN<|ATodo.block<|ATodo.bT (fun x:(List ae)×Int×Int=>fa n2 l5 x.1 x.2.1 x.2.2) (fun x aB=>aB=⟨61,[(0,.sl 1 bd 0 x.1.length),(3,I x.2.1),(4,.sl 1 bd n2.toNat l5.length),(5,I x.2.2)],[(bd,pw x.1)]⟩) h ?_ ?_
     ·exact ImpX.lq [0] J J J
     ·intro x z2 aB J2 dB h zN uS
      obtain ⟨l9,n10,n11⟩:=x
      obtain rfl:=dB
      replace h:fa n2 l5 l9 n10 n11=some z2:=h
      unfold fa at h
      refine tS<|ax<|rM J J<|rM J J<|ARun.qv (Nz J) J<|ARun.qv (bu J J) J<|rN<|cD h J (fun h=>?_) (fun h=>?_)
      ·refine tK<|tS<|ATodo.block<|tS<|ATodo.ck (id:=11) (A:=[0,0,3,7,0,0,32,112,240,511]) 10 mixed J (by kernel_rfl) (by kernel_rfl)<|AM.qv (aL J) J<|AM.qv (aL J) J<|aq h fun v12 e4 h=>AM.qv (yz (L:=n2) J J J e4) J<|AM.qv (iP (g:=AV.str) J J (.inl .p0) (zk e4).2 J) J<|AM.qv (aL J) J<|AM.qv (aL J) J<|AM.qv (gq J J) J<|aq h fun mb e5 h=>AM.qv (yz (L:=n2) J J J e5) J<|AM.qv (iP (g:=AV.str) J J (.inl .p0) (zk e5).2 J) J<|AM.qv (qD J J) J<|AM.nil<|rN<|ATodo.cut (fun aB=>∃ (xh:List ae) (n15:Int),eZ n11 xh n15=some z2∧aB=⟨61,[(0,.sl 1 bd 0 xh.length),(3,I n15),(4,.sl 1 bd n2.toNat l5.length),(5,I n11)],[(bd,pw xh)]⟩) ?_ ?_
       ·refine cD h J (fun h=>?_) (fun h=>?_)
        ·exact ax<|rM J J<|rM J J<|rM J J<|rM J J<|aq h fun dU e6 h=>ARun.qv (yz (L:=n2) J J J e6) J<|ARun.qv (iP (g:=AV.str) J J (.inl .p0) (zk e6).2 J) J<|aq h fun v17 e7 h=>ARun.qv (fg J J J e7) J<|pD (g:=AV.str) (Mm:=dU) J J J J e7 J .p0 J<|ARun.ghost<|ImpX.eqs (s:=0) (pz:=.sl 1 bd 0 (l9.set n10.toNat dU).length) J (by rw [List.length_set])<|ImpX.here<|ARun.ghost<|ImpX.eqs (s:=45) (pz:=.sl 1 bd 0 (l9.set n10.toNat dU).length) J (by rw [List.length_set])<|ImpX.here<|rN<|tR<|rM J J<|ARun.qv (bh J J) J<|rA J J<|rN<|ATodo.stop<|ImpX.lq [0] ⟨l9.set n10.toNat dU,cr (n10+(1:Int)),h,J⟩ J J
        ·exact tK<|ATodo.stop<|ImpX.lq [0] ⟨l9,n10,h,J⟩ J J
       ·rintro aB ⟨xh,n15,h,rfl⟩
        unfold eZ at h
        refine ATodo.bU<|tR<|rM J J<|ARun.qv (bh J J) J<|rA J J<|rN<|ATodo.stop<|?_
        cases h
        exact zN _ _ J<|ImpX.lq [0] J J J
      ·refine ATodo.exit J<|have h:=bz h uS;?_
       unfold lS at h
       refine ax<|rM J J<|rM J J<|aq h fun AY e8 h=>ARun.qv (lH J J (.some _ _ _ J) .none J J e8) J<|HC (g:=AV.str) (Z:=[]) (L:=n10) J J J J J J e8 .p0<|ARun.ghost<|ImpX.eqs (s:=0) (pz:=.sl 1 bd 0 (FK l9 n10 AY.length []).length) J (congrArg (AV.sl 1 bd 0) (vR e8))<|ImpX.here<|ARun.ghost<|ImpX.eqs (s:=54) (pz:=.sl 1 bd 0 (FK l9 n10 AY.length []).length) J (congrArg (AV.sl 1 bd 0) (vR e8))<|ImpX.here<|rN<|ax<|rM J J<|rM J J<|aq h fun Cb e9 h=>ARun.qv (lH J J .none (.some _ _ _ J) J J e9) J<|rA J J<|ARun.ghost<|ImpX.Jb e9 .p0<|ImpX.here<|rN<|ATodo.ret<|have h:=bz h dm;?_
       cases h
       exact hH J [0] J ⟨bd,J,J⟩
    ·refine tK<|ATodo.bU<|tR<|rM J J<|ARun.qv (bh J J) J<|rA J J<|rN<|ATodo.stop<|?_
     cases h
     exact ic _ _ J<|ImpX.lq [0] J J J
   ·refine ATodo.exit J<|have h:=bz h dm;ax<|rM J J<|rA J J<|rN<|ATodo.ret<|?_
    cases h
    exact hH J [0] J ⟨bd,J,J⟩
theorem ps [GI:bc] {bd:Bk} {bB:Bk} {bY:Bk} {cm:Bk} {cq:Bk} {dj:Bk} {aa:ak} {ah:ae} {aT:aE} {bG:Int} {r:(List ae)×ak} (h:gJ aa ah aT bG=some r):ACall Tryz.prog 50 [.ptr bd 0,.str ah,aE.av aT,I bG] [(bd,.cells (sq aa bB bY cm cq dj)),(bB,eU aa.aW),(bY,nA aa.cT),(cm,sd aa.at_),(cq,pq aa.cG)] (T1 (fun iC=>[(bd,.cells [yg r.2.bb.al,By r.2.bb.bj,zK r.2.bb.aD,xZ r.2.bb.aI,.bZ bB,.bZ bY,.bZ cm,.bZ cq,.bZ dj]),(bB,eU r.2.aW),(bY,nA r.2.cT),(cm,sd r.2.at_),(cq,pq r.2.cG),(iC,pw r.1)]) (fun iC=>.sl 1 iC 0 r.1.length)):=by
 unfold gJ at h
 refine ACall.dN ?_
 refine ACall.aQ Tryz.func50 J Tryz.ntmps50 Tryz.results50 J J ?_
 refine ax<|bO J J J J fun b1=>rA J J<|rN<|ax<|rA J J<|rN<|tS<|ax<|rM J J<|rM J J<|ARun.qv (ao J J .p0 J) J<|rM J J<|aq h fun v2 e1 h=>eE J (sD e1) cR (.cons .p1 (.cons .p1 (.cons .p1 (.cons .p1 (.cons .p1 .nil))))) (fun _=>J) J fun b3=>ARun.qv (iO J) J<|rM J J<|rN<|ATodo.block<|ATodo.bT (fun x:(List ae)×Int=>dq aa v2 x.1 x.2) (fun x aB=>∃ (b7:Bk),aB=⟨40,[(0,.ptr bd 0),(9,.sl 1 b7 0 x.1.length),(16,.sl 2 b3 0 v2.1.length),(17,I (v2.1.length:Int)),(18,I x.2)],[(bd,.cells [yg v2.2.bb.al,By v2.2.bb.bj,zK v2.2.bb.aD,xZ v2.2.bb.aI,.bZ bB,.bZ bY,.bZ cm,.bZ cq,.bZ dj]),(bB,eU v2.2.aW),(bY,nA v2.2.cT),(cm,sd v2.2.at_),(cq,pq v2.2.cG),(b7,pw x.1),(b3,wX v2.1)]⟩) h ?_ ?_
 ·exact ImpX.arr (s:=9) 1 J fun vH=>ImpX.lq [1,1,1,1,1,0,0] ⟨vH,J⟩ J J
 ·intro x z1 aB J1 dB h ic dm
  obtain ⟨l8,n9⟩:=x
  obtain ⟨b7,rfl⟩:=dB
  replace h:dq aa v2 l8 n9=some z1:=h
  unfold dq at h
  refine ax<|ARun.qv (bu J J) J<|rN<|tS<|cD h J (fun h=>?_) (fun h=>?_)
  ·refine tK<|tS<|ATodo.block<|ax<|aq h fun v11 e2 h=>ARun.qv (fg J J J e2) J<|ARun.qv (pX (g:=Reason.av) J J (.inl .p6) J e2 J) J<|bn J J J J fun KQ=>au J J J J .p0 J J<|rN<|ATodo.ck (id:=5) (A:=[0,0,2,6,14,30,0,64,254,510,1022,2046,4095,8191]) 12 mixed J (by kernel_rfl) (by kernel_rfl)<|AM.qv (aL J) J<|AM.qv (aL J) J<|AM.qv (aV J) J<|AM.qv (an J J) J<|AM.qv (an J J) J<|AM.qv (az J J .p1 J) J<|AM.qv (an J J) J<|AM.qv (az J J .p0 J) J<|aq h fun mb e3 h=>AM.qv (aP J J J e3 J J) J<|AM.qv (bJ J J) J<|AM.qv (aG J J J) J<|AM.aY (xs:=([mb.lV]:List ae).map AV.str) J J J J J J<|AM.nil<|aq h fun xh e4 h=>cS (g:=AV.str) J J J J J J J J (.list _) e4 (fun _=>.p6) J fun yL=>rA J J<|rN<|ATodo.bU<|tR<|ARun.qv (bh J J) J<|rM J J<|rN<|ATodo.stop<|?_
   cases h
   exact ic _ _ J<|ImpX.lq [1,1,1,1,1,1,1] ⟨yL,J⟩ J J
  ·refine ATodo.exit J<|have h:=bz h dm;?_
   unfold lh at h
   refine ax<|rM J J<|aq h fun dU e5 h=>aJ J (ov (DO e5)) cR (.cons .p5 .nil) J J<|ARun.ghost<|ImpX.eqs (s:=9) (pz:=.sl 1 b7 0 dU.length) J (congrArg (AV.sl 1 b7 0) (s0 e5))<|ImpX.here<|ARun.ghost<|ImpX.eqs (s:=36) (pz:=.sl 1 b7 0 dU.length) J (congrArg (AV.sl 1 b7 0) (s0 e5))<|ImpX.here<|rN<|ax<|rM J J<|aq h fun v17 e6 h=>eE J (mA e6) cR (.cons .p0 .nil) (fun _=>J) J fun GP=>rA J J<|rN<|ATodo.ret<|?_
   cases h
   exact hH J [1,1,1,1,1,0] J ⟨GP,J,J⟩
theorem HV {aa:bb} {ah:ae} {aT:ae} {bG:aE} {eB:Int} {r:Bool×Int} (h:qt aa ah aT bG eB=some r):Pu Tryz.prog 11 [bb.av aa,.str ah,.str aT,aE.av bG,I eB] (.pj [.bool r.1,I r.2]):=by
 unfold qt at h
 refine ACall.aQ Tryz.func11 J Tryz.ntmps11 Tryz.results11 J J ?_
 refine ax<|bO J J J J fun b1=>bO J J J J fun b2=>bO J J J J fun b3=>rA J J<|rA J J<|rN<|ax<|ARun.qv (ao J J .p2 J) J<|rM J J<|ARun.qv (ao J J .p0 J) J<|rM J J<|aq h fun v4 e1 h=>Ld h (fun e2 h=>?_) (fun x5 e2 h=>?_)
 ·refine have Qe:=xp e2 (sg e1);aJ J Qe cR (.cons .p1 .nil) J J<|rM J J<|rX J J J<|rX J J J<|rA J J<|rA J J<|rN<|tS<|ax<|rM J J<|ARun.qv (du J J) J<|rN<|cD h J (fun h=>?_) (fun h=>?_)
  ·refine ax<|rM J J<|rA J J<|rA J J<|rN<|ATodo.ret<|?_
   cases h
   exact hQ J J J
  ·refine tK<|tS<|?_
   cases h
 ·refine have Qf:=xq e2 (sg e1);xu J Qf cR (.cons .p1 .nil) (fun _ _ _ _ _ _=>J) J fun b6 b7 b8 b9 vH ud=>rM J J<|rX J J J<|rX J J J<|rA J J<|rA J J<|rN<|tS<|ax<|rM J J<|ARun.qv (du J J) J<|rN<|cD h J (fun h=>?_) (fun h=>?_)
  ·refine ax<|rM J J<|rA J J<|rA J J<|rN<|ATodo.ret<|?_
   cases h
   exact hQ J J J
  ·refine tK<|tS<|aq h fun v12 e3 h=>ATodo.kZ (id:=4) (A:=[0,0,0,0,15,0,63,127,255]) (H0:=[(b6,.cells (sq x5 b7 b8 b9 vH ud)),(b7,eU x5.aW),(b8,nA x5.cT),(b9,sd x5.at_),(vH,pq x5.cG),(ud,yh x5.im)]) (HH:=fun β=>[(b6,.cells [yg v12.2.bb.al,By v12.2.bb.bj,zK v12.2.bb.aD,xZ v12.2.bb.aI,.bZ b7,.bZ b8,.bZ b9,.bZ vH,.bZ ud]),(b7,eU v12.2.aW),(b8,nA v12.2.cT),(b9,sd v12.2.at_),(vH,pq v12.2.cG),((β 4),pw v12.1),(ud,yh x5.im),(b2,.cells [.str ah]),(b3,.cells (zL bG)),(b1,.cells (xj aa))]) 6 mixed J (by kernel_rfl) (by kernel_rfl) [⟨none,some 4,[],fun _=>(b6,.cells (sq x5 b7 b8 b9 vH ud)),none,[]⟩,⟨none,some 4,[],fun _=>(b7,eU x5.aW),none,[]⟩,⟨none,some 4,[],fun _=>(b8,nA x5.cT),none,[]⟩,⟨none,some 4,[],fun _=>(b9,sd x5.at_),none,[]⟩,⟨none,some 4,[],fun _=>(vH,pq x5.cG),none,[]⟩,⟨none,some 4,[],fun _=>(ud,yh x5.im),none,[]⟩,⟨some 4,none,[],fun b=>(b6,.cells [yg v12.2.bb.al,By v12.2.bb.bj,zK v12.2.bb.aD,xZ v12.2.bb.aI,.bZ b7,.bZ b8,.bZ b9,.bZ vH,.bZ ud]),none,[]⟩,⟨some 4,none,[],fun b=>(b7,eU v12.2.aW),none,[]⟩,⟨some 4,none,[],fun b=>(b8,nA v12.2.cT),none,[]⟩,⟨some 4,none,[],fun b=>(b9,sd v12.2.at_),none,[]⟩,⟨some 4,none,[],fun b=>(vH,pq v12.2.cG),none,[]⟩,⟨some 4,none,[],fun b=>(b,pw v12.1),none,[]⟩,⟨some 4,none,[],fun b=>(ud,yh x5.im),none,[]⟩] [4] J (by kernel_rfl) J (.cons .p1 (.cons .p1 (.cons .p1 (.cons .p1 (.cons .p1 (.cons .p1 .nil)))))) (fun _=>J)<|AT.am 4 J J<|AM.qv (aL J) J<|AM.qv (aL J) J<|AM.qv (ao J J .p1 J) J<|AM.qv (aL J) J<|AM.nil<|AT.UU (V:=fun b=>.sl 1 b 0 v12.1.length) (Ti:=[(b6,.cells (sq x5 b7 b8 b9 vH ud)),(b7,eU x5.aW),(b8,nA x5.cT),(b9,sd x5.at_),(vH,pq x5.cG),(ud,yh x5.im)]) (Pi:=fun b=>[(b6,.cells [yg v12.2.bb.al,By v12.2.bb.bj,zK v12.2.bb.aD,xZ v12.2.bb.aI,.bZ b7,.bZ b8,.bZ b9,.bZ vH,.bZ ud]),(b7,eU v12.2.aW),(b8,nA v12.2.cT),(b9,sd v12.2.at_),(vH,pq v12.2.cG),(b,pw v12.1),(ud,yh x5.im)]) (fun _=>J) (fun _=>J) (fun _ _=>J) J (fun _=>J) J J J ?_ ?_
   ·exact eE J (ps e3) cR (.cons .p0 (.cons .p0 (.cons .p0 (.cons .p0 (.cons .p0 .nil))))) (fun _=>J) J fun yK=>ARun.nil ⟨yK,_,J,J⟩
   refine AT.am 1 J J<|AM.qv (az J J .p0 J) J<|AM.nil<|AT.yx (fun _=>J) fun β=>?_
   generalize β 4=yK
   clear β
   refine aq h fun lW e4 h=>dc J (ba e4) (.cons (vI.uf .p5) (.cons (.co (.refl _)) .nil)) J J<|rA J J<|rA J J<|rN<|ATodo.ret<|?_
   cases h
   exact hQ J J J
theorem Dv [GI:bc] {CX:Bk} {JN:Bk} {JO:Bk} {JP:Bk} {JQ:Bk} {aa:Reason} {ah:ak} {aT:ae} {r:Bool} (h:nH aa ah aT=some r):Pu Tryz.prog 53 [Reason.av aa,.ik [.ik [yg ah.bb.al,By ah.bb.bj,zK ah.bb.aD,xZ ah.bb.aI,.bZ CX,.bZ JN,.bZ JO,.bZ JP,.bZ JQ]],.ik [.str aT]] (.bool r):=by
 unfold nH at h
 refine ACall.aQ Tryz.func53 J Tryz.ntmps53 Tryz.results53 J J ?_
 refine ax<|bO J J J J fun b1=>rA J J<|rN<|tS<|ATodo.ck (id:=1) (A:=[0,1,3,7,15,0,32,127,255,511,0,2047,4095]) 13 mixed J (by kernel_rfl) (by kernel_rfl)<|AM.qv (aG J J J) J<|AM.qv (De J) J<|AM.qv (bJ J J) J<|AM.qv (bJ J J) J<|AM.qv (aG J J J) J<|AM.qv (an J J) J<|AM.qv (az J J .p0 J) J<|aq h fun v2 e1 h=>AM.qv (aP J J J e1 J J) J<|AM.qv (bJ J J) J<|AM.qv (aG J J J) J<|AM.qv (aG J J J) J<|AM.qv (qD J J) J<|AM.qv (bM J) J<|AM.nil<|rN<|ATodo.ret<|?_
 cases h
 exact hP J J
theorem sh [GI:bc] {aa:List Reason} {er:Reason→Option Bool} {cL:FuncId} [aZ Tryz.prog cL] {dR:List AV} (jw:∀ {y0:_} {u:Bool},er y0=some u→Pu Tryz.prog cL (Reason.av y0 :: dR) (.bool u)) {r:Int} (h:iw aa er=some r):Pu Tryz.prog 127 [Ly aa,.func (.func cL) dR] (I r):=by
 unfold iw at h
 refine ACall.aQ Tryz.func127 J Tryz.ntmps127 Tryz.results127 J J ?_
 refine ax<|rA J J<|rN<|tS<|ax<|rM J J<|ARun.qv (bD J) J<|rM J J<|rN<|ATodo.block<|ATodo.bT (fun x:Int=>ej aa er x) (fun x aB=>aB=⟨19,[(0,Ly aa),(1,.func (.func cL) dR),(7,I (aa.length:Int)),(8,I x)],[]⟩) h ?_ ?_
 ·exact ImpX.lq [] J J J
 ·intro n2 z1 aB J1 dB h ic dm
  obtain rfl:=dB
  replace h:ej aa er n2=some z1:=h
  unfold ej at h
  refine ax<|ARun.qv (bu J J) J<|rN<|tS<|cD h J (fun h=>?_) (fun h=>?_)
  ·refine tK<|tS<|ATodo.block<|ax<|rM J J<|rA J J<|rN<|ax<|rM J J<|rM J J<|rM J J<|aq h fun v3 e1 h=>ARun.qv (aP J J J e1 J J) J<|ARun.qv (aH J J J) J<|aq h fun v4 e2 h=>tG J J (jw e2) cR J<|rN<|cB h J (fun h=>?_) (fun h=>?_)
   ·refine ax<|rM J J<|rA J J<|rN<|ATodo.ret<|have h:=bz h dm;?_
    cases h
    exact hP J J
   ·refine tK<|ATodo.bU<|tR<|ARun.qv (bh J J) J<|rM J J<|rN<|ATodo.stop<|?_
    cases h
    exact ic _ _ J<|ImpX.lq [] J J J
  ·refine ATodo.exit J<|have h:=bz h dm;ax<|rA J J<|rN<|ATodo.ret<|?_
   cases h
   exact hP J J
end Go.Proofs.YtnchkajkgjkpmaaGreatDoor
