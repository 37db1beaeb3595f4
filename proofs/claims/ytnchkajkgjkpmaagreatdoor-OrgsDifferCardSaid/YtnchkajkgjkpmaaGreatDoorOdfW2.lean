/- The code computes the plain functions: proofs written by shal.py. -/
import Derived.Test.YtnchkajkgjkpmaaGreatDoorOdfW1
set_option maxHeartbeats 4000000
set_option maxRecDepth 100000
set_option linter.unusedVariables false
set_option linter.unusedSimpArgs false
namespace Go.Proofs.YtnchkajkgjkpmaaGreatDoor
open Go Go.Eng Go.Proofs Go.Beacon
attribute [local irreducible] ae ab AQ QV aI aj TK AM
theorem sT [GI:bD] {bn:Bk} {bN:Bk} {cz:Bk} {cM:Bk} {cN:Bk} {dQ:Bk} {aa:aq} {ak:ai} {aP:ai} {r:Bool} (h:gZ aa ak aP=some r):aI Tryz.prog 215 [.ptr bn 0,.str ak,.str aP] [(bn,.cells (tt aa bN cz cM cN dQ)),(bN,ed aa.aT)] (T0 ([(bn,.cells (tt aa bN cz cM cN dQ)),(bN,ed aa.aT)]) (.bool r)):=by
 unfold gZ at h
 refine aI.fD ?_
 refine aI.aZ Tryz.func215 J Tryz.ntmps215 Tryz.results215 J J ?_
 refine az<|rA J J<|rN<|tS<|ab.cut (fun aE=>∃ (c1:Bool),gG c1=some r∧aE=⟨17,[(6,.bool c1)],[(bn,.cells (tt aa bN cz cM cN dQ)),(bN,ed aa.aT)]⟩) ?_ ?_
 ·refine tR<|rM J J<|rM J J<|ae.qv (ud J J) J<|rM J J<|gT h J J J (fun h=>?_) (fun h=>?_)
  ·exact rM J J<|rY J J J<|rM J J<|rY J J J<|ax h fun v2 e1 h=>fV J (mW e1) cR (.cons .p0 (.cons .p0 .nil)) (fun _=>J) J fun b3=>rY J J J<|rM J J<|rY J J J<|ax h fun v4 e2 h=>eF J (bt e2) (.cons (w7.wN .p2) (.cons (.co (.refl _)) .nil)) J J<|rT J J J<|rA J J<|rN<|ab.stop<|aj.lq [0,0] ⟨v4,h,J⟩ J J
  ·exact rG J J J J<|rG J J J J<|rG J J J J<|rG J J J J<|rE J J J<|rA J J<|rN<|ab.stop<|aj.lq [0,0] ⟨false,h,J⟩ J J
 ·rintro aE ⟨c1,h,rfl⟩
  unfold gG at h
  refine ab.ret<|?_
  cases h
  exact hH J [0,0] J ⟨J,J⟩
theorem Cd [GI:bD] {self:Query→Option (Int×Int)} (kJ:∀ {aa:Query} {r:Int×Int},self aa=some r→Pu Tryz.prog 289 [.agg [I aa.Kind,.str aa.Field,.str aa.Op,I aa.Value.Kind,.bool aa.Value.ch,I aa.Value.Number,.str aa.Value.Words,I aa.Version.bP,I aa.Version.bQ,I aa.Version.bL,pb aa.Kids]] (.pT [I r.1,I r.2])) {aa:Query} {r:Int×Int} (h:nv self aa=some r):Pu Tryz.prog 289 [.agg [I aa.Kind,.str aa.Field,.str aa.Op,I aa.Value.Kind,.bool aa.Value.ch,I aa.Value.Number,.str aa.Value.Words,I aa.Version.bP,I aa.Version.bQ,I aa.Version.bL,pb aa.Kids]] (.pT [I r.1,I r.2]):=by
 unfold nv at h
 refine aI.aZ Tryz.func289 J Tryz.ntmps289 Tryz.results289 J J ?_
 refine az<|cJ J J J J fun b1=>rA J J<|rA J J<|rN<|tS<|tS<|ab.cut (fun aE=>∃ (c2:Bool),qF self aa c2=some r∧aE=⟨38,[(1,.ptr b1 0),(2,I (0:Int)),(3,I (0:Int)),(15,.bool c2)],[(b1,.cells (xL aa))]⟩) ?_ ?_
 ·refine tR<|rF J J J<|rL J J .p0 J J<|ae.qv (cx J J) J<|rM J J<|ae.dC J J J (fun hc=>?_) (fun hc=>?_)
  ·rw [yW hc] at h
   exact rF J J J<|rY J J J<|rL J J .p0 J J<|rY J J J<|ae.qv (cx J J) J<|rE J J J<|rN<|ab.stop<|aj.lq [0] ⟨decide (aa.Kind=(2:Int)),h,J⟩ J J
  ·rw [yV hc] at h
   exact rG J J J J<|rG J J J J<|rT J J J<|rN<|ab.stop<|aj.lq [0] ⟨true,h,J⟩ J J
 ·rintro aE ⟨c2,h,rfl⟩
  unfold qF at h
  refine ab.cut (fun aE=>∃ (n3:Int),nu self aa n3=some r∧aE=⟨38,[(1,.ptr b1 0),(2,I n3),(3,I (0:Int))],[(b1,.cells (xL aa))]⟩) ?_ ?_
  ·refine cB h J (fun h=>?_) (fun h=>?_)
   ·exact tR<|rA J J<|rN<|ab.stop<|aj.lq [0] ⟨(1:Int),h,J⟩ J J
   ·exact tK<|ab.stop<|aj.lq [0] ⟨(0:Int),h,J⟩ J J
  ·rintro aE ⟨n3,h,rfl⟩
   unfold nu at h
   refine tS<|az<|rF J J J<|rL J J .p0 J J<|ae.qv (bB J) J<|rM J J<|rN<|ab.block<|ab.bO (fun x:Int×Int×Int=>fW self aa x.1 x.2.1 x.2.2) (fun x aE=>aE=⟨38,[(2,I x.1),(3,I x.2.1),(17,pb aa.Kids),(18,I (aa.Kids.length:Int)),(19,I x.2.2)],[]⟩) h ?_ ?_
   ·exact aj.lq [] J J J
   ·intro x z1 aE J1 dh h im dN
    obtain ⟨n7,n8,n9⟩:=x
    obtain rfl:=dh
    replace h:fW self aa n7 n8 n9=some z1:=h
    unfold fW at h
    refine az<|ae.qv (br J J) J<|rN<|tS<|cD h J (fun h=>?_) (fun h=>?_)
    ·refine tK<|tS<|ab.block<|az<|ax h fun v10 e1 h=>ae.qv (aS J J J e1 J (by rw [Query.um];rfl)) J<|ae.qv (aM J J J) J<|bu J J J J fun Bg=>ay J J J J .p0 J J<|rN<|az<|ae.qv (aA J J .p0 J) J<|ax h fun v12 e2 h=>aH J (kJ e2) cR J<|rM J J<|rX J J J<|rX J J J<|rA J J<|rA J J<|rN<|tR<|rM J J<|rM J J<|ae.qv (bf J J) J<|rM J J<|rM J J<|ae.qv (VQ J J) J<|rA J J<|rA J J<|rN<|ab.bX<|tR<|ae.qv (bf J J) J<|rM J J<|rN<|ab.stop<|?_
     cases h
     exact im _ _ J<|aj.lq [] J J J
    ·refine ab.exit J<|have h:=bx h dN;az<|rM J J<|rM J J<|ae.qv (bf J J) J<|rA J J<|rA J J<|rN<|ab.ret<|?_
     cases h
     exact hQ J J J
theorem C8 [GI:bD]:∀ (k:Nat) {aa:Query} {r:Int×Int},fS k aa=some r→Pu Tryz.prog 289 [.agg [I aa.Kind,.str aa.Field,.str aa.Op,I aa.Value.Kind,.bool aa.Value.ch,I aa.Value.Number,.str aa.Value.Words,I aa.Version.bP,I aa.Version.bQ,I aa.Version.bL,pb aa.Kids]] (.pT [I r.1,I r.2]):=by
 intro k
 induction k with
 | zero=>intro aa r h;cases h
 | succ k ih=>intro aa r h;exact Cd ih h
theorem FT [GI:bD] {aa:Query} {r:Int×Int} (h:xT aa=some r):Pu Tryz.prog 289 [.agg [I aa.Kind,.str aa.Field,.str aa.Op,I aa.Value.Kind,.bool aa.Value.ch,I aa.Value.Number,.str aa.Value.Words,I aa.Version.bP,I aa.Version.bQ,I aa.Version.bL,pb aa.Kids]] (.pT [I r.1,I r.2]):=C8 depth h
theorem pc [GI:bD] {aa:Int} {ak:Int} {aP:Int} {r:Bool} (h:kB aa ak aP=r):Pu Tryz.prog 144 [I aa,I ak,I aP] (.bool r):=by
 unfold kB at h
 refine aI.aZ Tryz.func144 J Tryz.ntmps144 Tryz.results144 J J ?_
 refine az<|rA J J<|rN<|tS<|ab.cut (fun aE=>∃ (c1:Bool),uu c1=r∧aE=⟨15,[(6,.bool c1)],[]⟩) ?_ ?_
 ·refine tR<|rM J J<|rM J J<|ae.qv (br J J) J<|rM J J<|ae.dC J J J (fun hc=>?_) (fun hc=>?_)
  ·rw [yW hc] at h
   exact rM J J<|rY J J J<|rM J J<|rY J J J<|ae.qv (cS J J) J<|rE J J J<|rA J J<|rN<|ab.stop<|aj.lq [] ⟨decide (aP < aa),h,J⟩ J J
  ·rw [yV hc] at h
   exact rG J J J J<|rG J J J J<|rT J J J<|rA J J<|rN<|ab.stop<|aj.lq [] ⟨true,h,J⟩ J J
 ·rintro aE ⟨c1,h,rfl⟩
  unfold uu at h
  refine ab.ret<|?_
  obtain rfl:=h
  exact hP J J
theorem An [GI:bD] {aa:Query} {ak:Query} {r:Bool} (h:oo aa ak=r):Pu Tryz.prog 355 [.agg [I aa.Kind,.str aa.Field,.str aa.Op,I aa.Value.Kind,.bool aa.Value.ch,I aa.Value.Number,.str aa.Value.Words,I aa.Version.bP,I aa.Version.bQ,I aa.Version.bL,pb aa.Kids],.mG [I ak.Kind,.str ak.Field,.str ak.Op,I ak.Value.Kind,.bool ak.Value.ch,I ak.Value.Number,.str ak.Value.Words,I ak.Version.bP,I ak.Version.bQ,I ak.Version.bL,pb ak.Kids]] (.bool r):=by
 unfold oo at h
 refine aI.aZ Tryz.func355 J Tryz.ntmps355 Tryz.results355 J J ?_
 refine az<|cJ J J J J fun b1=>rA J J<|rN<|az<|rF J J J<|rL J J .p0 J J<|ae.qv (bY J J) J<|ae.qv (aJ J J J) J<|ae.qv (cx J J) J<|rA J J<|rN<|ab.ret<|?_
 obtain rfl:=h
 exact hP J J
theorem tu [GI:bD] {aa:List Query} {iB:Query→Option Bool} {dZ:FuncId} [bh Tryz.prog dZ] {gd:List AV} (mA:∀ {y0:_} {u:Bool},iB y0=some u→Pu Tryz.prog dZ (.agg [I y0.Kind,.str y0.Field,.str y0.Op,I y0.Value.Kind,.bool y0.Value.ch,I y0.Value.Number,.str y0.Value.Words,I y0.Version.bP,I y0.Version.bQ,I y0.Version.bL,pb y0.Kids] :: gd) (.bool u)) {r:Int} (h:jn aa iB=some r):Pu Tryz.prog 237 [pb aa,.func (.func dZ) gd] (I r):=by
 unfold jn at h
 refine aI.aZ Tryz.func237 J Tryz.ntmps237 Tryz.results237 J J ?_
 refine az<|rA J J<|rN<|tS<|az<|rM J J<|ae.qv (bB J) J<|rM J J<|rN<|ab.block<|ab.bO (fun x:Int=>eV aa iB x) (fun x aE=>aE=⟨19,[(0,pb aa),(1,.func (.func dZ) gd),(7,I (aa.length:Int)),(8,I x)],[]⟩) h ?_ ?_
 ·exact aj.lq [] J J J
 ·intro n2 z1 aE J1 dh h im dN
  obtain rfl:=dh
  replace h:eV aa iB n2=some z1:=h
  unfold eV at h
  refine az<|ae.qv (br J J) J<|rN<|tS<|cD h J (fun h=>?_) (fun h=>?_)
  ·refine tK<|tS<|ab.block<|az<|rM J J<|rA J J<|rN<|az<|rM J J<|rM J J<|rM J J<|ax h fun v3 e1 h=>ae.qv (aS J J J e1 J (by rw [Query.um];rfl)) J<|ae.qv (aM J J J) J<|ax h fun v4 e2 h=>yU J J (mA e2) cR J<|rN<|cB h J (fun h=>?_) (fun h=>?_)
   ·refine az<|rM J J<|rA J J<|rN<|ab.ret<|have h:=bx h dN;?_
    cases h
    exact hP J J
   ·refine tK<|ab.bX<|tR<|ae.qv (bf J J) J<|rM J J<|rN<|ab.stop<|?_
    cases h
    exact im _ _ J<|aj.lq [] J J J
  ·refine ab.exit J<|have h:=bx h dN;az<|rA J J<|rN<|ab.ret<|?_
   cases h
   exact hP J J
theorem gx [GI:bD] {aa:List Query} {iB:Query→Option Bool} {dZ:FuncId} [bh Tryz.prog dZ] {gd:List AV} (mA:∀ {y0:_} {u:Bool},iB y0=some u→Pu Tryz.prog dZ (.agg [I y0.Kind,.str y0.Field,.str y0.Op,I y0.Value.Kind,.bool y0.Value.ch,I y0.Value.Number,.str y0.Value.Words,I y0.Version.bP,I y0.Version.bQ,I y0.Version.bL,pb y0.Kids] :: gd) (.bool u)) {r:Bool} (h:bW aa iB=some r):Pu Tryz.prog 159 [pb aa,.func (.func dZ) gd] (.bool r):=by
 unfold bW at h
 refine aI.aZ Tryz.func159 J Tryz.ntmps159 Tryz.results159 J J ?_
 refine az<|rA J J<|rN<|az<|rM J J<|rM J J<|ax h fun v1 e1 h=>eF J (tu mA e1) (.cons (.co (.refl _)) (.cons (.co (.refl _)) .nil)) J J<|ae.qv (vn J J) J<|rA J J<|rN<|ab.ret<|?_
 cases h
 exact hP J J
theorem C9 [GI:bD] {aa:Query} {r:Int} (h:oV aa=some r):Pu Tryz.prog 329 [.agg [I aa.Kind,.str aa.Field,.str aa.Op,I aa.Value.Kind,.bool aa.Value.ch,I aa.Value.Number,.str aa.Value.Words,I aa.Version.bP,I aa.Version.bQ,I aa.Version.bL,pb aa.Kids]] (I r):=by
 unfold oV at h
 refine aI.aZ Tryz.func329 J Tryz.ntmps329 Tryz.results329 J J ?_
 refine az<|cJ J J J J fun b1=>rA J J<|rN<|tS<|az<|rF J J J<|rL J J .p0 J J<|aH J (pc J) cR J<|rN<|cB h J (fun h=>?_) (fun h=>?_)
 ·refine az<|rA J J<|rN<|ab.ret<|?_
  cases h
  exact hP J J
 ·refine tK<|az<|rF J J J<|rL J J .p0 J J<|ae.qv (bB J) J<|rA J J<|rN<|az<|rM J J<|ae.qv (ei J J) J<|rA J J<|rN<|az<|rF J J J<|rL J J .p0 J J<|ae.qv (bq J J J J J) J<|bu J J J J fun b2=>ay J J J J .p0 J J<|rN<|tS<|az<|rF J J J<|rL J J .p1 J J<|rN<|ab.block<|az<|ae.qv (cx J J) J<|rA J J<|rN<|ab.cut (fun aE=>∃ (c3:Bool) (q4:ai) (q5:ai) (n6:Int) (c7:Bool) (n8:Int) (q9:ai) (n10:Int) (n11:Int) (n12:Int),k8 aa c3 q4 q5 n6 c7 n8 q9 n10 n11 n12=some r∧aE=⟨79,[(1,.ptr b1 0),(4,.bool c3),(5,.ptr b2 0)],[(b1,.cells (xL aa)),(b2,.cells [I aa.Kind,.str q4,.str q5,I n6,.bool c7,I n8,.str q9,I n10,I n11,I n12,.nil])]⟩) ?_ ?_
  ·refine cD h J (fun h=>?_) (fun h=>?_)
   ·refine ab.kH (id:=9) (A:=[0,1,0,4,0,16,0,64,3,259,783,1807,3903,7999,16383,32767]) (H0:=[(b2,.cells [I aa.Kind,.str [],.str [],I (0:Int),.bool false,I (0:Int),.str [],I (0:Int),I (0:Int),I (0:Int),.nil])]) (HH:=fun β=>[(b2,.cells [I aa.Kind,.str aa.Field,.str aa.Op,I aa.Value.Kind,.bool aa.Value.ch,I aa.Value.Number,.str aa.Value.Words,I (0:Int),I (0:Int),I (0:Int),.nil]),(b1,.cells (xL aa))]) 14 mixed J (by kernel_rfl) (by kernel_rfl) [⟨none,some 9,[],fun _=>(b2,.cells [I aa.Kind,.str [],.str [],I (0:Int),.bool false,I (0:Int),.str [],I (0:Int),I (0:Int),I (0:Int),.nil]),none,[]⟩,⟨some 9,some 11,[],fun _=>(b2,.cells [I aa.Kind,.str aa.Field,.str [],I (0:Int),.bool false,I (0:Int),.str [],I (0:Int),I (0:Int),I (0:Int),.nil]),none,[]⟩,⟨some 11,some 13,[],fun _=>(b2,.cells [I aa.Kind,.str aa.Field,.str aa.Op,I (0:Int),.bool false,I (0:Int),.str [],I (0:Int),I (0:Int),I (0:Int),.nil]),none,[]⟩,⟨some 13,none,[],fun _=>(b2,.cells [I aa.Kind,.str aa.Field,.str aa.Op,I aa.Value.Kind,.bool aa.Value.ch,I aa.Value.Number,.str aa.Value.Words,I (0:Int),I (0:Int),I (0:Int),.nil]),none,[]⟩] [] J (by kernel_rfl) J (.cons .p0 .nil) (fun _=>J)<|AT.am 9 J J<|AM.qv (ar J J) J<|AM.qv (aD J J .p0 J) J<|AM.qv (ar J J) J<|AM.qv (aD J J .p0 J) J<|AM.qv (ar J J) J<|AM.qv (aY J J .p0 J J) J<|AM.qv (ar J J) J<|AM.qv (aY J J .p0 J J) J<|AM.qv (ar J J) J<|AM.nil<|AT.WY (Ti:=[(b2,.cells [I aa.Kind,.str [],.str [],I (0:Int),.bool false,I (0:Int),.str [],I (0:Int),I (0:Int),I (0:Int),.nil])]) (Pi:=[(b2,.cells [I aa.Kind,.str aa.Field,.str [],I (0:Int),.bool false,I (0:Int),.str [],I (0:Int),I (0:Int),I (0:Int),.nil])]) (fun _=>J) (fun _=>J) (fun _=>J) J J ?_ ?_
    ·exact ay J J J J .p0 J J<|ae.nil ⟨_,J⟩
    refine AT.am 1 J J<|AM.qv (ar J J) J<|AM.nil<|AT.WY (Ti:=[(b2,.cells [I aa.Kind,.str aa.Field,.str [],I (0:Int),.bool false,I (0:Int),.str [],I (0:Int),I (0:Int),I (0:Int),.nil])]) (Pi:=[(b2,.cells [I aa.Kind,.str aa.Field,.str aa.Op,I (0:Int),.bool false,I (0:Int),.str [],I (0:Int),I (0:Int),I (0:Int),.nil])]) (fun _=>J) (fun _=>J) (fun _=>J) J J ?_ ?_
    ·exact ay J J J J .p0 J J<|ae.nil ⟨_,J⟩
    refine AT.am 1 J J<|AM.qv (ar J J) J<|AM.nil<|AT.WY (Ti:=[(b2,.cells [I aa.Kind,.str aa.Field,.str aa.Op,I (0:Int),.bool false,I (0:Int),.str [],I (0:Int),I (0:Int),I (0:Int),.nil])]) (Pi:=[(b2,.cells [I aa.Kind,.str aa.Field,.str aa.Op,I aa.Value.Kind,.bool aa.Value.ch,I aa.Value.Number,.str aa.Value.Words,I (0:Int),I (0:Int),I (0:Int),.nil])]) (fun _=>J) (fun _=>J) (fun _=>J) J J ?_ ?_
    ·exact ay J J J J .p0 J J<|ae.nil ⟨_,J⟩
    exact AT.yF (fun _=>J) fun β=>rF J J J<|ay J J J J .p0 J J<|rN<|ab.stop<|aj.lq [1,0] ⟨decide ((aa.Kids.length:Int)≠(0:Int)),aa.Field,aa.Op,aa.Value.Kind,aa.Value.ch,aa.Value.Number,aa.Value.Words,aa.Version.bP,aa.Version.bQ,aa.Version.bL,h,J⟩ J J
   ·refine az<|ae.qv (cx J J) J<|rA J J<|rN<|ab.cut (fun aE=>∃ (D8:Bool) (Qa:ai),jb aa D8 Qa=some r∧aE=⟨79,[(1,.ptr b1 0),(4,.bool D8),(5,.ptr b2 0)],[(b1,.cells (xL aa)),(b2,.cells [I aa.Kind,.str Qa,.str [],I (0:Int),.bool false,I (0:Int),.str [],I (0:Int),I (0:Int),I (0:Int),.nil])]⟩) ?_ ?_
    ·refine cD h J (fun h=>?_) (fun h=>?_)
     ·exact tR<|rF J J J<|rL J J .p1 J J<|rF J J J<|ay J J J J .p0 J J<|rN<|ab.stop<|aj.lq [1,0] ⟨decide ((aa.Kids.length:Int)≠(0:Int)),aa.Field,h,J⟩ J J
     ·refine az<|ae.qv (cx J J) J<|rA J J<|rN<|ab.cut (fun aE=>∃ (Qd:Bool),jc aa Qd=some r∧aE=⟨79,[(1,.ptr b1 0),(4,.bool Qd),(5,.ptr b2 0)],[(b1,.cells (xL aa)),(b2,.cells [I aa.Kind,.str [],.str [],I (0:Int),.bool false,I (0:Int),.str [],I (0:Int),I (0:Int),I (0:Int),.nil])]⟩) ?_ ?_
      ·refine cD h J (fun h=>?_) (fun h=>?_)
       ·exact tR<|rM J J<|ae.qv (ei J J) J<|rA J J<|rN<|ab.stop<|aj.lq [1,0] ⟨decide ((aa.Kids.length:Int)≠(1:Int)),h,J⟩ J J
       ·refine ab.cut (fun aE=>∃ (MI:Bool),k9 aa MI=some r∧aE=⟨79,[(1,.ptr b1 0),(4,.bool MI),(5,.ptr b2 0)],[(b1,.cells (xL aa)),(b2,.cells [I aa.Kind,.str [],.str [],I (0:Int),.bool false,I (0:Int),.str [],I (0:Int),I (0:Int),I (0:Int),.nil])]⟩) ?_ ?_
        ·refine tR<|rM J J<|ae.qv (br J J) J<|rM J J<|gF h J J J (fun h=>?_) (fun h=>?_)
         ·exact rF J J J<|rY J J J<|rL J J .p1 J J<|rY J J J<|ae.qv (iv J) J<|rY J J J<|ax h fun v17 e1 h=>eF J (gx (fun e=>An (Option.some.inj e)) e1) (.cons (.co (.refl _)) (.cons (.xf _ _ _ (.cons (.BM _ _ _ .p1 (.cons (.co (.refl _)) (.cons (.co (.refl _)) (.cons (.co (.refl _)) (.cons (.co (.refl _)) (.cons (.co (.refl _)) (.cons (.co (.refl _)) (.cons (.co (.refl _)) (.cons (.co (.refl _)) (.cons (.co (.refl _)) (.cons (.co (.refl _)) (.cons (.co (.refl _)) .nil)))))))))))) .nil)) .nil)) J J<|rE J J J<|rA J J<|rN<|ab.stop<|aj.lq [1,0] ⟨v17,h,J⟩ J J
         ·exact rG J J J J<|rG J J J J<|rG J J J J<|rT J J J<|rA J J<|rN<|ab.stop<|aj.lq [1,0] ⟨true,h,J⟩ J J
        ·rintro aE ⟨MI,h,rfl⟩
         unfold k9 at h
         exact ab.stop<|aj.lq [0,0] ⟨MI,h,J⟩ J J
      ·rintro aE ⟨Qd,h,rfl⟩
       unfold jc at h
       exact ab.stop<|aj.lq [0,0] ⟨Qd,[],h,J⟩ J J
    ·rintro aE ⟨D8,Qa,h,rfl⟩
     unfold jb at h
     exact ab.stop<|aj.lq [0,0] ⟨D8,Qa,[],(0:Int),false,(0:Int),[],(0:Int),(0:Int),(0:Int),h,J⟩ J J
  ·rintro aE ⟨c3,q4,q5,n6,c7,n8,q9,n10,n11,n12,h,rfl⟩
   unfold k8 at h
   refine ab.bX<|tS<|tS<|ab.cut (fun aE=>∃ (JR:Bool),sc JR=some r∧aE=⟨79,[(78,.bool JR)],[]⟩) ?_ ?_
   ·refine tR<|rM J J<|rM J J<|ae.guard J J J (fun hc=>?_) (fun hc=>?_)
    ·rw [GR hc] at h
     refine rF J J J<|rY J J J<|rL J J .p1 J J<|rY J J J<|rF J J J<|rY J J J<|rL J J .p0 J J<|rY J J J<|ae.qv (ud J J) J<|rE J J J<|rM J J<|ae.dC J J J (fun hc=>?_) (fun hc=>?_)
     ·rw [yW hc] at h
      refine rF J J J<|rY J J J<|rL J J .p1 J J<|rY J J J<|rF J J J<|rY J J J<|rL J J .p0 J J<|rY J J J<|ae.qv (ud J J) J<|rE J J J<|rM J J<|ae.dC J J J (fun hc=>?_) (fun hc=>?_)
      ·rw [yW hc] at h
       refine rF J J J<|rY J J J<|ae.qv (aY J J .p1 J J) J<|rY J J J<|rF J J J<|rY J J J<|ae.qv (aY J J .p0 J J) J<|rY J J J<|ae.qv (AF (g:=bg.av) (X:=(⟨n6,c7,n8,q9⟩:bg)) (Y:=aa.Value) J J J J J) J<|rE J J J<|rM J J<|ae.dC J J J (fun hc=>?_) (fun hc=>?_)
       ·rw [yW hc] at h
        exact rF J J J<|rY J J J<|ae.qv (aY J J .p1 J J) J<|rY J J J<|rF J J J<|rY J J J<|ae.qv (aY J J .p0 J J) J<|rY J J J<|ae.qv (AF (g:=Version.av) (X:=(⟨n10,n11,n12⟩:Version)) (Y:=aa.Version) J J J J J) J<|rE J J J<|rN<|ab.stop<|aj.lq [] ⟨decide ((⟨n10,n11,n12⟩:Version)≠aa.Version),h,J⟩ J J
       ·rw [yV hc] at h
        exact rG J J J J<|rG J J J J<|rG J J J J<|rG J J J J<|rT J J J<|rN<|ab.stop<|aj.lq [] ⟨true,h,J⟩ J J
      ·rw [yV hc] at h
       exact rG J J J J<|rG J J J J<|rG J J J J<|rG J J J J<|rT J J J<|rM J J<|rG J J J J<|rG J J J J<|rG J J J J<|rG J J J J<|rG J J J J<|rT J J J<|rN<|ab.stop<|aj.lq [] ⟨true,h,J⟩ J J
     ·rw [yV hc] at h
      exact rG J J J J<|rG J J J J<|rG J J J J<|rG J J J J<|rT J J J<|rM J J<|rG J J J J<|rG J J J J<|rG J J J J<|rG J J J J<|rG J J J J<|rT J J J<|rM J J<|rG J J J J<|rG J J J J<|rG J J J J<|rG J J J J<|rG J J J J<|rT J J J<|rN<|ab.stop<|aj.lq [] ⟨true,h,J⟩ J J
    ·rw [GQ hc] at h
     exact rG J J J J<|rG J J J J<|rG J J J J<|rG J J J J<|rT J J J<|rM J J<|rG J J J J<|rG J J J J<|rG J J J J<|rG J J J J<|rG J J J J<|rT J J J<|rM J J<|rG J J J J<|rG J J J J<|rG J J J J<|rG J J J J<|rG J J J J<|rT J J J<|rM J J<|rG J J J J<|rG J J J J<|rG J J J J<|rG J J J J<|rG J J J J<|rT J J J<|rN<|ab.stop<|aj.lq [] ⟨true,h,J⟩ J J
   ·rintro aE ⟨JR,h,rfl⟩
    unfold sc at h
    refine cB h J (fun h=>?_) (fun h=>?_)
    ·refine az<|rA J J<|rN<|ab.ret<|?_
     cases h
     exact hP J J
    ·refine tK<|az<|rA J J<|rN<|ab.ret<|?_
     cases h
     exact hP J J
theorem lA [GI:bD] {aa:ai} {ak:ai} {r:Bool} (h:dj aa ak=some r):Pu Tryz.prog 300 [.str aa,.str ak] (.bool r):=by
 unfold dj at h
 refine aI.aZ Tryz.func300 J Tryz.ntmps300 Tryz.results300 J J ?_
 refine az<|rA J J<|rN<|tS<|ab.cut (fun aE=>∃ (c1:Bool),dA c1=some r∧aE=⟨18,[(4,.bool c1)],[]⟩) ?_ ?_
 ·refine tR<|rM J J<|ae.qv (eS J) J<|rM J J<|ae.qv (eS J) J<|ae.qv (vn J J) J<|rM J J<|gT h J J J (fun h=>?_) (fun h=>?_)
  ·exact rM J J<|rY J J J<|rM J J<|rY J J J<|ae.qv (eS J) J<|rY J J J<|ax h fun l2 e1 h=>ae.qv (wq J .none (.some _ _ _ J) J J e1) J<|rY J J J<|rM J J<|rY J J J<|ae.qv (fC J J) J<|rT J J J<|rA J J<|rN<|ab.stop<|aj.lq [] ⟨decide (l2=ak),h,J⟩ J J
  ·exact rG J J J J<|rG J J J J<|rG J J J J<|rG J J J J<|rG J J J J<|rE J J J<|rA J J<|rN<|ab.stop<|aj.lq [] ⟨false,h,J⟩ J J
 ·rintro aE ⟨c1,h,rfl⟩
  unfold dA at h
  refine ab.ret<|?_
  cases h
  exact hP J J
theorem sD [GI:bD] {aa:ai} {ak:ai} {r:ai×Bool} (h:fp aa ak=some r):Pu Tryz.prog 327 [.str aa,.str ak] (.pT [.str r.1,.bool r.2]):=by
 unfold fp at h
 refine aI.aZ Tryz.func327 J Tryz.ntmps327 Tryz.results327 J J ?_
 refine az<|rA J J<|rA J J<|rN<|tS<|az<|rM J J<|rM J J<|ax h fun v1 e1 h=>aH J (lA e1) cR J<|ae.qv (bF J) J<|rN<|cB h J (fun h=>?_) (fun h=>?_)
 ·refine az<|rM J J<|rA J J<|rA J J<|rN<|ab.ret<|?_
  cases h
  exact hQ J J J
 ·refine tK<|az<|rM J J<|rM J J<|ae.qv (eS J) J<|ax h fun l2 e2 h=>ae.qv (wq J (.some _ _ _ J) .none J J e2) J<|rA J J<|rA J J<|rN<|ab.ret<|?_
  cases h
  exact hQ J J J
theorem jA [GI:bD] {aa:ai} {ak:ai} {r:ai×Bool} (h:strings_CutPrefix aa ak=some r):Pu Tryz.prog 283 [.str aa,.str ak] (.pT [.str r.1,.bool r.2]):=by
 unfold strings_CutPrefix at h
 refine aI.aZ Tryz.func283 J Tryz.ntmps283 Tryz.results283 J J ?_
 refine az<|rA J J<|rA J J<|rN<|az<|rM J J<|rM J J<|ax h fun v1 e1 h=>aH J (sD e1) cR J<|rX J J J<|rX J J J<|rA J J<|rA J J<|rN<|ab.ret<|?_
 cases h
 exact hQ J J J
theorem Ce [GI:bD] {aa:ai} {r:Bool} (h:ta aa=some r):Pu Tryz.prog 357 [.str aa] (.bool r):=by
 unfold ta at h
 refine aI.aZ Tryz.func357 J Tryz.ntmps357 Tryz.results357 J J ?_
 refine az<|rA J J<|rN<|az<|rM J J<|ax h fun v1 e1 h=>aH J (jA e1) cR J<|rM J J<|rX J J J<|rX J J J<|rA J J<|rA J J<|rN<|tS<|ab.cut (fun aE=>∃ (c2:Bool),qa c2=some r∧aE=⟨15,[(2,.bool c2)],[]⟩) ?_ ?_
 ·refine tR<|rM J J<|rM J J<|ae.guard J J J (fun hc=>?_) (fun hc=>?_)
  ·exact have h:=hZ hc h;rM J J<|rY J J J<|ax h fun v3 e2 h=>aH J (lR e2) cR J<|rT J J J<|rA J J<|rN<|ab.stop<|aj.lq [] ⟨v3,h,J⟩ J J
  ·exact have h:=ir hc h;rG J J J J<|rE J J J<|rA J J<|rN<|ab.stop<|aj.lq [] ⟨false,h,J⟩ J J
 ·rintro aE ⟨c2,h,rfl⟩
  unfold qa at h
  refine ab.ret<|?_
  cases h
  exact hP J J
theorem yx {aa:ai} {r:Bool} (h:nL aa=some r):Pu Tryz.prog 221 [.str aa] (.bool r):=by
 unfold nL at h
 refine aI.aZ Tryz.func221 J Tryz.ntmps221 Tryz.results221 J J ?_
 refine az<|rA J J<|rN<|tS<|ab.cut (fun aE=>∃ (c1:Bool),me c1=some r∧aE=⟨10,[(2,.bool c1)],[]⟩) ?_ ?_
 ·refine tR<|rM J J<|ae.qv (eS J) J<|ae.qv (sS J J) J<|rM J J<|gT h J J J (fun h=>?_) (fun h=>?_)
  ·exact rM J J<|rY J J J<|ax h fun v2 e1 h=>aH J (wT e1) cR J<|rT J J J<|rA J J<|rN<|ab.stop<|aj.lq [] ⟨v2,h,J⟩ J J
  ·exact rG J J J J<|rE J J J<|rA J J<|rN<|ab.stop<|aj.lq [] ⟨false,h,J⟩ J J
 ·rintro aE ⟨c1,h,rfl⟩
  unfold me at h
  refine ab.ret<|?_
  cases h
  exact hP J J
theorem wW {aa:ai} {r:Bool} (h:oX aa=some r):Pu Tryz.prog 358 [.str aa] (.bool r):=by
 unfold oX at h
 refine aI.aZ Tryz.func358 J Tryz.ntmps358 Tryz.results358 J J ?_
 refine az<|rA J J<|rN<|az<|rM J J<|ax h fun v1 e1 h=>aH J (jA e1) cR J<|rM J J<|rX J J J<|rX J J J<|rA J J<|rA J J<|rN<|tS<|ab.cut (fun aE=>∃ (c2:Bool),oW c2=some r∧aE=⟨15,[(2,.bool c2)],[]⟩) ?_ ?_
 ·refine tR<|rM J J<|rM J J<|ae.guard J J J (fun hc=>?_) (fun hc=>?_)
  ·exact have h:=hZ hc h;rM J J<|rY J J J<|ax h fun v3 e2 h=>aH J (yx e2) cR J<|rT J J J<|rA J J<|rN<|ab.stop<|aj.lq [] ⟨v3,h,J⟩ J J
  ·exact have h:=ir hc h;rG J J J J<|rE J J J<|rA J J<|rN<|ab.stop<|aj.lq [] ⟨false,h,J⟩ J J
 ·rintro aE ⟨c2,h,rfl⟩
  unfold oW at h
  refine ab.ret<|?_
  cases h
  exact hP J J
theorem Jb {aa:ai} {r:Bool} (h:vB aa=some r):Pu Tryz.prog 356 [.str aa] (.bool r):=by
 unfold vB at h
 refine aI.aZ Tryz.func356 J Tryz.ntmps356 Tryz.results356 J J ?_
 refine az<|rA J J<|rN<|tS<|ab.cut (fun aE=>∃ (c1:Bool),iK c1=some r∧aE=⟨25,[(2,.bool c1)],[]⟩) ?_ ?_
 ·refine tR<|rM J J<|ae.qv (fC J J) J<|rM J J<|gF h J J J (fun h=>?_) (fun h=>?_)
  ·refine rM J J<|rY J J J<|ae.qv (fC J J) J<|rE J J J<|rM J J<|gF h J J J (fun h=>?_) (fun h=>?_)
   ·refine rM J J<|rY J J J<|ae.qv (fC J J) J<|rE J J J<|rM J J<|gF h J J J (fun h=>?_) (fun h=>?_)
    ·refine rM J J<|rY J J J<|ae.qv (fC J J) J<|rE J J J<|rM J J<|gF h J J J (fun h=>?_) (fun h=>?_)
     ·refine rM J J<|rY J J J<|ax h fun v2 e1 h=>aH J (Ce e1) cR J<|rE J J J<|rM J J<|ae.guard J J J (fun hc=>?_) (fun hc=>?_)
      ·exact have h:=ir hc h;rM J J<|rY J J J<|ax h fun v3 e2 h=>aH J (wW e2) cR J<|rE J J J<|rA J J<|rN<|ab.stop<|aj.lq [] ⟨v3,h,J⟩ J J
      ·exact have h:=hZ hc h;rG J J J J<|rT J J J<|rA J J<|rN<|ab.stop<|aj.lq [] ⟨true,h,J⟩ J J
     ·exact rG J J J J<|rT J J J<|rM J J<|rG J J J J<|rG J J J J<|rT J J J<|rA J J<|rN<|ab.stop<|aj.lq [] ⟨true,h,J⟩ J J
    ·exact rG J J J J<|rT J J J<|rM J J<|rG J J J J<|rG J J J J<|rT J J J<|rM J J<|rG J J J J<|rG J J J J<|rT J J J<|rA J J<|rN<|ab.stop<|aj.lq [] ⟨true,h,J⟩ J J
   ·exact rG J J J J<|rT J J J<|rM J J<|rG J J J J<|rG J J J J<|rT J J J<|rM J J<|rG J J J J<|rG J J J J<|rT J J J<|rM J J<|rG J J J J<|rG J J J J<|rT J J J<|rA J J<|rN<|ab.stop<|aj.lq [] ⟨true,h,J⟩ J J
  ·exact rG J J J J<|rT J J J<|rM J J<|rG J J J J<|rG J J J J<|rT J J J<|rM J J<|rG J J J J<|rG J J J J<|rT J J J<|rM J J<|rG J J J J<|rG J J J J<|rT J J J<|rM J J<|rG J J J J<|rG J J J J<|rT J J J<|rA J J<|rN<|ab.stop<|aj.lq [] ⟨true,h,J⟩ J J
 ·rintro aE ⟨c1,h,rfl⟩
  unfold iK at h
  refine ab.ret<|?_
  cases h
  exact hP J J
theorem Cf [GI:bD] {r:(List ai)} (h:fi=r):aI Tryz.prog 359 [] [] (T1 (fun kK=>[(kK,vF r)]) (fun kK=>.sl 1 kK 0 r.length)):=by
 unfold fi at h
 refine aI.fD ?_
 refine aI.aZ Tryz.func359 J Tryz.ntmps359 Tryz.results359 J J ?_
 refine az<|rA J J<|rN<|az<|rK J J J J J J fun b1=>rA J J<|rN<|ab.ret<|?_
 obtain rfl:=h
 exact hH J [0] J ⟨b1,J,J⟩
theorem zm [GI:bD] {aa:Version} {r:Bool} (h:fq aa=r):Pu Tryz.prog 219 [Version.av aa] (.bool r):=by
 unfold fq at h
 refine aI.aZ Tryz.func219 J Tryz.ntmps219 Tryz.results219 J J ?_
 refine az<|cJ J J J J fun b1=>rA J J<|rN<|tS<|ab.cut (fun aE=>∃ (c2:Bool),qG c2=r∧aE=⟨19,[(2,.bool c2)],[]⟩) ?_ ?_
 ·refine tR<|rF J J J<|rL J J .p0 J J<|aH J (pc J) cR J<|ae.qv (bF J) J<|rM J J<|ae.guard J J J (fun hc=>?_) (fun hc=>?_)
  ·rw [AD hc] at h
   refine rF J J J<|rY J J J<|rL J J .p0 J J<|rY J J J<|aH J (pc J) cR J<|rY J J J<|ae.qv (bF J) J<|rT J J J<|rM J J<|ae.guard J J J (fun hc=>?_) (fun hc=>?_)
   ·rw [AD hc] at h
    exact rF J J J<|rY J J J<|rL J J .p0 J J<|rY J J J<|aH J (pc J) cR J<|rY J J J<|ae.qv (bF J) J<|rT J J J<|rA J J<|rN<|ab.stop<|aj.lq [] ⟨!(kB aa.bL (0:Int) (9999:Int)),h,J⟩ J J
   ·rw [AE hc] at h
    exact rG J J J J<|rG J J J J<|rG J J J J<|rE J J J<|rA J J<|rN<|ab.stop<|aj.lq [] ⟨false,h,J⟩ J J
  ·rw [AE hc] at h
   exact rG J J J J<|rG J J J J<|rG J J J J<|rE J J J<|rM J J<|rG J J J J<|rG J J J J<|rG J J J J<|rG J J J J<|rE J J J<|rA J J<|rN<|ab.stop<|aj.lq [] ⟨false,h,J⟩ J J
 ·rintro aE ⟨c2,h,rfl⟩
  unfold qG at h
  refine ab.ret<|?_
  obtain rfl:=h
  exact hP J J
theorem Cg {aa:bg} {r:Bool} (h:tb aa=some r):Pu Tryz.prog 222 [bg.av aa] (.bool r):=by
 unfold tb at h
 refine aI.aZ Tryz.func222 J Tryz.ntmps222 Tryz.results222 J J ?_
 refine az<|cJ J J J J fun b1=>rA J J<|rN<|az<|rF J J J<|rL J J .p0 J J<|ae.qv (bq J J J J J) J<|bu J J J J fun b2=>ay J J J J .p0 J J<|rN<|tS<|az<|rF J J J<|rL J J .p1 J J<|rN<|ab.block<|az<|ae.qv (cx J J) J<|rA J J<|rN<|ab.cut (fun aE=>∃ (c3:Bool) (n4:Int) (q5:ai),nM aa c3 n4 q5=some r∧aE=⟨46,[(1,.ptr b1 0),(3,.ptr b2 0)],[(b1,.cells [I aa.Kind,.bool aa.ch,I aa.Number,.str aa.Words]),(b2,.cells [I aa.Kind,.bool c3,I n4,.str q5])]⟩) ?_ ?_
 ·refine cD h J (fun h=>?_) (fun h=>?_)
  ·exact tK<|ab.stop<|aj.lq [1,0] ⟨false,(0:Int),[],h,J⟩ J J
  ·refine az<|ae.qv (cx J J) J<|rA J J<|rN<|ab.cut (fun aE=>∃ (c6:Bool) (n7:Int) (q8:ai),qd aa c6 n7 q8=some r∧aE=⟨46,[(1,.ptr b1 0),(3,.ptr b2 0)],[(b1,.cells [I aa.Kind,.bool aa.ch,I aa.Number,.str aa.Words]),(b2,.cells [I aa.Kind,.bool c6,I n7,.str q8])]⟩) ?_ ?_
   ·refine cD h J (fun h=>?_) (fun h=>?_)
    ·exact tR<|rF J J J<|rL J J .p1 J J<|rF J J J<|ay J J J J .p0 J J<|rN<|ab.stop<|aj.lq [1,0] ⟨aa.ch,(0:Int),[],h,J⟩ J J
    ·refine az<|ae.qv (cx J J) J<|rA J J<|rN<|ab.cut (fun aE=>∃ (n9:Int) (N2:ai),qe aa n9 N2=some r∧aE=⟨46,[(1,.ptr b1 0),(3,.ptr b2 0)],[(b1,.cells [I aa.Kind,.bool aa.ch,I aa.Number,.str aa.Words]),(b2,.cells [I aa.Kind,.bool false,I n9,.str N2])]⟩) ?_ ?_
     ·refine cD h J (fun h=>?_) (fun h=>?_)
      ·exact tR<|rF J J J<|rL J J .p1 J J<|rF J J J<|ay J J J J .p0 J J<|rN<|ab.stop<|aj.lq [1,0] ⟨aa.Number,[],h,J⟩ J J
      ·refine az<|ae.qv (cx J J) J<|rA J J<|rN<|cD h J (fun h=>?_) (fun h=>?_)
       ·exact tR<|rF J J J<|rL J J .p1 J J<|rF J J J<|ay J J J J .p0 J J<|rN<|ab.stop<|aj.lq [1,0] ⟨(0:Int),aa.Words,h,J⟩ J J
       ·refine az<|rA J J<|rN<|ab.ret<|?_
        cases h
        exact hP J J
     ·rintro aE ⟨n9,N2,h,rfl⟩
      unfold qe at h
      exact ab.stop<|aj.lq [0,0] ⟨false,n9,N2,h,J⟩ J J
   ·rintro aE ⟨c6,n7,q8,h,rfl⟩
    unfold qd at h
    exact ab.stop<|aj.lq [0,0] ⟨c6,n7,q8,h,J⟩ J J
 ·rintro aE ⟨c3,n4,q5,h,rfl⟩
  unfold nM at h
  refine ab.bX<|tS<|ab.cut (fun aE=>∃ (FG:Bool),lK FG=some r∧aE=⟨46,[(2,.bool FG)],[]⟩) ?_ ?_
  ·refine tR<|ae.qv (aA J J .p0 J) J<|ae.qv (aA J J .p1 J) J<|ae.qv (aa1 (g:=bg.av) (X:=aa) (Y:=(⟨aa.Kind,c3,n4,q5⟩:bg)) J J J J J) J<|rM J J<|gT h J J J (fun h=>?_) (fun h=>?_)
   ·refine rF J J J<|rY J J J<|rL J J .p0 J J<|rY J J J<|aH J (pc J) cR J<|rY J J J<|ae.qv (bF J) J<|rT J J J<|rM J J<|ae.guard J J J (fun hc=>?_) (fun hc=>?_)
    ·refine have h:=hZ hc h;rF J J J<|rY J J J<|rL J J .p0 J J<|rY J J J<|ae.qv (eS J) J<|rY J J J<|ae.qv (sS J J) J<|rT J J J<|rM J J<|gT h J J J (fun h=>?_) (fun h=>?_)
     ·exact rF J J J<|rY J J J<|rL J J .p0 J J<|rY J J J<|ax h fun v12 e1 h=>aH J (mN e1) cR J<|rT J J J<|rA J J<|rN<|ab.stop<|aj.lq [] ⟨v12,h,J⟩ J J
     ·exact rG J J J J<|rG J J J J<|rE J J J<|rA J J<|rN<|ab.stop<|aj.lq [] ⟨false,h,J⟩ J J
    ·exact have h:=ir hc h;rG J J J J<|rG J J J J<|rG J J J J<|rE J J J<|rM J J<|rG J J J J<|rG J J J J<|rG J J J J<|rE J J J<|rA J J<|rN<|ab.stop<|aj.lq [] ⟨false,h,J⟩ J J
   ·exact rG J J J J<|rG J J J J<|rG J J J J<|rE J J J<|rM J J<|rG J J J J<|rG J J J J<|rG J J J J<|rG J J J J<|rE J J J<|rM J J<|rG J J J J<|rG J J J J<|rG J J J J<|rE J J J<|rA J J<|rN<|ab.stop<|aj.lq [] ⟨false,h,J⟩ J J
  ·rintro aE ⟨FG,h,rfl⟩
   unfold lK at h
   refine ab.ret<|?_
   cases h
   exact hP J J
theorem Da {aa:Query} {r:Int} (h:oY aa=some r):Pu Tryz.prog 330 [.agg [I aa.Kind,.str aa.Field,.str aa.Op,I aa.Value.Kind,.bool aa.Value.ch,I aa.Value.Number,.str aa.Value.Words,I aa.Version.bP,I aa.Version.bQ,I aa.Version.bL,pb aa.Kids]] (I r):=by
 unfold oY at h
 refine aI.aZ Tryz.func330 J Tryz.ntmps330 Tryz.results330 J J ?_
 refine az<|cJ J J J J fun b1=>rA J J<|rN<|tS<|tS<|ab.cut (fun aE=>∃ (c2:Bool),eK aa c2=some r∧aE=⟨98,[(1,.ptr b1 0),(24,.bool c2)],[(b1,.cells (xL aa))]⟩) ?_ ?_
 ·refine tR<|rF J J J<|rL J J .p0 J J<|ax h fun v3 e1 h=>aH J (Jb e1) cR J<|ae.qv (bF J) J<|rM J J<|ae.guard J J J (fun hc=>?_) (fun hc=>?_)
  ·refine have h:=ir hc h;rF J J J<|rY J J J<|rL J J .p0 J J<|rY J J J<|ae.qv (cx J J) J<|rY J J J<|rM J J<|gT h J J J (fun h=>?_) (fun h=>?_)
   ·refine rF J J J<|rY J J J<|rL J J .p0 J J<|rY J J J<|ax h fun v4 e2 h=>aH J (Ce e2) cR J<|rY J J J<|ae.qv (bF J) J<|rY J J J<|rT J J J<|rY J J J<|rM J J<|ae.guard J J J (fun hc=>?_) (fun hc=>?_)
    ·exact have h:=hZ hc h;rF J J J<|rY J J J<|rL J J .p0 J J<|rY J J J<|ax h fun v5 e3 h=>aH J (wW e3) cR J<|rY J J J<|ae.qv (bF J) J<|rY J J J<|rT J J J<|rE J J J<|rN<|ab.stop<|aj.lq [0] ⟨!v5,h,J⟩ J J
    ·exact have h:=ir hc h;rG J J J J<|rG J J J J<|rG J J J J<|rY J J J<|rE J J J<|rE J J J<|rN<|ab.stop<|aj.lq [0] ⟨false,h,J⟩ J J
   ·exact rG J J J J<|rG J J J J<|rG J J J J<|rY J J J<|rE J J J<|rY J J J<|rM J J<|rG J J J J<|rG J J J J<|rG J J J J<|rG J J J J<|rY J J J<|rE J J J<|rE J J J<|rN<|ab.stop<|aj.lq [0] ⟨false,h,J⟩ J J
  ·exact have h:=hZ hc h;rG J J J J<|rG J J J J<|rG J J J J<|ae.bz J J J<|ae.bz J J J<|ae.bz J J J<|ae.bz J J J<|rG J J J J<|rG J J J J<|ae.bz J J J<|ae.bz J J J<|ae.bz J J J<|ae.bz J J J<|rG J J J J<|rT J J J<|rN<|ab.stop<|aj.lq [0] ⟨true,h,J⟩ J J
 ·rintro aE ⟨c2,h,rfl⟩
  unfold eK at h
  refine cB h J (fun h=>?_) (fun h=>?_)
  ·refine az<|rA J J<|rN<|ab.ret<|?_
   cases h
   exact hP J J
  ·refine tK<|tS<|az<|rF J J J<|rL J J .p0 J J<|ae.qv (cx J J) J<|rN<|cD h J (fun h=>?_) (fun h=>?_)
   ·refine az<|rA J J<|rN<|ab.ret<|?_
    cases h
    exact hP J J
   ·refine tK<|az<|rF J J J<|rL J J .p0 J J<|ae.qv (fC J J) J<|rA J J<|rN<|tS<|ab.block<|tS<|ab.kH (id:=6) (A:=[0,0,2,7,15,31]) (H0:=[]) (HH:=fun β=>[((β 0),vF fi),(b1,.cells (xL aa))]) 3 mixed J (by kernel_rfl) (by kernel_rfl) [⟨some 0,none,[],fun b=>(b,vF fi),none,[]⟩] [0] J (by kernel_rfl) J .nil (fun _=>J)<|AT.Ul (V:=fun b=>.sl 1 b 0 fi.length) (Ti:=[]) (Pi:=fun b=>[(b,vF fi)]) (fun _=>J) (fun _=>J) (fun _ _=>J) J (fun _=>J) J J J ?_ ?_
    ·exact fV J (Cf J) cR .nil (fun _=>J) J fun b6=>ae.nil ⟨b6,_,J,J⟩
    refine AT.am 2 J J<|AM.qv (ar J J) J<|AM.qv (aD J J .p0 J) J<|AM.nil<|AT.yF (fun _=>J) fun β=>?_
    generalize β 0=b6
    clear β
    refine ax h fun v7 e4 h=>eF J (bt e4) (.cons (w7.wN .p0) (.cons (.co (.refl _)) .nil)) J J<|ae.qv (bF J) J<|rA J J<|rN<|cB h J (fun h=>?_) (fun h=>?_)
    ·refine az<|rA J J<|rN<|ab.ret<|?_
     cases h
     exact hP J J
    ·refine tS<|ab.cut (fun aE=>∃ (c8:Bool),ou aa c8=some r∧aE=⟨98,[(1,.ptr b1 0),(3,.bool (decide (aa.Field=([102,105,114,109,119,97,114,101]:ai)))),(37,.bool c8)],[(b1,.cells (xL aa))]⟩) ?_ ?_
     ·refine tR<|rM J J<|rM J J<|ae.cq J J J (fun hc=>?_) (fun hc=>?_)
      ·rw [rQ hc] at h
       exact rF J J J<|rY J J J<|ae.qv (aY J J .p1 J J) J<|rY J J J<|ae.qv (bq J J J J J) J<|rY J J J<|ae.qv (AF (g:=bg.av) (X:=aa.Value) (Y:=(⟨(0:Int),false,(0:Int),[]⟩:bg)) J J J J J) J<|rT J J J<|rA J J<|rN<|ab.stop<|aj.lq [1] ⟨decide (aa.Value≠(⟨(0:Int),false,(0:Int),[]⟩:bg)),h,J⟩ J J
      ·rw [rR hc] at h
       exact rG J J J J<|rG J J J J<|rG J J J J<|rE J J J<|rA J J<|rN<|ab.stop<|aj.lq [1] ⟨false,h,J⟩ J J
     ·rintro aE ⟨c8,h,rfl⟩
      unfold ou at h
      refine cB h J (fun h=>?_) (fun h=>?_)
      ·refine az<|rA J J<|rN<|ab.ret<|?_
       cases h
       exact hP J J
      ·refine tS<|ab.cut (fun aE=>∃ (c9:Bool),ot aa c9=some r∧aE=⟨98,[(1,.ptr b1 0),(3,.bool (decide (aa.Field=([102,105,114,109,119,97,114,101]:ai)))),(45,.bool c9)],[(b1,.cells (xL aa))]⟩) ?_ ?_
       ·refine tR<|rM J J<|rM J J<|ae.cq J J J (fun hc=>?_) (fun hc=>?_)
        ·rw [rQ hc] at h
         exact rF J J J<|rY J J J<|ae.qv (aY J J .p0 J J) J<|rY J J J<|aH J (zm J) cR J<|rY J J J<|ae.qv (bF J) J<|rT J J J<|rA J J<|rN<|ab.stop<|aj.lq [0] ⟨!(fq aa.Version),h,J⟩ J J
        ·rw [rR hc] at h
         exact rG J J J J<|rG J J J J<|rG J J J J<|rE J J J<|rA J J<|rN<|ab.stop<|aj.lq [0] ⟨false,h,J⟩ J J
       ·rintro aE ⟨c9,h,rfl⟩
        unfold ot at h
        refine cB h J (fun h=>?_) (fun h=>?_)
        ·refine az<|rA J J<|rN<|ab.ret<|?_
         cases h
         exact hP J J
        ·refine az<|rM J J<|rA J J<|rN<|cD h J (fun h=>?_) (fun h=>?_)
         ·refine az<|rA J J<|rN<|ab.ret<|?_
          cases h
          exact hP J J
         ·refine tS<|ab.cut (fun aE=>∃ (GY:Bool),je aa GY=some r∧aE=⟨98,[(1,.ptr b1 0),(55,.bool GY)],[(b1,.cells (xL aa))]⟩) ?_ ?_
          ·refine tR<|rF J J J<|ae.qv (aY J J .p0 J J) J<|ae.qv (bq J J J J J) J<|ae.qv (AF (g:=Version.av) (X:=aa.Version) (Y:=(⟨(0:Int),(0:Int),(0:Int)⟩:Version)) J J J J J) J<|rM J J<|gF h J J J (fun h=>?_) (fun h=>?_)
           ·refine rF J J J<|rY J J J<|ae.qv (aY J J .p0 J J) J<|rY J J J<|ax h fun v11 e5 h=>aH J (Cg e5) cR J<|rY J J J<|ae.qv (bF J) J<|rE J J J<|rM J J<|ae.guard J J J (fun hc=>?_) (fun hc=>?_)
            ·rw [GR hc] at h
             exact rF J J J<|rY J J J<|rF J J J<|rY J J J<|rL J J .p0 J J<|rY J J J<|ae.qv (cx J J) J<|rE J J J<|rA J J<|rN<|ab.stop<|aj.lq [0] ⟨decide (aa.Value.Kind=(0:Int)),h,J⟩ J J
            ·rw [GQ hc] at h
             exact rG J J J J<|rG J J J J<|rG J J J J<|rT J J J<|rA J J<|rN<|ab.stop<|aj.lq [0] ⟨true,h,J⟩ J J
           ·exact rG J J J J<|rG J J J J<|rG J J J J<|rT J J J<|rM J J<|rG J J J J<|rG J J J J<|rG J J J J<|rG J J J J<|rT J J J<|rA J J<|rN<|ab.stop<|aj.lq [0] ⟨true,h,J⟩ J J
          ·rintro aE ⟨GY,h,rfl⟩
           unfold je at h
           refine cB h J (fun h=>?_) (fun h=>?_)
           ·refine az<|rA J J<|rN<|ab.ret<|?_
            cases h
            exact hP J J
           ·refine tS<|ab.cut (fun aE=>∃ (c12:Bool),jd aa c12=some r∧aE=⟨98,[(1,.ptr b1 0),(72,.bool c12)],[(b1,.cells (xL aa))]⟩) ?_ ?_
            ·refine tR<|rF J J J<|rF J J J<|rL J J .p0 J J<|ae.qv (ei J J) J<|rM J J<|gT h J J J (fun h=>?_) (fun h=>?_)
             ·exact rF J J J<|rY J J J<|rL J J .p0 J J<|rY J J J<|ax h fun ma e6 h=>aH J (wW e6) cR J<|rY J J J<|ae.qv (bF J) J<|rT J J J<|rA J J<|rN<|ab.stop<|aj.lq [0] ⟨!ma,h,J⟩ J J
             ·exact rG J J J J<|rG J J J J<|rG J J J J<|rE J J J<|rA J J<|rN<|ab.stop<|aj.lq [0] ⟨false,h,J⟩ J J
            ·rintro aE ⟨c12,h,rfl⟩
             unfold jd at h
             refine cB h J (fun h=>?_) (fun h=>?_)
             ·refine az<|rA J J<|rN<|ab.ret<|?_
              cases h
              exact hP J J
             ·refine tS<|ab.cut (fun aE=>∃ (zf:Bool),oq zf=some r∧aE=⟨98,[(83,.bool zf)],[]⟩) ?_ ?_
              ·refine tR<|rF J J J<|rF J J J<|rL J J .p0 J J<|ae.qv (ei J J) J<|rM J J<|ae.cq J J J (fun hc=>?_) (fun hc=>?_)
               ·rw [rQ hc] at h
                refine rF J J J<|rY J J J<|rL J J .p0 J J<|rY J J J<|ae.qv (ud J J) J<|rT J J J<|rM J J<|ae.cq J J J (fun hc=>?_) (fun hc=>?_)
                ·rw [rQ hc] at h
                 exact rF J J J<|rY J J J<|rL J J .p0 J J<|rY J J J<|ae.qv (ud J J) J<|rT J J J<|rA J J<|rN<|ab.stop<|aj.lq [] ⟨decide (aa.Op≠([33,61]:ai)),h,J⟩ J J
                ·rw [rR hc] at h
                 exact rG J J J J<|rG J J J J<|rE J J J<|rA J J<|rN<|ab.stop<|aj.lq [] ⟨false,h,J⟩ J J
               ·rw [rR hc] at h
                exact rG J J J J<|rG J J J J<|rE J J J<|rM J J<|rG J J J J<|rG J J J J<|rG J J J J<|rE J J J<|rA J J<|rN<|ab.stop<|aj.lq [] ⟨false,h,J⟩ J J
              ·rintro aE ⟨zf,h,rfl⟩
               unfold oq at h
               refine cB h J (fun h=>?_) (fun h=>?_)
               ·refine az<|rA J J<|rN<|ab.ret<|?_
                cases h
                exact hP J J
               ·refine tK<|ab.bX<|az<|rA J J<|rN<|ab.ret<|?_
                cases h
                exact hP J J
theorem Ao {self:Query→Option Int} (kJ:∀ {aa:Query} {r:Int},self aa=some r→Pu Tryz.prog 290 [.agg [I aa.Kind,.str aa.Field,.str aa.Op,I aa.Value.Kind,.bool aa.Value.ch,I aa.Value.Number,.str aa.Value.Words,I aa.Version.bP,I aa.Version.bQ,I aa.Version.bL,pb aa.Kids]] (I r)) {aa:Query} {r:Int} (h:lf self aa=some r):Pu Tryz.prog 290 [.agg [I aa.Kind,.str aa.Field,.str aa.Op,I aa.Value.Kind,.bool aa.Value.ch,I aa.Value.Number,.str aa.Value.Words,I aa.Version.bP,I aa.Version.bQ,I aa.Version.bL,pb aa.Kids]] (I r):=by
 unfold lf at h
 refine aI.aZ Tryz.func290 J Tryz.ntmps290 Tryz.results290 J J ?_
 refine az<|cJ J J J J fun b1=>rA J J<|rN<|tS<|az<|ae.qv (aA J J .p0 J) J<|ax h fun v2 e1 h=>aH J (C9 e1) cR J<|rA J J<|rN<|az<|rM J J<|ae.qv (ei J J) J<|rN<|cD h J (fun h=>?_) (fun h=>?_)
 ·refine az<|rM J J<|rA J J<|rN<|ab.ret<|?_
  cases h
  exact hP J J
 ·refine tK<|tS<|tS<|ab.cut (fun aE=>∃ (c3:Bool),ow self aa c3=some r∧aE=⟨35,[(1,.ptr b1 0),(19,.bool c3)],[(b1,.cells (xL aa))]⟩) ?_ ?_
  ·refine tR<|rF J J J<|rL J J .p0 J J<|ae.qv (cx J J) J<|rM J J<|ae.dC J J J (fun hc=>?_) (fun hc=>?_)
   ·rw [yW hc] at h
    exact rF J J J<|rY J J J<|rL J J .p0 J J<|rY J J J<|ae.qv (cx J J) J<|rE J J J<|rN<|ab.stop<|aj.lq [0] ⟨decide (aa.Kind=(2:Int)),h,J⟩ J J
   ·rw [yV hc] at h
    exact rG J J J J<|rG J J J J<|rT J J J<|rN<|ab.stop<|aj.lq [0] ⟨true,h,J⟩ J J
  ·rintro aE ⟨c3,h,rfl⟩
   unfold ow at h
   refine cB h J (fun h=>?_) (fun h=>?_)
   ·refine az<|ae.qv (aA J J .p0 J) J<|ax h fun v4 e2 h=>aH J (Da e2) cR J<|rA J J<|rN<|ab.ret<|?_
    cases h
    exact hP J J
   ·refine tK<|tS<|az<|rF J J J<|rL J J .p0 J J<|ae.qv (bB J) J<|rM J J<|rN<|ab.block<|ab.bO (fun x:Int=>eN self aa x) (fun x aE=>aE=⟨35,[(23,pb aa.Kids),(24,I (aa.Kids.length:Int)),(25,I x)],[]⟩) h ?_ ?_
    ·exact aj.lq [] J J J
    ·intro n6 z1 aE J1 dh h im dN
     obtain rfl:=dh
     replace h:eN self aa n6=some z1:=h
     unfold eN at h
     refine az<|ae.qv (br J J) J<|rN<|tS<|cD h J (fun h=>?_) (fun h=>?_)
     ·refine tK<|tS<|ab.block<|az<|ax h fun v7 e3 h=>ae.qv (aS J J J e3 J (by rw [Query.um];rfl)) J<|ae.qv (aM J J J) J<|bu J J J J fun b8=>ay J J J J .p0 J J<|rN<|az<|ae.qv (aA J J .p0 J) J<|ax h fun v9 e4 h=>aH J (kJ e4) cR J<|rA J J<|rN<|az<|rM J J<|ae.qv (ei J J) J<|rN<|cD h J (fun h=>?_) (fun h=>?_)
      ·refine az<|rM J J<|rA J J<|rN<|ab.ret<|have h:=bx h dN;?_
       cases h
       exact hP J J
      ·refine tK<|ab.bX<|tR<|ae.qv (bf J J) J<|rM J J<|rN<|ab.stop<|?_
       cases h
       exact im _ _ J<|aj.lq [] J J J
     ·refine ab.exit J<|have h:=bx h dN;az<|rA J J<|rN<|ab.ret<|?_
      cases h
      exact hP J J
theorem Bh:∀ (k:Nat) {aa:Query} {r:Int},bT k aa=some r→Pu Tryz.prog 290 [.agg [I aa.Kind,.str aa.Field,.str aa.Op,I aa.Value.Kind,.bool aa.Value.ch,I aa.Value.Number,.str aa.Value.Words,I aa.Version.bP,I aa.Version.bQ,I aa.Version.bL,pb aa.Kids]] (I r):=by
 intro k
 induction k with
 | zero=>intro aa r h;cases h
 | succ k ih=>intro aa r h;exact Ao ih h
theorem Db {aa:Query} {r:Int} (h:vC aa=some r):Pu Tryz.prog 290 [.agg [I aa.Kind,.str aa.Field,.str aa.Op,I aa.Value.Kind,.bool aa.Value.ch,I aa.Value.Number,.str aa.Value.Words,I aa.Version.bP,I aa.Version.bQ,I aa.Version.bL,pb aa.Kids]] (I r):=Bh depth h
theorem Ch {aa:Query} {r:Int} (h:dR aa=some r):Pu Tryz.prog 217 [.agg [I aa.Kind,.str aa.Field,.str aa.Op,I aa.Value.Kind,.bool aa.Value.ch,I aa.Value.Number,.str aa.Value.Words,I aa.Version.bP,I aa.Version.bQ,I aa.Version.bL,pb aa.Kids]] (I r):=by
 unfold dR at h
 refine aI.aZ Tryz.func217 J Tryz.ntmps217 Tryz.results217 J J ?_
 refine az<|cJ J J J J fun b1=>rA J J<|rN<|tS<|az<|ae.qv (aA J J .p0 J) J<|ax h fun v2 e1 h=>aH J (FT e1) cR J<|rM J J<|rX J J J<|rX J J J<|rA J J<|rA J J<|rN<|tS<|ab.cut (fun aE=>∃ (c3:Bool),mO aa c3=some r∧aE=⟨18,[(1,.ptr b1 0),(15,.bool c3)],[(b1,.cells (xL aa))]⟩) ?_ ?_
 ·refine tR<|rM J J<|ae.qv (cS J J) J<|rM J J<|ae.dC J J J (fun hc=>?_) (fun hc=>?_)
  ·rw [yW hc] at h
   exact rM J J<|rY J J J<|ae.qv (cS J J) J<|rE J J J<|rN<|ab.stop<|aj.lq [0] ⟨decide ((20:Int) < v2.2),h,J⟩ J J
  ·rw [yV hc] at h
   exact rG J J J J<|rT J J J<|rN<|ab.stop<|aj.lq [0] ⟨true,h,J⟩ J J
 ·rintro aE ⟨c3,h,rfl⟩
  unfold mO at h
  refine cB h J (fun h=>?_) (fun h=>?_)
  ·refine az<|rA J J<|rN<|ab.ret<|?_
   cases h
   exact hP J J
  ·refine tK<|az<|ae.qv (aA J J .p0 J) J<|ax h fun v4 e2 h=>aH J (Db e2) cR J<|rA J J<|rN<|ab.ret<|?_
   cases h
   exact hP J J
theorem Jc [GI:bD] {aa:List Int} {r:Int} (h:xU aa=some r):Pu Tryz.prog 216 [cC aa] (I r):=by
 unfold xU at h
 refine aI.aZ Tryz.func216 J Tryz.ntmps216 Tryz.results216 J J ?_
 refine az<|rA J J<|rN<|tS<|az<|rM J J<|ae.qv (bB J) J<|rM J J<|rN<|ab.block<|ab.bO (fun x:Int=>tM aa x) (fun x aE=>aE=⟨15,[(5,cC aa),(6,I (aa.length:Int)),(7,I x)],[]⟩) h ?_ ?_
 ·exact aj.lq [] J J J
 ·intro n2 z1 aE J1 dh h im dN
  obtain rfl:=dh
  replace h:tM aa n2=some z1:=h
  unfold tM at h
  refine az<|ae.qv (br J J) J<|rN<|tS<|cD h J (fun h=>?_) (fun h=>?_)
  ·refine tK<|tS<|ab.block<|az<|ax h fun v3 e1 h=>ae.qv (aS J J J e1 J J) J<|ae.qv (aJ J J J) J<|rA J J<|rN<|az<|rM J J<|ae.qv (ei J J) J<|rN<|cD h J (fun h=>?_) (fun h=>?_)
   ·refine az<|rM J J<|rA J J<|rN<|ab.ret<|have h:=bx h dN;?_
    cases h
    exact hP J J
   ·refine tK<|ab.bX<|tR<|ae.qv (bf J J) J<|rM J J<|rN<|ab.stop<|?_
    cases h
    exact im _ _ J<|aj.lq [] J J J
  ·refine ab.exit J<|have h:=bx h dN;az<|rA J J<|rN<|ab.ret<|?_
   cases h
   exact hP J J
theorem G9 [GI:bD] {aa:oM} {r:Bool} (h:qZ aa=r):Pu Tryz.prog 218 [oM.av aa] (.bool r):=by
 unfold qZ at h
 refine aI.aZ Tryz.func218 J Tryz.ntmps218 Tryz.results218 J J ?_
 refine az<|cJ J J J J fun b1=>rA J J<|rN<|tS<|ab.cut (fun aE=>∃ (c2:Bool),sd c2=r∧aE=⟨14,[(2,.bool c2)],[]⟩) ?_ ?_
 ·refine tR<|rF J J J<|rL J J .p0 J J<|rF J J J<|rL J J .p0 J J<|aH J (pc J) cR J<|ae.qv (bF J) J<|rM J J<|ae.guard J J J (fun hc=>?_) (fun hc=>?_)
  ·rw [AD hc] at h
   exact rF J J J<|rY J J J<|rL J J .p0 J J<|rY J J J<|ae.qv (sS J J) J<|rT J J J<|rA J J<|rN<|ab.stop<|aj.lq [] ⟨decide (aa.To≤(345686400000:Int)),h,J⟩ J J
  ·rw [AE hc] at h
   exact rG J J J J<|rG J J J J<|rE J J J<|rA J J<|rN<|ab.stop<|aj.lq [] ⟨false,h,J⟩ J J
 ·rintro aE ⟨c2,h,rfl⟩
  unfold sd at h
  refine ab.ret<|?_
  obtain rfl:=h
  exact hP J J
theorem wh {bn:Bk} {bN:Bk} {cz:Bk} {cM:Bk} {cN:Bk} {dQ:Bk} {aa:aq} {r:Int} (h:eT aa=some r):aI Tryz.prog 140 [.ptr bn 0] [(bn,.cells (tt aa bN cz cM cN dQ)),(bN,ed aa.aT)] (T0 ([(bn,.cells (tt aa bN cz cM cN dQ)),(bN,ed aa.aT)]) (I r)):=by
 unfold eT at h
 refine aI.fD ?_
 refine aI.aZ Tryz.func140 J Tryz.ntmps140 Tryz.results140 J J ?_
 refine az<|rA J J<|rN<|tS<|az<|rM J J<|ae.qv (ba J) J<|rF J J J<|rF J J J<|rL J J .p0 J J<|ae.qv (bB J) J<|ae.qv (cS J J) J<|rN<|cD h J (fun h=>?_) (fun h=>?_)
 ·refine az<|rA J J<|rN<|ab.ret<|?_
  cases h
  exact hH J [0,0] J ⟨J,J⟩
 ·refine tK<|tS<|az<|rM J J<|ae.qv (ba J) J<|rF J J J<|rF J J J<|rL J J .p0 J J<|ae.qv (bB J) J<|rM J J<|rN<|ab.block<|ab.bO (fun x:Int=>fh aa x) (fun x aE=>aE=⟨98,[(0,.ptr bn 0),(17,tq aa.aW.aK),(18,I (aa.aW.aK.length:Int)),(19,I x)],[(bn,.cells (tt aa bN cz cM cN dQ)),(bN,ed aa.aT)]⟩) h ?_ ?_
  ·exact aj.lq [0,0] J J J
  ·intro n2 z1 aE J1 dh h im dN
   obtain rfl:=dh
   replace h:fh aa n2=some z1:=h
   unfold fh at h
   refine az<|ae.qv (br J J) J<|rN<|tS<|cD h J (fun h=>?_) (fun h=>?_)
   ·refine tK<|tS<|ab.block<|az<|rM J J<|ax h fun v3 e1 h=>ae.qv (aS J J J e1 J J) J<|ae.qv (aM J J J) J<|bu J J J J fun b4=>rA J J<|ay J J J J .p0 J J<|rN<|tS<|ab.block<|az<|rF J J J<|rL J J .p0 J J<|ax h fun v5 e2 h=>aH J (lR e2) cR J<|ae.qv (bF J) J<|rA J J<|rN<|cB h J (fun h=>?_) (fun h=>?_)
    ·refine az<|rA J J<|rN<|ab.ret<|have h:=bx h dN;?_
     cases h
     exact hH J [1,1] J ⟨J,J⟩
    ·refine tS<|ab.cut (fun aE=>∃ (c6:Bool),dn aa n2 v3 c6=some z1∧aE=⟨98,[(0,.ptr bn 0),(4,.ptr b4 0),(17,tq aa.aW.aK),(18,I (aa.aW.aK.length:Int)),(19,I n2),(29,.bool c6)],[(bn,.cells (tt aa bN cz cM cN dQ)),(bN,ed aa.aT),(b4,.cells (L7 v3))]⟩) ?_ ?_
     ·refine ab.cA (id:=8) (A:=[0,1,3,7,15,7,39,103,231,487,7,1031,4071,8167,16359,32767,65535,131071]) 18 mixed J (by kernel_rfl) (by kernel_rfl)<|AM.qv (aO J) J<|AM.qv (cS J J) J<|AM.qv (aO J) J<|AM.cq J J J (fun hc=>?_) (fun hc=>?_)
      ·exact have h:=hZ hc h;AM.qv (ar J J) J<|AM.an J J J<|AM.qv (aD J J .p0 J) J<|AM.an J J J<|AM.qv (aO J) J<|AM.an J J J<|AM.qv (ba J) J<|AM.an J J J<|AM.qv (ar J J) J<|AM.an J J J<|AM.qv (ar J J) J<|AM.an J J J<|AM.qv (aD J J .p1 J) J<|AM.an J J J<|AM.qv (aO J) J<|AM.an J J J<|AM.qv (fm J J) J<|AM.an J J J<|ax h fun v7 e3 h=>AM.qv (aS J J J e3 J J) J<|AM.an J J J<|AM.qv (bY J J) J<|AM.an J J J<|AM.qv (aJ J J J) J<|AM.an J J J<|AM.qv (od J J) J<|AM.qv (cQ J J) J<|AM.qv (bR J) J<|AM.nil<|rN<|ab.stop<|aj.lq [1,1,0] ⟨Op.bytesLess v3.Key v7.Key||v3.Key==v7.Key,h,J⟩ J J
      ·exact have h:=wM hc h;AM.al J J J J<|AM.al J J J J<|AM.al J J J J<|AM.al J J J J<|AM.al J J J J<|AM.al J J J J<|AM.al J J J J<|AM.al J J J J<|AM.al J J J J<|AM.al J J J J<|AM.al J J J J<|AM.al J J J J<|AM.qv (eE J J) J<|AM.qv (bR J) J<|AM.nil<|rN<|ab.stop<|aj.lq [1,1,0] ⟨false,h,J⟩ J J
     ·rintro aE ⟨c6,h,rfl⟩
      unfold dn at h
      refine cB h J (fun h=>?_) (fun h=>?_)
      ·refine az<|rA J J<|rN<|ab.ret<|have h:=bx h dN;?_
       cases h
       exact hH J [0,0] J ⟨J,J⟩
      ·refine tS<|ab.cut (fun aE=>∃ (c8:Bool),dm aa n2 v3 c8=some z1∧aE=⟨98,[(0,.ptr bn 0),(4,.ptr b4 0),(17,tq aa.aW.aK),(18,I (aa.aW.aK.length:Int)),(19,I n2),(47,.bool c8)],[(bn,.cells (tt aa bN cz cM cN dQ)),(bN,ed aa.aT),(b4,.cells (L7 v3))]⟩) ?_ ?_
       ·refine tR<|rM J J<|rF J J J<|rL J J .p2 J J<|ax h fun v9 e4 h=>aR J (mx e4) cR (.cons .p0 (.cons .p0 .nil)) J J<|ae.qv (bF J) J<|rM J J<|ae.guard J J J (fun hc=>?_) (fun hc=>?_)
        ·exact have h:=ir hc h;rM J J<|rY J J J<|rF J J J<|rY J J J<|rL J J .p2 J J<|rY J J J<|ax h fun v10 e5 h=>aR J (mx e5) cR (.cons .p0 (.cons .p0 .nil)) J J<|rY J J J<|ae.qv (bF J) J<|rE J J J<|rA J J<|rN<|ab.stop<|aj.lq [0,0,0] ⟨!v10,h,J⟩ J J
        ·exact have h:=hZ hc h;rG J J J J<|rG J J J J<|rG J J J J<|rG J J J J<|rT J J J<|rA J J<|rN<|ab.stop<|aj.lq [0,0,0] ⟨true,h,J⟩ J J
       ·rintro aE ⟨c8,h,rfl⟩
        unfold dm at h
        refine cB h J (fun h=>?_) (fun h=>?_)
        ·refine az<|rA J J<|rN<|ab.ret<|have h:=bx h dN;?_
         cases h
         exact hH J [0,0] J ⟨J,J⟩
        ·refine tS<|ab.cut (fun aE=>∃ (FG:Bool),ct n2 v3 FG=some z1∧aE=⟨98,[(0,.ptr bn 0),(4,.ptr b4 0),(17,tq aa.aW.aK),(18,I (aa.aW.aK.length:Int)),(19,I n2),(60,.bool FG)],[(bn,.cells (tt aa bN cz cM cN dQ)),(bN,ed aa.aT),(b4,.cells (L7 v3))]⟩) ?_ ?_
         ·refine tR<|rF J J J<|rL J J .p2 J J<|rF J J J<|rL J J .p2 J J<|ae.qv (fC J J) J<|rM J J<|gF h J J J (fun h=>?_) (fun h=>?_)
          ·refine rM J J<|rY J J J<|rF J J J<|rY J J J<|rL J J .p2 J J<|rY J J J<|rF J J J<|rY J J J<|rL J J .p2 J J<|rY J J J<|ax h fun v12 e6 h=>aR J (sT e6) cR (.cons .p0 (.cons .p0 .nil)) J J<|rE J J J<|rM J J<|ae.guard J J J (fun hc=>?_) (fun hc=>?_)
           ·exact have h:=ir hc h;rM J J<|rY J J J<|rF J J J<|rY J J J<|rL J J .p2 J J<|rY J J J<|rF J J J<|rY J J J<|rL J J .p2 J J<|rY J J J<|ax h fun ma e7 h=>aR J (sT e7) cR (.cons .p0 (.cons .p0 .nil)) J J<|rE J J J<|rA J J<|rN<|ab.stop<|aj.lq [0,0,0] ⟨ma,h,J⟩ J J
           ·exact have h:=hZ hc h;rG J J J J<|rG J J J J<|rG J J J J<|rG J J J J<|rG J J J J<|rT J J J<|rA J J<|rN<|ab.stop<|aj.lq [0,0,0] ⟨true,h,J⟩ J J
          ·exact rG J J J J<|rG J J J J<|rG J J J J<|rG J J J J<|rG J J J J<|rT J J J<|rM J J<|rG J J J J<|rG J J J J<|rG J J J J<|rG J J J J<|rG J J J J<|rG J J J J<|rT J J J<|rA J J<|rN<|ab.stop<|aj.lq [0,0,0] ⟨true,h,J⟩ J J
         ·rintro aE ⟨FG,h,rfl⟩
          unfold ct at h
          refine cB h J (fun h=>?_) (fun h=>?_)
          ·refine az<|rA J J<|rN<|ab.ret<|have h:=bx h dN;?_
           cases h
           exact hH J [0,0] J ⟨J,J⟩
          ·refine tK<|ab.bX<|tS<|tS<|ab.cA (id:=14) (A:=[0,1,3,0,8,31,63,127,255]) 9 mixed J (by kernel_rfl) (by kernel_rfl)<|AM.qv (ar J J) J<|AM.qv (aY J J .p2 J J) J<|ax h fun rl e8 h=>AM.cT J (Ch e8) cR J<|AM.qv (ar J J) J<|AM.qv (aD J J .p2 J) J<|ax h fun B3 e9 h=>AM.cT J (vJ e9) cR J<|AM.a8 (xs:=([rl,B3]:List Int).map I) J J J J J J<|ax h fun pf Am h=>AM.cT J (Jc Am) cR J<|AM.qv (bR J) J<|AM.nil<|rN<|az<|rM J J<|ae.qv (ei J J) J<|rN<|cD h J (fun h=>?_) (fun h=>?_)
           ·refine az<|rM J J<|rA J J<|rN<|ab.ret<|have h:=bx h dN;?_
            cases h
            exact hH J [0,0] J ⟨J,J⟩
           ·refine tK<|az<|rF J J J<|ae.qv (aY J J .p2 J J) J<|aH J (G9 J) cR J<|ae.qv (bF J) J<|rN<|cB h J (fun h=>?_) (fun h=>?_)
            ·refine az<|rA J J<|rN<|ab.ret<|have h:=bx h dN;?_
             cases h
             exact hH J [0,0] J ⟨J,J⟩
            ·refine tK<|ab.bX<|tR<|ae.qv (bf J J) J<|rM J J<|rN<|ab.stop<|?_
             cases h
             exact im _ _ J<|aj.lq [0,0] J J J
   ·refine ab.exit J<|have h:=bx h dN;az<|rA J J<|rN<|ab.ret<|?_
    cases h
    exact hH J [0,0] J ⟨J,J⟩
theorem gq {aa:aW} {r:(Option aq)×Int} (h:dp aa=some r):aI Tryz.prog 59 [aW.av aa] [] (TM r.1 (T0 ([]) (.pT [.raw (.pointer none),I r.2])) (fun x=>T6 (fun kK FN FO FP FQ FR=>[(kK,.cells (tt x FN FO FP FQ FR)),(FN,ed x.aT),(FO,il x.bU),(FP,j0 x.at_),(FQ,ja x.cr),(FR,oe x.dw)]) (fun kK FN FO FP FQ FR=>.pT [.ptr kK 0,I r.2]))):=by
 unfold dp at h
 refine aI.fD ?_
 refine aI.aZ Tryz.func59 J Tryz.ntmps59 Tryz.results59 J J ?_
 refine az<|cJ J J J J fun b1=>rA J J<|rA J J<|rN<|az<|ae.qv (aA J J .p0 J) J<|ax h fun v2 e1 h=>BZ J (C7 e1) cR .nil (fun _ _ _ _ _ _=>J) J fun b3 b4 b5 b6 b7 b8=>rA J J<|rN<|tS<|az<|rM J J<|ae.ghost<|aj.NU .p0 fun me2 aaO=>aj.here<|ae.qv (wx aaO J) J<|rM J J<|ae.ghost<|aj.NU .p0 fun me4 aaP=>aj.here<|ae.qv (wx aaP J) J<|rM J J<|ae.ghost<|aj.NU .p0 fun me6 aaQ=>aj.here<|ae.qv (wx aaQ J) J<|rM J J<|ae.ghost<|aj.NU .p0 fun me8 aaR=>aj.here<|ae.qv (wx aaR J) J<|aF (xs:=[.raw (.func (.func 137) #[.pointer (some ⟨me2,0,none⟩)] #[]),.raw (.func (.func 138) #[.pointer (some ⟨me4,0,none⟩)] #[]),.raw (.func (.func 139) #[.pointer (some ⟨me6,0,none⟩)] #[]),.raw (.func (.func 140) #[.pointer (some ⟨me8,0,none⟩)] #[])]) J J J J J J<|ae.qv (QV.RB (b:=(4:Int)) (by rfl) (ET J)) J<|rM J J<|rN<|ab.block<|ab.aaI 6<|rV.next<|az<|ae.qv (QV.dT (by decide) (br J J)) J<|rN<|tS<|ab.ER J<|tK<|tS<|ab.block<|az<|ae.qv (rH J J J J J) J<|ae.qv (aJ J J J) J<|rA J J<|rN<|az<|rM J J<|ax h fun v9 Am h=>B1 aaO J J (xz Am) cR (.cons .p0 (.cons .p0 .nil)) J J<|rA J J<|rN<|az<|rM J J<|ae.qv (ei J J) J<|rN<|cD h J (fun h=>?_) (fun h=>?_)
 ·refine az<|rM J J<|rA J J<|rA J J<|rN<|ab.ret<|?_
  cases h
  exact hI J J [] J ⟨J,J⟩
 ·refine tK<|ab.bX<|tR<|ae.qv (av:=I (1:Int)) (QV.RB (by decide) (bf J J)) J<|rM J J<|rN<|ab.stop<|aj.here<|rV.next<|az<|ae.qv (QV.dT (by decide) (br J J)) J<|rN<|tS<|ab.ER J<|tK<|tS<|ab.block<|az<|ae.qv (rH J J J J J) J<|ae.qv (aJ J J J) J<|rA J J<|rN<|az<|rM J J<|ax h fun v10 Bf h=>B1 aaP J J (wU Bf) cR (.cons .p0 .nil) J J<|rA J J<|rN<|az<|rM J J<|ae.qv (ei J J) J<|rN<|cD h J (fun h=>?_) (fun h=>?_)
  ·refine az<|rM J J<|rA J J<|rA J J<|rN<|ab.ret<|?_
   cases h
   exact hI J J [] J ⟨J,J⟩
  ·refine tK<|ab.bX<|tR<|ae.qv (av:=I (2:Int)) (QV.RB (by decide) (bf J J)) J<|rM J J<|rN<|ab.stop<|aj.here<|rV.next<|az<|ae.qv (QV.dT (by decide) (br J J)) J<|rN<|tS<|ab.ER J<|tK<|tS<|ab.block<|az<|ae.qv (rH J J J J J) J<|ae.qv (aJ J J J) J<|rA J J<|rN<|az<|rM J J<|ax h fun v11 GF h=>B1 aaQ J J (vK GF) cR (.cons .p0 (.cons .p0 (.cons .p0 .nil))) J J<|rA J J<|rN<|az<|rM J J<|ae.qv (ei J J) J<|rN<|cD h J (fun h=>?_) (fun h=>?_)
   ·refine az<|rM J J<|rA J J<|rA J J<|rN<|ab.ret<|?_
    cases h
    exact hI J J [] J ⟨J,J⟩
   ·refine tK<|ab.bX<|tR<|ae.qv (av:=I (3:Int)) (QV.RB (by decide) (bf J J)) J<|rM J J<|rN<|ab.stop<|aj.here<|rV.next<|az<|ae.qv (QV.dT (by decide) (br J J)) J<|rN<|tS<|ab.ER J<|tK<|tS<|ab.block<|az<|ae.qv (rH J J J J J) J<|ae.qv (aJ J J J) J<|rA J J<|rN<|az<|rM J J<|ax h fun v12 G5 h=>B1 aaR J J (wh G5) cR (.cons .p0 (.cons .p0 .nil)) J J<|rA J J<|rN<|az<|rM J J<|ae.qv (ei J J) J<|rN<|cD h J (fun h=>?_) (fun h=>?_)
    ·refine az<|rM J J<|rA J J<|rA J J<|rN<|ab.ret<|?_
     cases h
     exact hI J J [] J ⟨J,J⟩
    ·refine tK<|ab.bX<|tR<|ae.qv (av:=I (4:Int)) (QV.RB (by decide) (bf J J)) J<|rM J J<|rN<|ab.stop<|aj.here<|rV.next<|az<|ae.qv (QV.dF (by decide) (br J J)) J<|rN<|tS<|ab.Qq J<|ab.exit J<|az<|rM J J<|rA J J<|rA J J<|rN<|ab.ret<|?_
     cases h
     exact hI J J [0,0,0,0,0,0] J ⟨b3,b4,b5,b6,b7,b8,J,J⟩
theorem Eb {aa:ai} {r:Bool} (h:qg aa=some r):Pu Tryz.prog 331 [.str aa] (.bool r):=by
 unfold qg at h
 refine aI.aZ Tryz.func331 J Tryz.ntmps331 Tryz.results331 J J ?_
 refine az<|rA J J<|rN<|tS<|az<|rM J J<|ae.qv (eS J) J<|rM J J<|rN<|ab.block<|ab.bO (fun x:Int=>fu aa x) (fun x aE=>aE=⟨22,[(0,.str aa),(5,I (aa.length:Int)),(6,I x)],[]⟩) h ?_ ?_
 ·exact aj.lq [] J J J
 ·intro n2 z1 aE J1 dh h im dN
  obtain rfl:=dh
  replace h:fu aa n2=some z1:=h
  unfold fu at h
  refine az<|ae.qv (br J J) J<|rN<|tS<|cD h J (fun h=>?_) (fun h=>?_)
  ·refine tK<|tS<|ab.block<|az<|rM J J<|rA J J<|rN<|tS<|ab.cut (fun aE=>∃ (c3:Bool),mf n2 c3=some z1∧aE=⟨22,[(0,.str aa),(5,I (aa.length:Int)),(6,I n2),(18,.bool c3)],[]⟩) ?_ ?_
   ·refine tR<|rM J J<|rM J J<|ax h fun c4 e1 h=>ae.qv (qX J J e1) J<|ae.qv (br J J) J<|rM J J<|gF h J J J (fun h=>?_) (fun h=>?_)
    ·exact rM J J<|rY J J J<|rM J J<|rY J J J<|ax h fun c5 e2 h=>ae.qv (qX J J e2) J<|rY J J J<|ae.qv (cx J J) J<|rE J J J<|rN<|ab.stop<|aj.lq [] ⟨decide ((c5.toNat:Int)=(127:Int)),h,J⟩ J J
    ·exact rG J J J J<|rG J J J J<|rG J J J J<|rT J J J<|rN<|ab.stop<|aj.lq [] ⟨true,h,J⟩ J J
   ·rintro aE ⟨c3,h,rfl⟩
    unfold mf at h
    refine cB h J (fun h=>?_) (fun h=>?_)
    ·refine az<|rA J J<|rN<|ab.ret<|have h:=bx h dN;?_
     cases h
     exact hP J J
    ·refine tK<|ab.bX<|tR<|ae.qv (bf J J) J<|rM J J<|rN<|ab.stop<|?_
     cases h
     exact im _ _ J<|aj.lq [] J J J
  ·refine ab.exit J<|have h:=bx h dN;?_
   unfold tc at h
   refine az<|rM J J<|ax h fun v6 e3 h=>aH J (mN e3) cR J<|rA J J<|rN<|ab.ret<|?_
   cases h
   exact hP J J
theorem lY [GI:bD] {aa:ai} {ak:ai} {r:Bool} (h:strings_HasPrefix aa ak=some r):Pu Tryz.prog 239 [.str aa,.str ak] (.bool r):=by
 unfold strings_HasPrefix at h
 refine aI.aZ Tryz.func239 J Tryz.ntmps239 Tryz.results239 J J ?_
 refine az<|rA J J<|rN<|az<|rM J J<|rM J J<|ax h fun v1 e1 h=>aH J (lA e1) cR J<|rA J J<|rN<|ab.ret<|?_
 cases h
 exact hP J J
theorem Ap [GI:bD] {aa:ai} {ak:ai} {r:Bool} (h:strings_HasSuffix aa ak=some r):Pu Tryz.prog 332 [.str aa,.str ak] (.bool r):=by
 unfold strings_HasSuffix at h
 refine aI.aZ Tryz.func332 J Tryz.ntmps332 Tryz.results332 J J ?_
 refine az<|rA J J<|rN<|az<|rM J J<|rM J J<|ax h fun v1 e1 h=>aH J (lz e1) cR J<|rA J J<|rN<|ab.ret<|?_
 cases h
 exact hP J J
theorem vL {aa:ai} {ak:ai} {r:Bool} (h:strings_Contains aa ak=some r):Pu Tryz.prog 156 [.str aa,.str ak] (.bool r):=by
 unfold strings_Contains at h
 refine aI.aZ Tryz.func156 J Tryz.ntmps156 Tryz.results156 J J ?_
 refine az<|rA J J<|rN<|az<|rM J J<|rM J J<|ax h fun v1 e1 h=>aH J (D5 e1) cR J<|ae.qv (vn J J) J<|rA J J<|rN<|ab.ret<|?_
 cases h
 exact hP J J
theorem Jd {aa:ai} {r:Bool} (h:vD aa=some r):Pu Tryz.prog 291 [.str aa] (.bool r):=by
 unfold vD at h
 refine aI.aZ Tryz.func291 J Tryz.ntmps291 Tryz.results291 J J ?_
 refine az<|rA J J<|rN<|tS<|ab.cut (fun aE=>∃ (c1:Bool),lL c1=some r∧aE=⟨20,[(2,.bool c1)],[]⟩) ?_ ?_
 ·refine tR<|rM J J<|ax h fun v2 e1 h=>aH J (Eb e1) cR J<|rM J J<|ae.guard J J J (fun hc=>?_) (fun hc=>?_)
  ·refine have h:=hZ hc h;rM J J<|rY J J J<|ax h fun v3 e2 h=>aH J (lY e2) cR J<|rY J J J<|ae.qv (bF J) J<|rT J J J<|rM J J<|ae.guard J J J (fun hc=>?_) (fun hc=>?_)
   ·refine have h:=hZ hc h;rM J J<|rY J J J<|ax h fun v4 e3 h=>aH J (Ap e3) cR J<|rY J J J<|ae.qv (bF J) J<|rT J J J<|rM J J<|ae.guard J J J (fun hc=>?_) (fun hc=>?_)
    ·exact have h:=hZ hc h;rM J J<|rY J J J<|ax h fun v5 e4 h=>aH J (vL e4) cR J<|rY J J J<|ae.qv (bF J) J<|rT J J J<|rA J J<|rN<|ab.stop<|aj.lq [] ⟨!v5,h,J⟩ J J
    ·exact have h:=ir hc h;rG J J J J<|rG J J J J<|rE J J J<|rA J J<|rN<|ab.stop<|aj.lq [] ⟨false,h,J⟩ J J
   ·exact have h:=ir hc h;rG J J J J<|rG J J J J<|rE J J J<|rM J J<|rG J J J J<|rG J J J J<|rG J J J J<|rE J J J<|rA J J<|rN<|ab.stop<|aj.lq [] ⟨false,h,J⟩ J J
  ·exact have h:=ir hc h;rG J J J J<|rG J J J J<|rE J J J<|rM J J<|rG J J J J<|rG J J J J<|rG J J J J<|rE J J J<|rM J J<|rG J J J J<|rG J J J J<|rG J J J J<|rE J J J<|rA J J<|rN<|ab.stop<|aj.lq [] ⟨false,h,J⟩ J J
 ·rintro aE ⟨c1,h,rfl⟩
  unfold lL at h
  refine ab.ret<|?_
  cases h
  exact hP J J
theorem Ec {aa:ai} {r:Bool} (h:qh aa=some r):Pu Tryz.prog 220 [.str aa] (.bool r):=by
 unfold qh at h
 refine aI.aZ Tryz.func220 J Tryz.ntmps220 Tryz.results220 J J ?_
 refine az<|rA J J<|rN<|tS<|ab.cut (fun aE=>∃ (c1:Bool),mg c1=some r∧aE=⟨11,[(2,.bool c1)],[]⟩) ?_ ?_
 ·refine tR<|rM J J<|ae.qv (eS J) J<|aH J (pc J) cR J<|ae.qv (bF J) J<|rM J J<|ae.guard J J J (fun hc=>?_) (fun hc=>?_)
  ·exact have h:=hZ hc h;rM J J<|rY J J J<|ax h fun v2 e1 h=>aH J (Jd e1) cR J<|rT J J J<|rA J J<|rN<|ab.stop<|aj.lq [] ⟨v2,h,J⟩ J J
  ·exact have h:=ir hc h;rG J J J J<|rE J J J<|rA J J<|rN<|ab.stop<|aj.lq [] ⟨false,h,J⟩ J J
 ·rintro aE ⟨c1,h,rfl⟩
  unfold mg at h
  refine ab.ret<|?_
  cases h
  exact hP J J
theorem Je {aa:aL} {r:Int} (h:iC aa=some r):Pu Tryz.prog 142 [aL.av aa] (I r):=by
 unfold iC at h
 refine aI.aZ Tryz.func142 J Tryz.ntmps142 Tryz.results142 J J ?_
 refine az<|cJ J J J J fun b1=>rA J J<|rN<|az<|rF J J J<|ae.qv (aY J J .p0 J J) J<|bu J J J J fun b2=>ay J J J J .p0 J J<|rN<|tS<|ab.block<|tS<|ab.cut (fun aE=>∃ (c3:Bool),iL aa c3=some r∧aE=⟨120,[(1,.ptr b1 0),(3,.ptr b2 0),(10,.bool c3)],[(b1,.cells (DH aa)),(b2,.cells (XB aa.Device))]⟩) ?_ ?_
 ·refine tR<|rF J J J<|rL J J .p0 J J<|ax h fun v4 e1 h=>aH J (lR e1) cR J<|ae.qv (bF J) J<|rM J J<|ae.guard J J J (fun hc=>?_) (fun hc=>?_)
  ·refine have h:=ir hc h;rF J J J<|rY J J J<|rL J J .p0 J J<|rY J J J<|ax h fun v5 e2 h=>aH J (lR e2) cR J<|rY J J J<|ae.qv (bF J) J<|rE J J J<|rM J J<|ae.guard J J J (fun hc=>?_) (fun hc=>?_)
   ·refine have h:=ir hc h;rF J J J<|rY J J J<|rL J J .p0 J J<|rY J J J<|ae.qv (ud J J) J<|rY J J J<|rM J J<|gT h J J J (fun h=>?_) (fun h=>?_)
    ·exact rF J J J<|rY J J J<|rL J J .p0 J J<|rY J J J<|ax h fun v6 e3 h=>aH J (lR e3) cR J<|rY J J J<|ae.qv (bF J) J<|rY J J J<|rT J J J<|rE J J J<|rA J J<|rN<|ab.stop<|aj.lq [1,0] ⟨!v6,h,J⟩ J J
    ·exact rG J J J J<|rG J J J J<|rG J J J J<|rY J J J<|rE J J J<|rE J J J<|rA J J<|rN<|ab.stop<|aj.lq [1,0] ⟨false,h,J⟩ J J
   ·exact have h:=hZ hc h;rG J J J J<|rG J J J J<|rG J J J J<|ae.bz J J J<|ae.bz J J J<|ae.bz J J J<|ae.bz J J J<|rG J J J J<|rT J J J<|rA J J<|rN<|ab.stop<|aj.lq [1,0] ⟨true,h,J⟩ J J
  ·exact have h:=hZ hc h;rG J J J J<|rG J J J J<|rG J J J J<|rT J J J<|rM J J<|rG J J J J<|rG J J J J<|rG J J J J<|rG J J J J<|ae.bz J J J<|ae.bz J J J<|ae.bz J J J<|ae.bz J J J<|rG J J J J<|rT J J J<|rA J J<|rN<|ab.stop<|aj.lq [1,0] ⟨true,h,J⟩ J J
 ·rintro aE ⟨c3,h,rfl⟩
  unfold iL at h
  refine cB h J (fun h=>?_) (fun h=>?_)
  ·refine az<|rA J J<|rN<|ab.ret<|?_
   cases h
   exact hP J J
  ·refine az<|rF J J J<|ae.qv (aY J J .p1 J J) J<|aH J (zm J) cR J<|ae.qv (bF J) J<|rA J J<|rN<|cB h J (fun h=>?_) (fun h=>?_)
   ·refine az<|rA J J<|rN<|ab.ret<|?_
    cases h
    exact hP J J
   ·refine az<|rF J J J<|rL J J .p1 J J<|ae.qv (bB J) J<|ae.qv (cS J J) J<|rA J J<|rN<|cD h J (fun h=>?_) (fun h=>?_)
    ·refine az<|rA J J<|rN<|ab.ret<|?_
     cases h
     exact hP J J
    ·refine tK<|ab.bX<|tS<|az<|rF J J J<|rL J J .p1 J J<|ae.qv (bB J) J<|rM J J<|rN<|ab.block<|ab.bO (fun x:Int=>lN aa x) (fun x aE=>aE=⟨120,[(1,.ptr b1 0),(3,.ptr b2 0),(43,Qf aa.Device.kY),(44,I (aa.Device.kY.length:Int)),(45,I x)],[(b1,.cells (DH aa)),(b2,.cells (XB aa.Device))]⟩) h ?_ ?_
     ·exact aj.lq [0,0] J J J
     ·intro n8 z1 aE J1 dh h im dN
      obtain rfl:=dh
      replace h:lN aa n8=some z1:=h
      unfold lN at h
      refine az<|ae.qv (br J J) J<|rN<|tS<|cD h J (fun h=>?_) (fun h=>?_)
      ·refine tK<|tS<|ab.block<|az<|rM J J<|ax h fun v9 e4 h=>ae.qv (aS J J J e4 J J) J<|ae.qv (aM J J J) J<|bu J J J J fun GH=>rA J J<|ay J J J J .p0 J J<|rN<|ab.block<|az<|rF J J J<|rL J J .p0 J J<|ax h fun v11 e5 h=>aH J (lR e5) cR J<|ae.qv (bF J) J<|rA J J<|rN<|cB h J (fun h=>?_) (fun h=>?_)
       ·refine az<|rA J J<|rN<|ab.ret<|have h:=bx h dN;?_
        cases h
        exact hP J J
       ·refine tS<|ab.cut (fun aE=>∃ (c12:Bool),jK n8 v9 c12=some z1∧aE=⟨120,[(1,.ptr b1 0),(3,.ptr b2 0),(5,.ptr GH 0),(43,Qf aa.Device.kY),(44,I (aa.Device.kY.length:Int)),(45,I n8),(55,.bool c12)],[(b1,.cells (DH aa)),(b2,.cells (XB aa.Device)),(GH,.cells [.str v9.Name,.str v9.Value])]⟩) ?_ ?_
        ·refine ab.cA (id:=13) (A:=[0,1,3,7,15,7,39,7,135,487,999,2023,4095,8191,16383]) 15 mixed J (by kernel_rfl) (by kernel_rfl)<|AM.qv (aO J) J<|AM.qv (cS J J) J<|AM.qv (aO J) J<|AM.cq J J J (fun hc=>?_) (fun hc=>?_)
         ·exact have h:=hZ hc h;AM.qv (ar J J) J<|AM.an J J J<|AM.qv (aD J J .p0 J) J<|AM.an J J J<|AM.qv (ar J J) J<|AM.an J J J<|AM.qv (aD J J .p2 J) J<|AM.an J J J<|AM.qv (aO J) J<|AM.an J J J<|AM.qv (fm J J) J<|AM.an J J J<|ax h fun ma e6 h=>AM.qv (aS J J J e6 J J) J<|AM.an J J J<|AM.qv (bY J J) J<|AM.an J J J<|AM.qv (aJ J J J) J<|AM.an J J J<|AM.qv (od J J) J<|AM.qv (cQ J J) J<|AM.qv (bR J) J<|AM.nil<|rN<|ab.stop<|aj.lq [1,1,0] ⟨Op.bytesLess v9.Name ma.Name||v9.Name==ma.Name,h,J⟩ J J
         ·exact have h:=wM hc h;AM.al J J J J<|AM.al J J J J<|AM.al J J J J<|AM.al J J J J<|AM.al J J J J<|AM.al J J J J<|AM.al J J J J<|AM.al J J J J<|AM.al J J J J<|AM.qv (eE J J) J<|AM.qv (bR J) J<|AM.nil<|rN<|ab.stop<|aj.lq [1,1,0] ⟨false,h,J⟩ J J
        ·rintro aE ⟨c12,h,rfl⟩
         unfold jK at h
         refine cB h J (fun h=>?_) (fun h=>?_)
         ·refine az<|rA J J<|rN<|ab.ret<|have h:=bx h dN;?_
          cases h
          exact hP J J
         ·refine az<|rF J J J<|rL J J .p2 J J<|ax h fun rl e7 h=>aH J (Ec e7) cR J<|ae.qv (bF J) J<|rA J J<|rN<|cB h J (fun h=>?_) (fun h=>?_)
          ·refine az<|rA J J<|rN<|ab.ret<|have h:=bx h dN;?_
           cases h
           exact hP J J
          ·refine tK<|ab.bX<|ab.bX<|tR<|ae.qv (bf J J) J<|rM J J<|rN<|ab.stop<|?_
           cases h
           exact im _ _ J<|aj.lq [0,0] J J J
      ·refine ab.exit J<|have h:=bx h dN;?_
       unfold tO at h
       refine tS<|az<|rF J J J<|rL J J .p0 J J<|ae.qv (bB J) J<|ae.qv (cS J J) J<|rN<|cD h J (fun h=>?_) (fun h=>?_)
       ·refine az<|rA J J<|rN<|ab.ret<|?_
        cases h
        exact hP J J
       ·refine tK<|tS<|az<|rF J J J<|rL J J .p0 J J<|ae.qv (bB J) J<|rM J J<|rN<|ab.block<|ab.bO (fun x:Int=>lM aa x) (fun x aE=>aE=⟨120,[(1,.ptr b1 0),(81,Qg aa.eG),(82,I (aa.eG.length:Int)),(83,I x)],[(b1,.cells (DH aa))]⟩) h ?_ ?_
        ·exact aj.lq [0] J J J
        ·intro n16 z2 aE J2 dh h ya tY
         obtain rfl:=dh
         replace h:lM aa n16=some z2:=h
         unfold lM at h
         refine az<|ae.qv (br J J) J<|rN<|tS<|cD h J (fun h=>?_) (fun h=>?_)
         ·refine tK<|tS<|ab.block<|az<|rM J J<|ax h fun v17 e8 h=>ae.qv (aS J J J e8 J J) J<|ae.qv (aM J J J) J<|bu J J J J fun Jf=>rA J J<|ay J J J J .p0 J J<|rN<|ab.block<|az<|rF J J J<|rL J J .p0 J J<|ax h fun ik e9 h=>aH J (yx e9) cR J<|ae.qv (bF J) J<|rA J J<|rN<|cB h J (fun h=>?_) (fun h=>?_)
          ·refine az<|rA J J<|rN<|ab.ret<|have h:=bx h tY;?_
           cases h
           exact hP J J
          ·refine tS<|ab.cut (fun aE=>∃ (c20:Bool),jL n16 v17 c20=some z2∧aE=⟨120,[(1,.ptr b1 0),(7,.ptr Jf 0),(81,Qg aa.eG),(82,I (aa.eG.length:Int)),(83,I n16),(93,.bool c20)],[(b1,.cells (DH aa)),(Jf,.cells (cE7 v17))]⟩) ?_ ?_
           ·refine ab.cA (id:=25) (A:=[0,1,3,7,15,7,39,7,135,487,999,2023,4095,8191,16383]) 15 mixed J (by kernel_rfl) (by kernel_rfl)<|AM.qv (aO J) J<|AM.qv (cS J J) J<|AM.qv (aO J) J<|AM.cq J J J (fun hc=>?_) (fun hc=>?_)
            ·exact have h:=hZ hc h;AM.qv (ar J J) J<|AM.an J J J<|AM.qv (aD J J .p0 J) J<|AM.an J J J<|AM.qv (ar J J) J<|AM.an J J J<|AM.qv (aD J J .p1 J) J<|AM.an J J J<|AM.qv (aO J) J<|AM.an J J J<|AM.qv (fm J J) J<|AM.an J J J<|ax h fun v21 Am h=>AM.qv (aS J J J Am J J) J<|AM.an J J J<|AM.qv (bY J J) J<|AM.an J J J<|AM.qv (aJ J J J) J<|AM.an J J J<|AM.qv (od J J) J<|AM.qv (cQ J J) J<|AM.qv (bR J) J<|AM.nil<|rN<|ab.stop<|aj.lq [1,0] ⟨Op.bytesLess v17.Name v21.Name||v17.Name==v21.Name,h,J⟩ J J
            ·exact have h:=wM hc h;AM.al J J J J<|AM.al J J J J<|AM.al J J J J<|AM.al J J J J<|AM.al J J J J<|AM.al J J J J<|AM.al J J J J<|AM.al J J J J<|AM.al J J J J<|AM.qv (eE J J) J<|AM.qv (bR J) J<|AM.nil<|rN<|ab.stop<|aj.lq [1,0] ⟨false,h,J⟩ J J
           ·rintro aE ⟨c20,h,rfl⟩
            unfold jL at h
            refine cB h J (fun h=>?_) (fun h=>?_)
            ·refine az<|rA J J<|rN<|ab.ret<|have h:=bx h tY;?_
             cases h
             exact hP J J
            ·refine tS<|ab.cut (fun aE=>∃ (c22:Bool),qj n16 c22=some z2∧aE=⟨120,[(1,.ptr b1 0),(81,Qg aa.eG),(82,I (aa.eG.length:Int)),(83,I n16),(108,.bool c22)],[(b1,.cells (DH aa))]⟩) ?_ ?_
             ·refine tR<|rF J J J<|ae.qv (aY J J .p1 J J) J<|ax h fun v23 Bf h=>aH J (Cg Bf) cR J<|ae.qv (bF J) J<|rM J J<|ae.guard J J J (fun hc=>?_) (fun hc=>?_)
              ·rw [GR hc] at h
               exact rF J J J<|rY J J J<|rF J J J<|rY J J J<|rL J J .p1 J J<|rY J J J<|ae.qv (cx J J) J<|rE J J J<|rA J J<|rN<|ab.stop<|aj.lq [0] ⟨decide (v17.Value.Kind=(0:Int)),h,J⟩ J J
              ·rw [GQ hc] at h
               exact rG J J J J<|rG J J J J<|rG J J J J<|rT J J J<|rA J J<|rN<|ab.stop<|aj.lq [0] ⟨true,h,J⟩ J J
             ·rintro aE ⟨c22,h,rfl⟩
              unfold qj at h
              refine cB h J (fun h=>?_) (fun h=>?_)
              ·refine az<|rA J J<|rN<|ab.ret<|have h:=bx h tY;?_
               cases h
               exact hP J J
              ·refine tK<|ab.bX<|ab.bX<|tR<|ae.qv (bf J J) J<|rM J J<|rN<|ab.stop<|?_
               cases h
               exact ya _ _ J<|aj.lq [0] J J J
         ·refine ab.exit J<|have h:=bx h tY;az<|rA J J<|rN<|ab.ret<|?_
          cases h
          exact hP J J
theorem pN {aa:List aL} {r:Int} (h:ep aa=some r):Pu Tryz.prog 62 [wb aa] (I r):=by
 unfold ep at h
 refine aI.aZ Tryz.func62 J Tryz.ntmps62 Tryz.results62 J J ?_
 refine az<|rA J J<|rN<|tS<|az<|rM J J<|ae.qv (bB J) J<|ae.qv (cS J J) J<|rN<|cD h J (fun h=>?_) (fun h=>?_)
 ·refine az<|rA J J<|rN<|ab.ret<|?_
  cases h
  exact hP J J
 ·refine tK<|tS<|az<|rM J J<|ae.qv (bB J) J<|rM J J<|rN<|ab.block<|ab.bO (fun x:Int=>fJ aa x) (fun x aE=>aE=⟨37,[(0,wb aa),(9,wb aa),(10,I (aa.length:Int)),(11,I x)],[]⟩) h ?_ ?_
  ·exact aj.lq [] J J J
  ·intro n2 z1 aE J1 dh h im dN
   obtain rfl:=dh
   replace h:fJ aa n2=some z1:=h
   unfold fJ at h
   refine az<|ae.qv (br J J) J<|rN<|tS<|cD h J (fun h=>?_) (fun h=>?_)
   ·refine tK<|tS<|ab.block<|az<|rM J J<|ax h fun v3 e1 h=>ae.qv (aS J J J e1 J J) J<|ae.qv (aM J J J) J<|bu J J J J fun b4=>rA J J<|ay J J J J .p0 J J<|rN<|tS<|az<|ae.qv (aA J J .p0 J) J<|ax h fun v5 e2 h=>aH J (Je e2) cR J<|rA J J<|rN<|az<|rM J J<|ae.qv (ei J J) J<|rN<|cD h J (fun h=>?_) (fun h=>?_)
    ·refine az<|rM J J<|rA J J<|rN<|ab.ret<|have h:=bx h dN;?_
     cases h
     exact hP J J
    ·refine tK<|tS<|ab.cut (fun aE=>∃ (c6:Bool),fI n2 c6=some z1∧aE=⟨37,[(0,wb aa),(9,wb aa),(10,I (aa.length:Int)),(11,I n2),(35,.bool c6)],[]⟩) ?_ ?_
     ·refine ab.cA (id:=9) (A:=[0,1,3,7,15,31,7,7,135,455,967,1991,4039,8191,16383]) 15 mixed J (by kernel_rfl) (by kernel_rfl)<|AM.qv (aO J) J<|AM.qv (cS J J) J<|AM.qv (aO J) J<|AM.cq J J J (fun hc=>?_) (fun hc=>?_)
      ·exact have h:=hZ hc h;AM.qv (ar J J) J<|AM.an J J J<|AM.qv (ar J J) J<|AM.an J J J<|AM.qv (aD J J .p0 J) J<|AM.an J J J<|AM.qv (aO J) J<|AM.an J J J<|AM.qv (aO J) J<|AM.an J J J<|AM.qv (fm J J) J<|AM.an J J J<|ax h fun v7 e3 h=>AM.qv (aS J J J e3 J J) J<|AM.an J J J<|AM.qv (bY J J) J<|AM.an J J J<|AM.qv (bY J J) J<|AM.an J J J<|AM.qv (aJ J J J) J<|AM.an J J J<|AM.qv (od J J) J<|AM.qv (cQ J J) J<|AM.nil<|rN<|ab.stop<|aj.lq [] ⟨Op.bytesLess v3.Device.Key v7.Device.Key||v3.Device.Key==v7.Device.Key,h,J⟩ J J
      ·exact have h:=wM hc h;AM.al J J J J<|AM.al J J J J<|AM.al J J J J<|AM.al J J J J<|AM.al J J J J<|AM.al J J J J<|AM.al J J J J<|AM.al J J J J<|AM.al J J J J<|AM.al J J J J<|AM.qv (eE J J) J<|AM.nil<|rN<|ab.stop<|aj.lq [] ⟨false,h,J⟩ J J
     ·rintro aE ⟨c6,h,rfl⟩
      unfold fI at h
      refine cB h J (fun h=>?_) (fun h=>?_)
      ·refine az<|rA J J<|rN<|ab.ret<|have h:=bx h dN;?_
       cases h
       exact hP J J
      ·refine tK<|ab.bX<|tR<|ae.qv (bf J J) J<|rM J J<|rN<|ab.stop<|?_
       cases h
       exact im _ _ J<|aj.lq [] J J J
   ·refine ab.exit J<|have h:=bx h dN;az<|rA J J<|rN<|ab.ret<|?_
    cases h
    exact hP J J
theorem qs [GI:bD] {aa:Int} {r:Bool} (h:iU aa=r):Pu Tryz.prog 66 [I aa] (.bool r):=by
 unfold iU at h
 refine aI.aZ Tryz.func66 J Tryz.ntmps66 Tryz.results66 J J ?_
 refine az<|rA J J<|rN<|az<|rM J J<|aH J (pc J) cR J<|ae.qv (bF J) J<|rA J J<|rN<|ab.ret<|?_
 obtain rfl:=h
 exact hP J J
theorem Ed [GI:bD] {aa:ai} {ak:ai} {r:Bool} (h:nO aa ak=some r):Pu Tryz.prog 198 [.str aa,.str ak] (.bool r):=by
 unfold nO at h
 refine aI.aZ Tryz.func198 J Tryz.ntmps198 Tryz.results198 J J ?_
 refine az<|rA J J<|rN<|az<|rM J J<|ax h fun v1 e1 h=>aH J (lX e1) cR J<|rM J J<|rX J J J<|rX J J J<|rA J J<|rA J J<|rN<|tS<|ab.cut (fun aE=>∃ (c2:Bool),jT c2=some r∧aE=⟨23,[(4,.bool c2)],[]⟩) ?_ ?_
 ·refine tR<|rM J J<|rM J J<|ae.qv (fC J J) J<|rM J J<|gF h J J J (fun h=>?_) (fun h=>?_)
  ·refine rM J J<|rY J J J<|rM J J<|ae.guard J J J (fun hc=>?_) (fun hc=>?_)
   ·exact have h:=hZ hc h;rM J J<|rY J J J<|rM J J<|rY J J J<|ax h fun v3 e2 h=>aH J (lY e2) cR J<|rY J J J<|rT J J J<|rE J J J<|rA J J<|rN<|ab.stop<|aj.lq [] ⟨v3,h,J⟩ J J
   ·exact have h:=ir hc h;rG J J J J<|rG J J J J<|rY J J J<|rE J J J<|rE J J J<|rA J J<|rN<|ab.stop<|aj.lq [] ⟨false,h,J⟩ J J
  ·exact rG J J J J<|ae.bz J J J<|ae.bz J J J<|ae.bz J J J<|rG J J J J<|rT J J J<|rA J J<|rN<|ab.stop<|aj.lq [] ⟨true,h,J⟩ J J
 ·rintro aE ⟨c2,h,rfl⟩
  unfold jT at h
  refine ab.ret<|?_
  cases h
  exact hP J J
theorem Aq [GI:bD] {aa:ai} {ak:ai} {r:Bool} (h:jf aa ak=some r):Pu Tryz.prog 197 [.str aa,.mG [.str ak]] (.bool r):=by
 unfold jf at h
 refine aI.aZ Tryz.func197 J Tryz.ntmps197 Tryz.results197 J J ?_
 refine az<|rA J J<|rN<|az<|rM J J<|ae.qv (aJ J J J) J<|ax h fun v1 e1 h=>aH J (Ed e1) cR J<|rA J J<|rN<|ab.ret<|?_
 cases h
 exact hP J J
theorem sE [GI:bD] {aa:List ai} {iB:ai→Option Bool} {dZ:FuncId} [bh Tryz.prog dZ] {gd:List AV} (mA:∀ {y0:_} {u:Bool},iB y0=some u→Pu Tryz.prog dZ (.str y0 :: gd) (.bool u)) {r:Int} (h:iD aa iB=some r):Pu Tryz.prog 167 [gz aa,.func (.func dZ) gd] (I r):=by
 unfold iD at h
 refine aI.aZ Tryz.func167 J Tryz.ntmps167 Tryz.results167 J J ?_
 refine az<|rA J J<|rN<|tS<|az<|rM J J<|ae.qv (bB J) J<|rM J J<|rN<|ab.block<|ab.bO (fun x:Int=>ew aa iB x) (fun x aE=>aE=⟨19,[(0,gz aa),(1,.func (.func dZ) gd),(7,I (aa.length:Int)),(8,I x)],[]⟩) h ?_ ?_
 ·exact aj.lq [] J J J
 ·intro n2 z1 aE J1 dh h im dN
  obtain rfl:=dh
  replace h:ew aa iB n2=some z1:=h
  unfold ew at h
  refine az<|ae.qv (br J J) J<|rN<|tS<|cD h J (fun h=>?_) (fun h=>?_)
  ·refine tK<|tS<|ab.block<|az<|rM J J<|rA J J<|rN<|az<|rM J J<|rM J J<|rM J J<|ax h fun v3 e1 h=>ae.qv (aS J J J e1 J J) J<|ae.qv (aJ J J J) J<|ax h fun v4 e2 h=>yU J J (mA e2) cR J<|rN<|cB h J (fun h=>?_) (fun h=>?_)
   ·refine az<|rM J J<|rA J J<|rN<|ab.ret<|have h:=bx h dN;?_
    cases h
    exact hP J J
   ·refine tK<|ab.bX<|tR<|ae.qv (bf J J) J<|rM J J<|rN<|ab.stop<|?_
    cases h
    exact im _ _ J<|aj.lq [] J J J
  ·refine ab.exit J<|have h:=bx h dN;az<|rA J J<|rN<|ab.ret<|?_
   cases h
   exact hP J J
theorem bV [GI:bD] {aa:List ai} {iB:ai→Option Bool} {dZ:FuncId} [bh Tryz.prog dZ] {gd:List AV} (mA:∀ {y0:_} {u:Bool},iB y0=some u→Pu Tryz.prog dZ (.str y0 :: gd) (.bool u)) {r:Bool} (h:aV aa iB=some r):Pu Tryz.prog 153 [gz aa,.func (.func dZ) gd] (.bool r):=by
 unfold aV at h
 refine aI.aZ Tryz.func153 J Tryz.ntmps153 Tryz.results153 J J ?_
 refine az<|rA J J<|rN<|az<|rM J J<|rM J J<|ax h fun v1 e1 h=>eF J (sE mA e1) (.cons (.co (.refl _)) (.cons (.co (.refl _)) .nil)) J J<|ae.qv (vn J J) J<|rA J J<|rN<|ab.ret<|?_
 cases h
 exact hP J J
theorem tv [GI:bD] {aa:List ai} {ak:ai} {r:Bool} (h:kC aa ak=some r):Pu Tryz.prog 130 [gz aa,.str ak] (.bool r):=by
 unfold kC at h
 refine aI.aZ Tryz.func130 J Tryz.ntmps130 Tryz.results130 J J ?_
 refine az<|cJ J J J J fun b1=>rA J J<|rN<|az<|rM J J<|ae.qv (iv J) J<|ax h fun v2 e1 h=>eF J (bV (fun e=>Aq e) e1) (.cons (.co (.refl _)) (.cons (.xf _ _ _ (.cons (.BM _ _ _ .p0 (.cons (.co (.refl _)) .nil)) .nil)) .nil)) J J<|rA J J<|rN<|ab.ret<|?_
 cases h
 exact hP J J
theorem sU [GI:bD] {bn:Bk} {bN:Bk} {cz:Bk} {cM:Bk} {cN:Bk} {dQ:Bk} {aa:aq} {ak:ai} {aP:ai} {r:(List Int)×aq} (h:hC aa ak aP=some r):aI Tryz.prog 128 [.ptr bn 0,.str ak,.str aP] [(bn,.cells (tt aa bN cz cM cN dQ)),(bN,ed aa.aT),(cz,il aa.bU),(cM,j0 aa.at_),(cN,ja aa.cr)] (T0 ([(bn,.cells [wa r.2.aW.ao,yw r.2.aW.bd,w9 r.2.aW.aG,tq r.2.aW.aK,.bC bN,.bC cz,.bC cM,.bC cN,.bC dQ]),(bN,ed r.2.aT),(cz,il r.2.bU),(cM,j0 r.2.at_),(cN,ja r.2.cr)]) (cC r.1)):=by
 unfold hC at h
 refine aI.fD ?_
 refine aI.aZ Tryz.func128 J Tryz.ntmps128 Tryz.results128 J J ?_
 refine az<|rA J J<|rN<|tS<|az<|rM J J<|ae.qv (ba J) J<|rF J J J<|rL J J .p0 J J<|rM J J<|rM J J<|ae.qv (bq J J J J J) J<|ax h fun v1 e1 h=>ae.qv (Fy (gk:=aN.av) (gv:=(A6 1 I)) (M:=aa.cr) (key:=(⟨ak,aP⟩:aN)) (Z:=[]) J J .p4 J J e1 J) J<|rM J J<|rX J J J<|rX J J J<|rA J J<|rA J J<|rN<|az<|rM J J<|rN<|cB h J (fun h=>?_) (fun h=>?_)
 ·refine az<|rM J J<|rA J J<|rN<|ab.ret<|?_
  cases h
  exact hH J [0,0,0,0,0] J ⟨J,J⟩
 ·refine tK<|az<|rA J J<|rN<|tS<|az<|rM J J<|rM J J<|ax h fun v2 e2 h=>fV J (mW e2) cR (.cons .p0 (.cons .p0 .nil)) (fun _=>J) J fun b3=>ae.qv (iu J) J<|rM J J<|rN<|ab.block<|ab.bO (fun x:(List Int)×Int=>cZ aa ak aP v2 x.1 x.2) (fun x aE=>∃ (b7:Bk),aE=⟨77,[(0,.ptr bn 0),(1,.str ak),(2,.str aP),(9,.sl 1 b7 0 x.1.length),(29,.sl 1 b3 0 v2.length),(30,I (v2.length:Int)),(31,I x.2)],[(bn,.cells (tt aa bN cz cM cN dQ)),(bN,ed aa.aT),(cz,il aa.bU),(cM,j0 aa.at_),(cN,ja aa.cr),(b7,MU x.1),(b3,vF v2)]⟩) h ?_ ?_
  ·exact aj.arr (s:=9) 1 J fun GH=>aj.lq [1,1,2,2,2,0,0] ⟨GH,J⟩ J J
  ·intro x z1 aE J1 dh h im dN
   obtain ⟨l8,n9⟩:=x
   obtain ⟨b7,rfl⟩:=dh
   replace h:cZ aa ak aP v2 l8 n9=some z1:=h
   unfold cZ at h
   refine az<|ae.qv (br J J) J<|rN<|tS<|cD h J (fun h=>?_) (fun h=>?_)
   ·refine tK<|tS<|ab.block<|az<|ax h fun v11 e3 h=>ae.qv (jk J J J e3) J<|ae.qv (iO (g:=AV.str) J J (.inl .p6) e3 J) J<|rA J J<|rN<|az<|rM J J<|ae.qv (ba J) J<|rF J J J<|rL J J .p0 J J<|rM J J<|ax h fun v12 e4 h=>ae.qv (HP (gk:=AV.str) (gv:=(A6 1 I)) (M:=aa.at_) (key:=v11) (Z:=[]) J J .p3 J J e4 J) J<|ae.qv (bB J) J<|rM J J<|rN<|ab.block<|ab.bO (fun x:(List Int)×Int=>cY aa ak n9 v12 x.1 x.2) (fun x aE=>∃ (Oa:Bk),aE=⟨77,[(0,.ptr bn 0),(1,.str ak),(2,.str aP),(9,.sl 1 Oa 0 x.1.length),(29,.sl 1 b3 0 v2.length),(30,I (v2.length:Int)),(31,I n9),(40,cC v12),(41,I (v12.length:Int)),(42,I x.2)],[(bn,.cells (tt aa bN cz cM cN dQ)),(bN,ed aa.aT),(cz,il aa.bU),(cM,j0 aa.at_),(cN,ja aa.cr),(Oa,MU x.1),(b3,vF v2)]⟩) h ?_ ?_
    ·exact aj.lq [0,0,0,0,0,0,0] ⟨b7,J⟩ J J
    ·intro x z2 aE J2 dh h ya tY
     obtain ⟨Bb,n18⟩:=x
     obtain ⟨Oa,rfl⟩:=dh
     replace h:cY aa ak n9 v12 Bb n18=some z2:=h
     unfold cY at h
     refine az<|ae.qv (br J J) J<|rN<|tS<|cD h J (fun h=>?_) (fun h=>?_)
     ·refine tK<|tS<|ab.block<|az<|ax h fun ik e5 h=>ae.qv (aS J J J e5 J J) J<|ae.qv (aJ J J J) J<|rA J J<|rN<|tS<|ab.cA (id:=11) (A:=[0,1,3,7,0,16,48,112,240,0,1008,2032,4080,8191,0,32767]) 16 mixed J (by kernel_rfl) (by kernel_rfl)<|AM.qv (aO J) J<|AM.qv (ba J) J<|AM.qv (ar J J) J<|AM.qv (aD J J .p0 J) J<|AM.qv (aO J) J<|AM.qv (ba J) J<|AM.qv (ar J J) J<|AM.qv (ar J J) J<|AM.qv (aD J J .p0 J) J<|AM.qv (aO J) J<|ax h fun v20 e6 h=>AM.qv (aS J J J e6 J J) J<|AM.qv (bY J J) J<|AM.qv (aJ J J J) J<|ax h fun v21 e7 h=>AM.qv (HP (gk:=AV.str) (gv:=(A6 1 AV.str)) (M:=aa.bU) (key:=v20.bH) (Z:=[]) J J .p2 J J e7 J) J<|AM.qv (aO J) J<|ax h fun v22 e8 h=>AM.cT J (tv e8) cR J<|AM.nil<|rN<|ab.cut (fun aE=>∃ (Qh:Bk) (wy:List Int),gH n18 wy=some z2∧aE=⟨77,[(0,.ptr bn 0),(1,.str ak),(2,.str aP),(9,.sl 1 Qh 0 wy.length),(29,.sl 1 b3 0 v2.length),(30,I (v2.length:Int)),(31,I n9),(40,cC v12),(41,I (v12.length:Int)),(42,I n18)],[(bn,.cells (tt aa bN cz cM cN dQ)),(bN,ed aa.aT),(cz,il aa.bU),(cM,j0 aa.at_),(cN,ja aa.cr),(Qh,MU wy),(b3,vF v2)]⟩) ?_ ?_
      ·refine cB h J (fun h=>?_) (fun h=>?_)
       ·exact tR<|rM J J<|rM J J<|aF (xs:=([ik]:List Int).map I) J J J J J J<|ax h fun MH e9 h=>cU (g:=I) J J J J J J J J (.list _) e9 (fun _=>.p5) J fun La=>rA J J<|rN<|ab.stop<|aj.lq [0,0,0,0,0,0,0] ⟨La,MH,h,J⟩ J J
       ·exact tK<|ab.stop<|aj.lq [0,0,0,0,0,0,0] ⟨Oa,Bb,h,J⟩ J J
      ·rintro aE ⟨Qh,wy,h,rfl⟩
       unfold gH at h
       refine ab.bX<|tR<|ae.qv (bf J J) J<|rM J J<|rN<|ab.stop<|?_
       cases h
       exact ya _ _ J<|aj.lq [0,0,0,0,0,0,0] ⟨Qh,J⟩ J J
     ·refine ab.exit J<|have h:=bx h tY;ab.bX<|tR<|ae.qv (bf J J) J<|rM J J<|rN<|ab.stop<|?_
      cases h
      exact im _ _ J<|aj.lq [0,0,0,0,0,0,0] ⟨Oa,J⟩ J J
   ·refine ab.exit J<|have h:=bx h dN;az<|rM J J<|ae.qv (ba J) J<|rF J J J<|rL J J .p0 J J<|rM J J<|rM J J<|ae.qv (bq J J J J J) J<|rM J J<|ae.ghost<|aj.freeze .p5<|aj.here<|ae.ghost<|aj.cox (s:=75) (rz:=cC l8) J (.co (Co.Ah .p5))<|aj.here<|uk (gk:=aN.av) (gv:=(A6 1 I)) (M:=aa.cr) (key:=(⟨ak,aP⟩:aN)) (v:=l8) J J J J .p4<|rN<|az<|rM J J<|rA J J<|rN<|ab.ret<|?_
    cases h
    exact aj.co (s:=6) J (Co.Ah .p5)<|aj.here ⟨_,.cons (.tmp _ _ J) .nil,_,.cons .p0 (.cons .p0 (.cons .p0 (.cons .p0 (.cons .p0 .nil)))),⟨J,J⟩⟩
theorem u9 [GI:bD] {aa:ai} {r:bA} (h:td aa=r):Pu Tryz.prog 282 [.str aa] (bA.av r):=by
 unfold td at h
 refine aI.aZ Tryz.func282 J Tryz.ntmps282 Tryz.results282 J J ?_
 refine az<|bu J J J J fun b1=>rN<|az<|rM J J<|ae.qv (bq J J J J J) J<|ae.qv (bq J J J J J) J<|ay J J J J .p0 J J<|rN<|ab.ret<|?_
 obtain rfl:=h
 exact aj.here ⟨_,.cons (.all _ _ _ _ _ _ J .p0 aC.h aU.h J J) .nil,J⟩
theorem Ld [GI:bD] {aa:aL} {ak:ai} {r:bA} (h:re aa ak=some r):Pu Tryz.prog 201 [aL.av aa,.str ak] (bA.av r):=by
 unfold re at h
 refine aI.aZ Tryz.func201 J Tryz.ntmps201 Tryz.results201 J J ?_
 refine az<|cJ J J J J fun b1=>bu J J J J fun b2=>rN<|tS<|az<|rM J J<|rN<|ab.block<|az<|ae.qv (fC J J) J<|rA J J<|rN<|cD h J (fun h=>?_) (fun h=>?_)
 ·refine az<|rF J J J<|rF J J J<|rL J J .p1 J J<|aH J (u9 J) cR J<|ay J J J J .p0 J J<|rN<|ab.ret<|?_
  cases h
  exact aj.here ⟨_,.cons (.all _ _ _ _ _ _ J .p0 aC.h aU.h J J) .nil,J⟩
 ·refine az<|ae.qv (fC J J) J<|rA J J<|rN<|cD h J (fun h=>?_) (fun h=>?_)
  ·refine az<|rF J J J<|rF J J J<|rL J J .p1 J J<|aH J (u9 J) cR J<|ay J J J J .p0 J J<|rN<|ab.ret<|?_
   cases h
   exact aj.here ⟨_,.cons (.all _ _ _ _ _ _ J .p0 aC.h aU.h J J) .nil,J⟩
  ·refine az<|ae.qv (fC J J) J<|rA J J<|rN<|cD h J (fun h=>?_) (fun h=>?_)
   ·refine az<|rF J J J<|rF J J J<|rL J J .p1 J J<|aH J (u9 J) cR J<|ay J J J J .p0 J J<|rN<|ab.ret<|?_
    cases h
    exact aj.here ⟨_,.cons (.all _ _ _ _ _ _ J .p0 aC.h aU.h J J) .nil,J⟩
   ·refine az<|ae.qv (fC J J) J<|rA J J<|rN<|cD h J (fun h=>?_) (fun h=>?_)
    ·refine az<|rF J J J<|rF J J J<|ae.qv (aY J J .p1 J J) J<|ae.qv (bq J J J J J) J<|ay J J J J .p0 J J<|rN<|ab.ret<|?_
     cases h
     exact aj.here ⟨_,.cons (.all _ _ _ _ _ _ J .p0 aC.h aU.h J J) .nil,J⟩
    ·refine tK<|ab.bX<|tS<|az<|rM J J<|ax h fun v3 e1 h=>aH J (jA e1) cR J<|rM J J<|rX J J J<|rX J J J<|rA J J<|rA J J<|rN<|az<|rM J J<|rN<|cB h J (fun h=>?_) (fun h=>?_)
     ·refine tS<|az<|rF J J J<|rF J J J<|rL J J .p1 J J<|ae.qv (bB J) J<|rM J J<|rN<|ab.block<|ab.bO (fun x:Int=>jC aa v3 x) (fun x aE=>aE=⟨76,[(4,.ptr b2 0),(5,.str v3.1),(44,Qf aa.Device.kY),(45,I (aa.Device.kY.length:Int)),(46,I x)],[(b2,.cells [.bool false,I (0:Int),.bool false,I (0:Int),.str [],I (0:Int),I (0:Int),I (0:Int)])]⟩) h ?_ ?_
      ·exact aj.lq [0] J J J
      ·intro n5 z1 aE J1 dh h im dN
       obtain rfl:=dh
       replace h:jC aa v3 n5=some z1:=h
       unfold jC at h
       refine az<|ae.qv (br J J) J<|rN<|tS<|cD h J (fun h=>?_) (fun h=>?_)
       ·refine tK<|tS<|ab.block<|az<|ax h fun v6 e2 h=>ae.qv (aS J J J e2 J J) J<|ae.qv (aM J J J) J<|bu J J J J fun b7=>ay J J J J .p0 J J<|rN<|az<|rF J J J<|rL J J .p0 J J<|rM J J<|ae.qv (fC J J) J<|rN<|cD h J (fun h=>?_) (fun h=>?_)
        ·refine az<|rF J J J<|rL J J .p0 J J<|aH J (u9 J) cR J<|ay J J J J .p1 J J<|rN<|ab.ret<|have h:=bx h dN;?_
         cases h
         exact aj.here ⟨_,.cons (.all _ _ _ _ _ _ J .p1 aC.h aU.h J J) .nil,J⟩
        ·refine tK<|ab.bX<|tR<|ae.qv (bf J J) J<|rM J J<|rN<|ab.stop<|?_
         cases h
         exact im _ _ J<|aj.lq [1] J J J
       ·refine ab.exit J<|have h:=bx h dN;az<|ae.qv (bq J J J J J) J<|ay J J J J .p0 J J<|rN<|ab.ret<|?_
        cases h
        exact aj.here ⟨_,.cons (.all _ _ _ _ _ _ J .p0 aC.h aU.h J J) .nil,J⟩
     ·refine tK<|tS<|az<|rF J J J<|rL J J .p1 J J<|ae.qv (bB J) J<|rM J J<|rN<|ab.block<|ab.bO (fun x:Int=>jD aa ak x) (fun x aE=>aE=⟨76,[(1,.str ak),(4,.ptr b2 0),(60,Qg aa.eG),(61,I (aa.eG.length:Int)),(62,I x)],[(b2,.cells [.bool false,I (0:Int),.bool false,I (0:Int),.str [],I (0:Int),I (0:Int),I (0:Int)])]⟩) h ?_ ?_
      ·exact aj.lq [0] J J J
      ·intro n9 z2 aE J2 dh h ya tY
       obtain rfl:=dh
       replace h:jD aa ak n9=some z2:=h
       unfold jD at h
       refine az<|ae.qv (br J J) J<|rN<|tS<|cD h J (fun h=>?_) (fun h=>?_)
       ·refine tK<|tS<|ab.block<|az<|ax h fun v10 e3 h=>ae.qv (aS J J J e3 J J) J<|ae.qv (aM J J J) J<|bu J J J J fun Bg=>ay J J J J .p0 J J<|rN<|az<|rF J J J<|rL J J .p0 J J<|ax h fun Xv e4 h=>ae.qv (MB e4 J J) J<|rM J J<|ae.qv (fC J J) J<|rN<|cD h J (fun h=>?_) (fun h=>?_)
        ·refine az<|rF J J J<|ae.qv (aY J J .p0 J J) J<|ae.qv (bq J J J J J) J<|ay J J J J .p1 J J<|rN<|ab.ret<|have h:=bx h tY;?_
         cases h
         exact aj.here ⟨_,.cons (.all _ _ _ _ _ _ J .p1 aC.h aU.h J J) .nil,J⟩
        ·refine tK<|ab.bX<|tR<|ae.qv (bf J J) J<|rM J J<|rN<|ab.stop<|?_
         cases h
         exact ya _ _ J<|aj.lq [1] J J J
       ·refine ab.exit J<|have h:=bx h tY;az<|ae.qv (bq J J J J J) J<|ay J J J J .p0 J J<|rN<|ab.ret<|?_
        cases h
        exact aj.here ⟨_,.cons (.all _ _ _ _ _ _ J .p0 aC.h aU.h J J) .nil,J⟩
theorem Ci [GI:bD] {aa:ai} {ak:aL} {r:bA} (h:nw aa ak=some r):Pu Tryz.prog 200 [.str aa,.mG [.str ak.Device.Key,.str ak.Device.Model,.str ak.Device.au,I ak.Device.ff.bP,I ak.Device.ff.bQ,I ak.Device.ff.bL,Qf ak.Device.kY,Qg ak.eG]] (bA.av r):=by
 unfold nw at h
 refine aI.aZ Tryz.func200 J Tryz.ntmps200 Tryz.results200 J J ?_
 refine az<|bu J J J J fun b1=>rN<|az<|ae.qv (aM J J J) J<|rM J J<|ax h fun v2 e1 h=>aH J (Ld e1) cR J<|ay J J J J .p0 J J<|rN<|ab.ret<|?_
 cases h
 exact aj.here ⟨_,.cons (.all _ _ _ _ _ _ J .p0 aC.h aU.h J J) .nil,J⟩
theorem yy [GI:bD] {aa:Int} {r:Bool} (h:cmp_isNaN_int aa=r):Pu Tryz.prog 134 [I aa] (.bool r):=by
 unfold cmp_isNaN_int at h
 refine aI.aZ Tryz.func134 J Tryz.ntmps134 Tryz.results134 J J ?_
 refine az<|rA J J<|rN<|az<|rM J J<|rM J J<|ae.qv (ei J J) J<|rA J J<|rN<|ab.ret<|?_
 obtain rfl:=h
 exact hP J J
theorem eR [GI:bD] {aa:Int} {ak:Int} {r:Int} (h:cmp_Compare_int aa ak=r):Pu Tryz.prog 57 [I aa,I ak] (I r):=by
 unfold cmp_Compare_int at h
 refine aI.aZ Tryz.func57 J Tryz.ntmps57 Tryz.results57 J J ?_
 refine az<|rA J J<|rN<|az<|rM J J<|aH J (yy J) cR J<|rA J J<|rN<|az<|rM J J<|aH J (yy J) cR J<|rA J J<|rN<|tS<|az<|rM J J<|rN<|cB h J (fun h=>?_) (fun h=>?_)
 ·refine tS<|az<|rM J J<|rN<|cB h J (fun h=>?_) (fun h=>?_)
  ·refine az<|rA J J<|rN<|ab.ret<|?_
   obtain rfl:=h
   exact hP J J
  ·refine tK<|az<|rA J J<|rN<|ab.ret<|?_
   obtain rfl:=h
   exact hP J J
 ·refine tK<|tS<|az<|rM J J<|rN<|cB h J (fun h=>?_) (fun h=>?_)
  ·refine az<|rA J J<|rN<|ab.ret<|?_
   obtain rfl:=h
   exact hP J J
  ·refine tK<|tS<|az<|rM J J<|rM J J<|ae.qv (br J J) J<|rN<|cD h J (fun h=>?_) (fun h=>?_)
   ·refine az<|rA J J<|rN<|ab.ret<|?_
    obtain rfl:=h
    exact hP J J
   ·refine tK<|tS<|az<|rM J J<|rM J J<|ae.qv (cS J J) J<|rN<|cD h J (fun h=>?_) (fun h=>?_)
    ·refine az<|rA J J<|rN<|ab.ret<|?_
     obtain rfl:=h
     exact hP J J
    ·refine tK<|az<|rA J J<|rN<|ab.ret<|?_
     obtain rfl:=h
     exact hP J J
theorem yc [GI:bD] {aa:Version} {ak:Version} {r:Int} (h:iV aa ak=some r):Pu Tryz.prog 326 [Version.av aa,Version.av ak] (I r):=by
 unfold iV at h
 refine aI.aZ Tryz.func326 J Tryz.ntmps326 Tryz.results326 J J ?_
 refine az<|cJ J J J J fun b1=>cJ J J J J fun b2=>rA J J<|rN<|tS<|ab.cA (id:=1) (A:=[0,1,0,4,15,0,32,0,128,511,0,1024,0,4096,16383,32767,65535,131071]) 18 mixed J (by kernel_rfl) (by kernel_rfl)<|AM.qv (ar J J) J<|AM.qv (aD J J .p1 J) J<|AM.qv (ar J J) J<|AM.qv (aD J J .p0 J) J<|AM.cT J (eR J) cR J<|AM.qv (ar J J) J<|AM.qv (aD J J .p1 J) J<|AM.qv (ar J J) J<|AM.qv (aD J J .p0 J) J<|AM.cT J (eR J) cR J<|AM.qv (ar J J) J<|AM.qv (aD J J .p1 J) J<|AM.qv (ar J J) J<|AM.qv (aD J J .p0 J) J<|AM.cT J (eR J) cR J<|AM.a8 (xs:=([(cmp_Compare_int aa.bP ak.bP),(cmp_Compare_int aa.bQ ak.bQ),(cmp_Compare_int aa.bL ak.bL)]:List Int).map I) J J J J J J<|ax h fun v3 e1 h=>AM.cT J (mX e1) cR J<|AM.qv (bR J) J<|AM.nil<|rN<|ab.ret<|?_
 cases h
 exact hP J J
theorem Ee [GI:bD] {aa:Query} {ak:bA} {r:Bool} (h:qk aa ak=some r):Pu Tryz.prog 281 [.agg [I aa.Kind,.str aa.Field,.str aa.Op,I aa.Value.Kind,.bool aa.Value.ch,I aa.Value.Number,.str aa.Value.Words,I aa.Version.bP,I aa.Version.bQ,I aa.Version.bL,pb aa.Kids],bA.av ak] (.bool r):=by
 unfold qk at h
 refine aI.aZ Tryz.func281 J Tryz.ntmps281 Tryz.results281 J J ?_
 refine az<|cJ J J J J fun b1=>cJ J J J J fun b2=>rA J J<|rN<|tS<|tS<|ab.cut (fun aE=>∃ (c3:Bool),iE aa ak c3=some r∧aE=⟨69,[(2,.ptr b1 0),(3,.ptr b2 0),(17,.bool c3)],[(b1,.cells (xL aa)),(b2,.cells [.bool ak.Is,I ak.Value.Kind,.bool ak.Value.ch,I ak.Value.Number,.str ak.Value.Words,I ak.Version.bP,I ak.Version.bQ,I ak.Version.bL])]⟩) ?_ ?_
 ·refine tR<|rF J J J<|rL J J .p0 J J<|ae.qv (bF J) J<|rM J J<|ae.guard J J J (fun hc=>?_) (fun hc=>?_)
  ·rw [GR hc] at h
   exact rF J J J<|rY J J J<|rF J J J<|rY J J J<|rL J J .p0 J J<|rY J J J<|rF J J J<|rY J J J<|rF J J J<|rY J J J<|rL J J .p1 J J<|rY J J J<|ae.qv (ei J J) J<|rE J J J<|rN<|ab.stop<|aj.lq [1,0] ⟨decide (ak.Value.Kind≠aa.Value.Kind),h,J⟩ J J
  ·rw [GQ hc] at h
   exact rG J J J J<|rG J J J J<|rG J J J J<|rG J J J J<|rG J J J J<|rG J J J J<|rT J J J<|rN<|ab.stop<|aj.lq [1,0] ⟨true,h,J⟩ J J
 ·rintro aE ⟨c3,h,rfl⟩
  unfold iE at h
  refine cB h J (fun h=>?_) (fun h=>?_)
  ·refine az<|rA J J<|rN<|ab.ret<|?_
   cases h
   exact hP J J
  ·refine tK<|az<|rA J J<|rN<|tS<|ab.block<|az<|rF J J J<|rL J J .p0 J J<|ae.qv (fC J J) J<|rA J J<|rN<|ab.cut (fun aE=>∃ (n4:Int),jU aa n4=some r∧aE=⟨69,[(2,.ptr b1 0),(5,I n4)],[(b1,.cells (xL aa))]⟩) ?_ ?_
   ·refine cD h J (fun h=>?_) (fun h=>?_)
    ·exact tR<|rF J J J<|ae.qv (aY J J .p1 J J) J<|rF J J J<|ae.qv (aY J J .p0 J J) J<|ax h fun v5 e1 h=>aH J (yc e1) cR J<|rA J J<|rN<|ab.stop<|aj.lq [0] ⟨v5,h,J⟩ J J
    ·refine az<|rF J J J<|rF J J J<|rL J J .p1 J J<|ae.qv (cx J J) J<|rA J J<|rN<|ab.cut (fun aE=>∃ (n6:Int),jV aa n6=some r∧aE=⟨69,[(2,.ptr b1 0),(5,I n6)],[(b1,.cells (xL aa))]⟩) ?_ ?_
     ·refine cD h J (fun h=>?_) (fun h=>?_)
      ·exact tR<|rF J J J<|rF J J J<|rL J J .p1 J J<|rF J J J<|rF J J J<|rL J J .p0 J J<|aH J (eR J) cR J<|rA J J<|rN<|ab.stop<|aj.lq [0] ⟨(cmp_Compare_int ak.Value.Number aa.Value.Number),h,J⟩ J J
      ·refine az<|rF J J J<|ae.qv (aY J J .p1 J J) J<|rF J J J<|ae.qv (aY J J .p0 J J) J<|ae.qv (AF (g:=bg.av) (X:=ak.Value) (Y:=aa.Value) J J J J J) J<|rA J J<|rN<|ab.cut (fun aE=>∃ (n7:Int),mh aa n7=some r∧aE=⟨69,[(2,.ptr b1 0),(5,I n7)],[(b1,.cells (xL aa))]⟩) ?_ ?_
       ·refine cD h J (fun h=>?_) (fun h=>?_)
        ·exact tR<|rA J J<|rN<|ab.stop<|aj.lq [0] ⟨(1:Int),h,J⟩ J J
        ·exact tK<|ab.stop<|aj.lq [0] ⟨(0:Int),h,J⟩ J J
       ·rintro aE ⟨n7,h,rfl⟩
        unfold mh at h
        exact ab.stop<|aj.lq [0] ⟨n7,h,J⟩ J J
     ·rintro aE ⟨n6,h,rfl⟩
      unfold jV at h
      exact ab.stop<|aj.lq [0] ⟨n6,h,J⟩ J J
   ·rintro aE ⟨n4,h,rfl⟩
    unfold jU at h
    refine ab.bX<|tS<|az<|rF J J J<|rL J J .p0 J J<|rN<|ab.block<|az<|ae.qv (fC J J) J<|rA J J<|rN<|cD h J (fun h=>?_) (fun h=>?_)
    ·refine az<|rM J J<|ae.qv (cx J J) J<|rA J J<|rN<|ab.ret<|?_
     cases h
     exact hP J J
    ·refine az<|ae.qv (fC J J) J<|rA J J<|rN<|cD h J (fun h=>?_) (fun h=>?_)
     ·refine az<|rM J J<|ae.qv (ei J J) J<|rA J J<|rN<|ab.ret<|?_
      cases h
      exact hP J J
     ·refine az<|ae.qv (fC J J) J<|rA J J<|rN<|cD h J (fun h=>?_) (fun h=>?_)
      ·refine az<|rM J J<|ae.qv (br J J) J<|rA J J<|rN<|ab.ret<|?_
       cases h
       exact hP J J
      ·refine az<|ae.qv (fC J J) J<|rA J J<|rN<|cD h J (fun h=>?_) (fun h=>?_)
       ·refine az<|rM J J<|ae.qv (sS J J) J<|rA J J<|rN<|ab.ret<|?_
        cases h
        exact hP J J
       ·refine az<|ae.qv (fC J J) J<|rA J J<|rN<|cD h J (fun h=>?_) (fun h=>?_)
        ·refine az<|rM J J<|ae.qv (cS J J) J<|rA J J<|rN<|ab.ret<|?_
         cases h
         exact hP J J
        ·refine tK<|ab.bX<|az<|rM J J<|ae.qv (vn J J) J<|rA J J<|rN<|ab.ret<|?_
         cases h
         exact hP J J
theorem Cj [GI:bD] {self:Query→(ai→Option bA)→Option Bool} (kJ:∀ {aa:Query} {iB:ai→Option bA} {dZ:FuncId} [bh Tryz.prog dZ] {gd:List AV} (mA:∀ {y0:_} {u:bA},iB y0=some u→Pu Tryz.prog dZ (.str y0 :: gd) (bA.av u)) {r:Bool},self aa iB=some r→Pu Tryz.prog 199 [.agg [I aa.Kind,.str aa.Field,.str aa.Op,I aa.Value.Kind,.bool aa.Value.ch,I aa.Value.Number,.str aa.Value.Words,I aa.Version.bP,I aa.Version.bQ,I aa.Version.bL,pb aa.Kids],.func (.func dZ) gd] (.bool r)) {aa:Query} {iB:ai→Option bA} {dZ:FuncId} [bh Tryz.prog dZ] {gd:List AV} (mA:∀ {y0:_} {u:bA},iB y0=some u→Pu Tryz.prog dZ (.str y0 :: gd) (bA.av u)) {r:Bool} (h:er self aa iB=some r):Pu Tryz.prog 199 [.agg [I aa.Kind,.str aa.Field,.str aa.Op,I aa.Value.Kind,.bool aa.Value.ch,I aa.Value.Number,.str aa.Value.Words,I aa.Version.bP,I aa.Version.bQ,I aa.Version.bL,pb aa.Kids],.func (.func dZ) gd] (.bool r):=by
 unfold er at h
 refine aI.aZ Tryz.func199 J Tryz.ntmps199 Tryz.results199 J J ?_
 refine az<|cJ J J J J fun b1=>rA J J<|rN<|tS<|az<|rF J J J<|rL J J .p0 J J<|rN<|ab.block<|az<|ae.qv (cx J J) J<|rA J J<|rN<|cD h J (fun h=>?_) (fun h=>?_)
 ·refine tS<|ab.cA (id:=3) (A:=[0,0,0,4,14,31,63]) 7 mixed J (by kernel_rfl) (by kernel_rfl)<|AM.qv (aA J J .p0 J) J<|AM.qv (aO J) J<|AM.qv (ar J J) J<|AM.qv (aD J J .p0 J) J<|ax h fun v2 e1 h=>AM.Xc J J (mA e1) cR J<|ax h fun v3 e2 h=>AM.cT J (Ee e2) cR J<|AM.qv (bR J) J<|AM.nil<|rN<|ab.ret<|?_
  cases h
  exact hP J J
 ·refine az<|ae.qv (cx J J) J<|rA J J<|rN<|cD h J (fun h=>?_) (fun h=>?_)
  ·refine az<|rM J J<|rF J J J<|rL J J .p0 J J<|ax h fun v4 e3 h=>yU J J (mA e3) cR J<|ae.qv (HR (ft:=4) (off:=0) ⟨_,_,Tryz.underlying244,J,J,J⟩ J J J) J<|rA J J<|rN<|ab.ret<|?_
   cases h
   exact hP J J
  ·refine az<|ae.qv (cx J J) J<|rA J J<|rN<|cD h J (fun h=>?_) (fun h=>?_)
   ·refine az<|rF J J J<|rL J J .p0 J J<|ax h fun v5 e4 h=>ae.qv (aS J J J e4 J (by rw [Query.um];rfl)) J<|ae.qv (aM J J J) J<|rM J J<|ax h fun v6 e5 h=>eF J (kJ mA e5) (.cons (.co (.refl _)) (.cons (.co (.refl _)) .nil)) J J<|ae.qv (bF J) J<|rA J J<|rN<|ab.ret<|?_
    cases h
    exact hP J J
   ·refine tK<|ab.bX<|az<|rF J J J<|rL J J .p0 J J<|ae.qv (cx J J) J<|rA J J<|rN<|tS<|az<|rF J J J<|rL J J .p0 J J<|ae.qv (bB J) J<|rM J J<|rN<|ab.block<|ab.bO (fun x:Int=>fX self aa iB x) (fun x aE=>aE=⟨53,[(1,.func (.func dZ) gd),(5,.bool (decide (aa.Kind=(4:Int)))),(38,pb aa.Kids),(39,I (aa.Kids.length:Int)),(40,I x)],[]⟩) h ?_ ?_
    ·exact aj.lq [] J J J
    ·intro n8 z1 aE J1 dh h im dN
     obtain rfl:=dh
     replace h:fX self aa iB n8=some z1:=h
     unfold fX at h
     refine az<|ae.qv (br J J) J<|rN<|tS<|cD h J (fun h=>?_) (fun h=>?_)
     ·refine tK<|tS<|ab.block<|az<|ax h fun v9 e6 h=>ae.qv (aS J J J e6 J (by rw [Query.um];rfl)) J<|ae.qv (aM J J J) J<|bu J J J J fun GH=>ay J J J J .p0 J J<|rN<|az<|ae.qv (aA J J .p0 J) J<|rM J J<|ax h fun v11 e7 h=>eF J (kJ mA e7) (.cons (.co (.refl _)) (.cons (.co (.refl _)) .nil)) J J<|rM J J<|ae.qv (Ny J J) J<|rN<|cB h J (fun h=>?_) (fun h=>?_)
      ·refine az<|rM J J<|ae.qv (xN J) J<|rA J J<|rN<|ab.ret<|have h:=bx h dN;?_
       cases h
       exact hP J J
      ·refine tK<|ab.bX<|tR<|ae.qv (bf J J) J<|rM J J<|rN<|ab.stop<|?_
       cases h
       exact im _ _ J<|aj.lq [] J J J
     ·refine ab.exit J<|have h:=bx h dN;az<|rM J J<|rA J J<|rN<|ab.ret<|?_
      cases h
      exact hP J J
theorem Dc [GI:bD]:∀ (k:Nat) {aa:Query} {iB:ai→Option bA} {dZ:FuncId} [bh Tryz.prog dZ] {gd:List AV} (mA:∀ {y0:_} {u:bA},iB y0=some u→Pu Tryz.prog dZ (.str y0 :: gd) (bA.av u)) {r:Bool},dS k aa iB=some r→Pu Tryz.prog 199 [.agg [I aa.Kind,.str aa.Field,.str aa.Op,I aa.Value.Kind,.bool aa.Value.ch,I aa.Value.Number,.str aa.Value.Words,I aa.Version.bP,I aa.Version.bQ,I aa.Version.bL,pb aa.Kids],.func (.func dZ) gd] (.bool r):=by
 intro k
 induction k with
 | zero=>intro aa iB dZ _ gd mA r h;cases h
 | succ k ih=>intro aa iB dZ _ gd mA r h;exact Cj ih mA h
theorem FU [GI:bD] {aa:Query} {iB:ai→Option bA} {dZ:FuncId} [bh Tryz.prog dZ] {gd:List AV} (mA:∀ {y0:_} {u:bA},iB y0=some u→Pu Tryz.prog dZ (.str y0 :: gd) (bA.av u)) {r:Bool} (h:B6 aa iB=some r):Pu Tryz.prog 199 [.agg [I aa.Kind,.str aa.Field,.str aa.Op,I aa.Value.Kind,.bool aa.Value.ch,I aa.Value.Number,.str aa.Value.Words,I aa.Version.bP,I aa.Version.bQ,I aa.Version.bL,pb aa.Kids],.func (.func dZ) gd] (.bool r):=Dc depth mA h
theorem FV [GI:bD] {aa:Query} {ak:aL} {r:Bool} (h:eO aa ak=some r):Pu Tryz.prog 131 [.agg [I aa.Kind,.str aa.Field,.str aa.Op,I aa.Value.Kind,.bool aa.Value.ch,I aa.Value.Number,.str aa.Value.Words,I aa.Version.bP,I aa.Version.bQ,I aa.Version.bL,pb aa.Kids],aL.av ak] (.bool r):=by
 unfold eO at h
 refine aI.aZ Tryz.func131 J Tryz.ntmps131 Tryz.results131 J J ?_
 refine az<|cJ J J J J fun b1=>cJ J J J J fun b2=>rA J J<|rN<|az<|ae.qv (aA J J .p1 J) J<|ae.qv (iv J) J<|ax h fun v3 e1 h=>eF J (FU (fun e=>Ci e) e1) (.cons (.co (.refl _)) (.cons (.xf _ _ _ (.cons (.BM _ _ _ .p0 (.cons (.co (.refl _)) (.cons (.co (.refl _)) (.cons (.co (.refl _)) (.cons (.co (.refl _)) (.cons (.co (.refl _)) (.cons (.co (.refl _)) (.cons (.co (.refl _)) (.cons (.co (.refl _)) .nil))))))))) .nil)) .nil)) J J<|rA J J<|rN<|ab.ret<|?_
 cases h
 exact hP J J
theorem yJ [GI:bD] {bn:Bk} {bN:Bk} {cz:Bk} {cM:Bk} {cN:Bk} {dQ:Bk} {aa:aq} {ak:ai} {aP:aL} {aX:Int} {r:(List Reason)×aq} (h:jw aa ak aP aX=some r):aI Tryz.prog 52 [.ptr bn 0,.str ak,aL.av aP,I aX] [(bn,.cells (tt aa bN cz cM cN dQ)),(bN,ed aa.aT),(cz,il aa.bU),(cM,j0 aa.at_),(cN,ja aa.cr)] (T1 (fun kK=>[(bn,.cells [wa r.2.aW.ao,yw r.2.aW.bd,w9 r.2.aW.aG,tq r.2.aW.aK,.bC bN,.bC cz,.bC cM,.bC cN,.bC dQ]),(bN,ed r.2.aT),(cz,il r.2.bU),(cM,j0 r.2.at_),(cN,ja r.2.cr),(kK,Ea r.1)]) (fun kK=>.sl 2 kK 0 r.1.length)):=by
 unfold jw at h
 refine aI.fD ?_
 refine aI.aZ Tryz.func52 J Tryz.ntmps52 Tryz.results52 J J ?_
 refine az<|cJ J J J J fun b1=>rA J J<|rN<|az<|rF J J J<|rF J J J<|rL J J .p0 J J<|rA J J<|rN<|tS<|az<|rM J J<|ae.qv (fC J J) J<|rN<|cD h J (fun h=>?_) (fun h=>?_)
 ·refine az<|rA J J<|rN<|ab.ret<|?_
  cases h
  exact aj.arr (s:=8) 2 J fun b2=>aj.here ⟨_,.cons (.tmp _ _ J) .nil,_,.cons .p2 (.cons .p2 (.cons .p2 (.cons .p2 (.cons .p2 (.cons .p0 .nil))))),⟨b2,J,J⟩⟩
 ·refine tK<|az<|rA J J<|rN<|tS<|az<|rM J J<|rM J J<|rM J J<|ax h fun v3 e1 h=>aR J (sU e1) cR (.cons .p1 (.cons .p1 (.cons .p1 (.cons .p1 (.cons .p1 .nil))))) J J<|ae.qv (bB J) J<|rM J J<|rN<|ab.block<|ab.bO (fun x:(List Reason)×Int=>dc aa ak aP aX v3 x.1 x.2) (fun x aE=>∃ (b7:Bk),aE=⟨104,[(0,.ptr bn 0),(1,.str ak),(3,I aX),(6,.ptr b1 0),(9,.str aP.Device.au),(10,.sl 2 b7 0 x.1.length),(26,cC v3.1),(27,I (v3.1.length:Int)),(28,I x.2)],[(bn,.cells [wa v3.2.aW.ao,yw v3.2.aW.bd,w9 v3.2.aW.aG,tq v3.2.aW.aK,.bC bN,.bC cz,.bC cM,.bC cN,.bC dQ]),(bN,ed v3.2.aT),(cz,il v3.2.bU),(cM,j0 v3.2.at_),(cN,ja v3.2.cr),(b1,.cells (DH aP)),(b7,Ea x.1)]⟩) h ?_ ?_
  ·exact aj.arr (s:=10) 2 J fun GH=>aj.lq [1,1,1,1,1,1,0] ⟨GH,J⟩ J J
  ·intro x z1 aE J1 dh h im dN
   obtain ⟨l8,n9⟩:=x
   obtain ⟨b7,rfl⟩:=dh
   replace h:dc aa ak aP aX v3 l8 n9=some z1:=h
   unfold dc at h
   refine az<|ae.qv (br J J) J<|rN<|tS<|cD h J (fun h=>?_) (fun h=>?_)
   ·refine tK<|tS<|ab.block<|az<|ax h fun v11 e2 h=>ae.qv (aS J J J e2 J J) J<|ae.qv (aJ J J J) J<|rA J J<|rN<|tR<|rM J J<|rM J J<|ae.qv (bq J J J J J) J<|aF (xs:=([(⟨v11,[]⟩:Reason)]).map Reason.av) J J J J J J<|ax h fun yG e3 h=>cU (g:=Reason.av) J J J J J J J J (.list _) e3 (fun _=>.p6) J fun JU=>rA J J<|rN<|ab.bX<|tR<|ae.qv (bf J J) J<|rM J J<|rN<|ab.stop<|?_
    cases h
    exact im _ _ J<|aj.lq [0,0,0,0,0,0,0] ⟨JU,J⟩ J J
   ·refine ab.exit J<|have h:=bx h dN;?_
    unfold gJ at h
    refine az<|rM J J<|rM J J<|ax h fun rl e4 h=>fV J (mW e4) cR (.cons .p0 (.cons .p0 .nil)) (fun _=>J) J fun Lc=>rA J J<|rN<|tS<|az<|rM J J<|ae.qv (ba J) J<|rF J J J<|rF J J J<|rL J J .p0 J J<|ae.qv (bB J) J<|rM J J<|rN<|ab.block<|ab.bO (fun x:(List au)×(List bH)×(List aQ)×(List bl)×(List (ai×ai))×(List (ai×(List ai)))×(List (ai×(List Int)))×(List (aN×(List Int)))×(List Reason)×Int=>gI aa ak aP aX v3 rl x.1 x.2.1 x.2.2.1 x.2.2.2.1 x.2.2.2.2.1 x.2.2.2.2.2.1 x.2.2.2.2.2.2.1 x.2.2.2.2.2.2.2.1 x.2.2.2.2.2.2.2.2.1 x.2.2.2.2.2.2.2.2.2) (fun x aE=>∃ (L9:Bk),aE=⟨104,[(0,.ptr bn 0),(1,.str ak),(3,I aX),(6,.ptr b1 0),(10,.sl 2 L9 0 x.2.2.2.2.2.2.2.2.1.length),(13,.sl 1 Lc 0 rl.length),(45,tq v3.2.aW.aK),(46,I (v3.2.aW.aK.length:Int)),(47,I x.2.2.2.2.2.2.2.2.2)],[(bn,.cells [wa x.1,yw x.2.1,w9 x.2.2.1,tq x.2.2.2.1,.bC bN,.bC cz,.bC cM,.bC cN,.bC dQ]),(bN,ed x.2.2.2.2.1),(cz,il x.2.2.2.2.2.1),(cM,j0 x.2.2.2.2.2.2.1),(cN,ja x.2.2.2.2.2.2.2.1),(b1,.cells (DH aP)),(L9,Ea x.2.2.2.2.2.2.2.2.1),(Lc,vF rl)]⟩) h ?_ ?_
    ·exact aj.lq [0,0,1,1,1,1,1,0] ⟨b7,J⟩ J J
    ·intro x z2 aE J2 dh h ya tY
     obtain ⟨Ba,FA,CK,L6,B4,AH,FE,FD,D7,n37⟩:=x
     obtain ⟨L9,rfl⟩:=dh
     replace h:gI aa ak aP aX v3 rl Ba FA CK L6 B4 AH FE FD D7 n37=some z2:=h
     unfold gI at h
     refine az<|ae.qv (br J J) J<|rN<|tS<|cD h J (fun h=>?_) (fun h=>?_)
     ·refine tK<|tS<|ab.cut (fun aE=>∃ (Wh:Bk) (GA:List au) (l39:List bH) (GD:List aQ) (l41:List bl) (Ps:List (ai×ai)) (IU:List (ai×(List ai))) (US:List (ai×(List Int))) (UT:List (aN×(List Int))) (K6:List Reason),eh n37 GA l39 GD l41 Ps IU US UT K6=some z2∧aE=⟨104,[(0,.ptr bn 0),(1,.str ak),(3,I aX),(6,.ptr b1 0),(10,.sl 2 Wh 0 K6.length),(13,.sl 1 Lc 0 rl.length),(45,tq v3.2.aW.aK),(46,I (v3.2.aW.aK.length:Int)),(47,I n37)],[(bn,.cells [wa GA,yw l39,w9 GD,tq l41,.bC bN,.bC cz,.bC cM,.bC cN,.bC dQ]),(bN,ed Ps),(cz,il IU),(cM,j0 US),(cN,ja UT),(b1,.cells (DH aP)),(Wh,Ea K6),(Lc,vF rl)]⟩) ?_ ?_
      ·refine ab.block<|az<|ax h fun CM e5 h=>ae.qv (aS J J J e5 J J) J<|ae.qv (aM J J J) J<|bu J J J J fun U4=>ay J J J J .p0 J J<|rN<|tS<|tS<|ab.cut (fun aE=>∃ (c50:Bool),cK aa ak Ba FA CK L6 B4 AH FE FD D7 n37 CM c50=some z2∧aE=⟨104,[(0,.ptr bn 0),(1,.str ak),(3,I aX),(6,.ptr b1 0),(10,.sl 2 L9 0 D7.length),(13,.sl 1 Lc 0 rl.length),(15,.ptr U4 0),(45,tq v3.2.aW.aK),(46,I (v3.2.aW.aK.length:Int)),(47,I n37),(83,.bool c50)],[(bn,.cells [wa Ba,yw FA,w9 CK,tq L6,.bC bN,.bC cz,.bC cM,.bC cN,.bC dQ]),(bN,ed B4),(cz,il AH),(cM,j0 FE),(cN,ja FD),(b1,.cells (DH aP)),(L9,Ea D7),(Lc,vF rl),(U4,.cells (L7 CM))]⟩) ?_ ?_
       ·refine tR<|rM J J<|rF J J J<|rF J J J<|rL J J .p0 J J<|ae.qv (br J J) J<|rM J J<|gF h J J J (fun h=>?_) (fun h=>?_)
        ·refine rM J J<|rY J J J<|rF J J J<|rY J J J<|rF J J J<|rY J J J<|rL J J .p0 J J<|rY J J J<|ae.qv (vn J J) J<|rE J J J<|rM J J<|gF h J J J (fun h=>?_) (fun h=>?_)
         ·refine rM J J<|rY J J J<|rF J J J<|rY J J J<|rL J J .p0 J J<|rY J J J<|ax h fun v51 e6 h=>eF J (bt e6) (.cons (w7.wN (.next .p7)) (.cons (.co (.refl _)) .nil)) J J<|rY J J J<|ae.qv (bF J) J<|rE J J J<|rM J J<|ae.guard J J J (fun hc=>?_) (fun hc=>?_)
          ·refine have h:=ir hc h;rF J J J<|rY J J J<|rL J J .p0 J J<|rY J J J<|rM J J<|rY J J J<|ax h fun v52 e7 h=>aH J (tv e7) cR J<|rY J J J<|ae.qv (bF J) J<|rE J J J<|rM J J<|ae.guard J J J (fun hc=>?_) (fun hc=>?_)
           ·exact have h:=ir hc h;rF J J J<|rY J J J<|ae.qv (aY J J .p0 J J) J<|rY J J J<|ae.qv (aA J J .p6 J) J<|rY J J J<|ax h fun v53 e8 h=>aH J (FV e8) cR J<|rY J J J<|ae.qv (bF J) J<|rE J J J<|rN<|ab.stop<|aj.lq [1,1,1,1,1,1,1,1,0] ⟨!v53,h,J⟩ J J
           ·exact have h:=hZ hc h;rG J J J J<|rG J J J J<|rG J J J J<|rG J J J J<|rT J J J<|rN<|ab.stop<|aj.lq [1,1,1,1,1,1,1,1,0] ⟨true,h,J⟩ J J
          ·exact have h:=hZ hc h;rG J J J J<|rG J J J J<|rG J J J J<|rG J J J J<|rT J J J<|rM J J<|rG J J J J<|rG J J J J<|rG J J J J<|rG J J J J<|rG J J J J<|rT J J J<|rN<|ab.stop<|aj.lq [1,1,1,1,1,1,1,1,0] ⟨true,h,J⟩ J J
         ·exact rG J J J J<|rG J J J J<|rG J J J J<|rG J J J J<|rT J J J<|rM J J<|rG J J J J<|rG J J J J<|rG J J J J<|rG J J J J<|rG J J J J<|rT J J J<|rM J J<|rG J J J J<|rG J J J J<|rG J J J J<|rG J J J J<|rG J J J J<|rT J J J<|rN<|ab.stop<|aj.lq [1,1,1,1,1,1,1,1,0] ⟨true,h,J⟩ J J
        ·exact rG J J J J<|rG J J J J<|rG J J J J<|rG J J J J<|rT J J J<|rM J J<|rG J J J J<|rG J J J J<|rG J J J J<|rG J J J J<|rG J J J J<|rT J J J<|rM J J<|rG J J J J<|rG J J J J<|rG J J J J<|rG J J J J<|rG J J J J<|rT J J J<|rM J J<|rG J J J J<|rG J J J J<|rG J J J J<|rG J J J J<|rG J J J J<|rT J J J<|rN<|ab.stop<|aj.lq [1,1,1,1,1,1,1,1,0] ⟨true,h,J⟩ J J
       ·rintro aE ⟨c50,h,rfl⟩
        unfold cK at h
        refine cB h J (fun h=>?_) (fun h=>?_)
        ·exact ab.exit J<|ab.stop<|aj.lq [0,0,0,0,0,0,0,0] ⟨L9,Ba,FA,CK,L6,B4,AH,FE,FD,D7,h,J⟩ J J
        ·refine tK<|az<|rM J J<|rM J J<|rF J J J<|rL J J (.next .p7) J J<|ax h fun v54 e9 h=>aR J (sU e9) cR (.cons .p0 (.cons .p0 (.cons .p0 (.cons .p0 (.cons .p0 .nil))))) J J<|ae.qv (bB J) J<|rM J J<|rN<|ab.block<|ab.bO (fun x:(List Reason)×Int=>db n37 CM v54 x.1 x.2) (fun x aE=>∃ (ZB:Bk),aE=⟨104,[(0,.ptr bn 0),(1,.str ak),(3,I aX),(6,.ptr b1 0),(10,.sl 2 ZB 0 x.1.length),(13,.sl 1 Lc 0 rl.length),(15,.ptr U4 0),(45,tq v3.2.aW.aK),(46,I (v3.2.aW.aK.length:Int)),(47,I n37),(88,cC v54.1),(89,I (v54.1.length:Int)),(90,I x.2)],[(bn,.cells [wa v54.2.aW.ao,yw v54.2.aW.bd,w9 v54.2.aW.aG,tq v54.2.aW.aK,.bC bN,.bC cz,.bC cM,.bC cN,.bC dQ]),(bN,ed v54.2.aT),(cz,il v54.2.bU),(cM,j0 v54.2.at_),(cN,ja v54.2.cr),(b1,.cells (DH aP)),(ZB,Ea x.1),(Lc,vF rl),(U4,.cells (L7 CM))]⟩) h ?_ ?_
         ·exact aj.lq [0,0,0,0,0,0,0,0,0] ⟨L9,J⟩ J J
         ·intro x z3 aE J3 dh h N9 Lb
          obtain ⟨Pl,n60⟩:=x
          obtain ⟨ZB,rfl⟩:=dh
          replace h:db n37 CM v54 Pl n60=some z3:=h
          unfold db at h
          refine az<|ae.qv (br J J) J<|rN<|tS<|cD h J (fun h=>?_) (fun h=>?_)
          ·refine tK<|tS<|ab.block<|az<|ax h fun AI Am h=>ae.qv (aS J J J Am J J) J<|ae.qv (aJ J J J) J<|rA J J<|rN<|tR<|rM J J<|rM J J<|rF J J J<|rL J J (.next .p7) J J<|ae.qv (bq J J J J J) J<|aF (xs:=([(⟨AI,CM.Key⟩:Reason)]).map Reason.av) J J J J J J<|ax h fun FC Bf h=>cU (g:=Reason.av) J J J J J J J J (.list _) Bf (fun _=>.p6) J fun b63=>rA J J<|rN<|ab.bX<|tR<|ae.qv (bf J J) J<|rM J J<|rN<|ab.stop<|?_
           cases h
           exact N9 _ _ J<|aj.lq [0,0,0,0,0,0,0,0,0] ⟨b63,J⟩ J J
          ·exact ab.exit J<|have h:=bx h Lb;ab.bX<|ab.stop<|aj.lq [0,0,0,0,0,0,0,0] ⟨ZB,v54.2.aW.ao,v54.2.aW.bd,v54.2.aW.aG,v54.2.aW.aK,v54.2.aT,v54.2.bU,v54.2.at_,v54.2.cr,Pl,h,J⟩ J J
      ·rintro aE ⟨Wh,GA,l39,GD,l41,Ps,IU,US,UT,K6,h,rfl⟩
       unfold eh at h
       refine tR<|ae.qv (bf J J) J<|rM J J<|rN<|ab.stop<|?_
       cases h
       exact ya _ _ J<|aj.lq [0,0,0,0,0,0,0,0] ⟨Wh,J⟩ J J
     ·refine ab.exit J<|have h:=bx h tY;az<|rM J J<|rA J J<|rN<|ab.ret<|?_
      cases h
      exact hH J [0,0,0,0,0,1] J ⟨L9,J,J⟩
theorem va:V8 Tryz.prog 125 (fun l=>Value.string ⟨l.toArray⟩) Kx:=⟨fun bX off cap zs w hH hb hs=>Tryz.slices_Sort_string bX off cap zs w hH hb hs,fun p cap w=>Tryz.slices_Sort_string_none p cap w⟩
theorem oE [GI:bD] {bn:Bk} {aa:List ai} {r:(List ai)} (h:fx aa=some r):aI Tryz.prog 125 [.sl 1 bn 0 aa.length] [(bn,.arr 1 (aa.map AV.str))] (T0 [(bn,.arr 1 (r.map AV.str))] (.pT [])):=
 Kw va (g:=AV.str) (fun h=>h.dB) (fun w S x=>.str _) (fun _=>J) (fun xs=>List.length_mergeSort _) (fun _=>J) h
theorem mC [GI:bD] {bn:Bk} {aa:List ai} {r:(List ai)} (h:et aa=some r):aI Tryz.prog 126 [.sl 1 bn 0 aa.length] [(bn,vF aa)] (T1 (fun kK=>[(kK,vF r)]) (fun kK=>.sl 1 kK 0 r.length)):=by
 unfold et at h
 refine aI.fD ?_
 refine aI.aZ Tryz.func126 J Tryz.ntmps126 Tryz.results126 J J ?_
 refine az<|rA J J<|rN<|tS<|az<|rM J J<|ae.qv (iu J) J<|ae.qv (br J J) J<|rN<|cD h J (fun h=>?_) (fun h=>?_)
 ·refine az<|rM J J<|rA J J<|rN<|ab.ret<|?_
  cases h
  exact hH J [0] J ⟨bn,J,J⟩
 ·refine tK<|tS<|az<|rA J J<|rN<|ab.block<|ab.bO (fun x:Int=>fc aa x) (fun x aE=>aE=⟨61,[(0,.sl 1 bn 0 aa.length),(3,I x)],[(bn,vF aa)]⟩) h ?_ ?_
  ·exact aj.lq [0] J J J
  ·intro n2 z1 aE J1 dh h im dN
   obtain rfl:=dh
   replace h:fc aa n2=some z1:=h
   unfold fc at h
   refine tS<|az<|rM J J<|rM J J<|ae.qv (iu J) J<|ae.qv (br J J) J<|rN<|cD h J (fun h=>?_) (fun h=>?_)
   ·refine tK<|tS<|ab.block<|tS<|ab.cA (id:=6) (A:=[0,0,3,7,0,0,32,112,240,511]) 10 mixed J (by kernel_rfl) (by kernel_rfl)<|AM.qv (aO J) J<|AM.qv (aO J) J<|ax h fun v3 e1 h=>AM.qv (jk J J J e1) J<|AM.qv (iO (g:=AV.str) J J (.inl .p0) e1 J) J<|AM.qv (aO J) J<|AM.qv (aO J) J<|AM.qv (fm J J) J<|ax h fun v4 e2 h=>AM.qv (jk J J J e2) J<|AM.qv (iO (g:=AV.str) J J (.inl .p0) e2 J) J<|AM.qv (fC J J) J<|AM.nil<|rN<|cD h J (fun h=>?_) (fun h=>?_)
    ·refine az<|rM J J<|rM J J<|ax h fun l5 e3 h=>ae.qv (sZ J J (.some _ _ _ J) .none J J e3) J<|rA J J<|rN<|tS<|az<|rA J J<|rN<|ab.block<|ab.bO (fun x:(List ai)×Int×Int=>eZ n2 l5 x.1 x.2.1 x.2.2) (fun x aE=>aE=⟨61,[(0,.sl 1 bn 0 x.1.length),(3,I x.2.1),(4,.sl 1 bn n2.toNat l5.length),(5,I x.2.2)],[(bn,vF x.1)]⟩) h ?_ ?_
     ·exact aj.lq [0] J J J
     ·intro x z2 aE J2 dh h ya tY
      obtain ⟨l9,n10,n11⟩:=x
      obtain rfl:=dh
      replace h:eZ n2 l5 l9 n10 n11=some z2:=h
      unfold eZ at h
      refine tS<|az<|rM J J<|rM J J<|ae.qv (O1 J) J<|ae.qv (br J J) J<|rN<|cD h J (fun h=>?_) (fun h=>?_)
      ·refine tK<|tS<|ab.block<|tS<|ab.cA (id:=11) (A:=[0,0,3,7,0,0,32,112,240,511]) 10 mixed J (by kernel_rfl) (by kernel_rfl)<|AM.qv (aO J) J<|AM.qv (aO J) J<|ax h fun v12 e4 h=>AM.qv (y5 (L:=n2) J J J e4) J<|AM.qv (iO (g:=AV.str) J J (.inl .p0) (zN e4).2 J) J<|AM.qv (aO J) J<|AM.qv (aO J) J<|AM.qv (fm J J) J<|ax h fun ma e5 h=>AM.qv (y5 (L:=n2) J J J e5) J<|AM.qv (iO (g:=AV.str) J J (.inl .p0) (zN e5).2 J) J<|AM.qv (ud J J) J<|AM.nil<|rN<|ab.cut (fun aE=>∃ (B5:List ai) (n15:Int),eW n11 B5 n15=some z2∧aE=⟨61,[(0,.sl 1 bn 0 B5.length),(3,I n15),(4,.sl 1 bn n2.toNat l5.length),(5,I n11)],[(bn,vF B5)]⟩) ?_ ?_
       ·refine cD h J (fun h=>?_) (fun h=>?_)
        ·exact az<|rM J J<|rM J J<|rM J J<|rM J J<|ax h fun pf e6 h=>ae.qv (y5 (L:=n2) J J J e6) J<|ae.qv (iO (g:=AV.str) J J (.inl .p0) (zN e6).2 J) J<|ax h fun v17 e7 h=>ae.qv (jk J J J e7) J<|wO (g:=AV.str) (P7:=pf) J J J J e7 J .p0 J<|ae.ghost<|aj.eqs (s:=0) (rz:=.sl 1 bn 0 (l9.set n10.toNat pf).length) J (by rw [List.length_set])<|aj.here<|ae.ghost<|aj.eqs (s:=45) (rz:=.sl 1 bn 0 (l9.set n10.toNat pf).length) J (by rw [List.length_set])<|aj.here<|rN<|tR<|rM J J<|ae.qv (bf J J) J<|rA J J<|rN<|ab.stop<|aj.lq [0] ⟨l9.set n10.toNat pf,cd (n10+(1:Int)),h,J⟩ J J
        ·exact tK<|ab.stop<|aj.lq [0] ⟨l9,n10,h,J⟩ J J
       ·rintro aE ⟨B5,n15,h,rfl⟩
        unfold eW at h
        refine ab.bX<|tR<|rM J J<|ae.qv (bf J J) J<|rA J J<|rN<|ab.stop<|?_
        cases h
        exact ya _ _ J<|aj.lq [0] J J J
      ·refine ab.exit J<|have h:=bx h tY;?_
       unfold lT at h
       refine az<|rM J J<|rM J J<|ax h fun BA e8 h=>ae.qv (sZ J J (.some _ _ _ J) .none J J e8) J<|Us (g:=AV.str) (Z:=[]) (L:=n10) J J J J J J e8 .p0<|ae.ghost<|aj.eqs (s:=0) (rz:=.sl 1 bn 0 (Ri l9 n10 BA.length []).length) J (congrArg (AV.sl 1 bn 0) (NN e8))<|aj.here<|ae.ghost<|aj.eqs (s:=54) (rz:=.sl 1 bn 0 (Ri l9 n10 BA.length []).length) J (congrArg (AV.sl 1 bn 0) (NN e8))<|aj.here<|rN<|az<|rM J J<|rM J J<|ax h fun CN e9 h=>ae.qv (sZ J J .none (.some _ _ _ J) J J e9) J<|rA J J<|ae.ghost<|aj.Re e9 .p0<|aj.here<|rN<|ab.ret<|have h:=bx h dN;?_
       cases h
       exact hH J [0] J ⟨bn,J,J⟩
    ·refine tK<|ab.bX<|tR<|rM J J<|ae.qv (bf J J) J<|rA J J<|rN<|ab.stop<|?_
     cases h
     exact im _ _ J<|aj.lq [0] J J J
   ·refine ab.exit J<|have h:=bx h dN;az<|rM J J<|rA J J<|rN<|ab.ret<|?_
    cases h
    exact hH J [0] J ⟨bn,J,J⟩
theorem pS [GI:bD] {bn:Bk} {bN:Bk} {cz:Bk} {cM:Bk} {cN:Bk} {dQ:Bk} {aa:aq} {ak:ai} {aP:aL} {aX:Int} {r:(List ai)×aq} (h:gK aa ak aP aX=some r):aI Tryz.prog 50 [.ptr bn 0,.str ak,aL.av aP,I aX] [(bn,.cells (tt aa bN cz cM cN dQ)),(bN,ed aa.aT),(cz,il aa.bU),(cM,j0 aa.at_),(cN,ja aa.cr)] (T1 (fun kK=>[(bn,.cells [wa r.2.aW.ao,yw r.2.aW.bd,w9 r.2.aW.aG,tq r.2.aW.aK,.bC bN,.bC cz,.bC cM,.bC cN,.bC dQ]),(bN,ed r.2.aT),(cz,il r.2.bU),(cM,j0 r.2.at_),(cN,ja r.2.cr),(kK,vF r.1)]) (fun kK=>.sl 1 kK 0 r.1.length)):=by
 unfold gK at h
 refine aI.fD ?_
 refine aI.aZ Tryz.func50 J Tryz.ntmps50 Tryz.results50 J J ?_
 refine az<|cJ J J J J fun b1=>rA J J<|rN<|az<|rA J J<|rN<|tS<|az<|rM J J<|rM J J<|ae.qv (aA J J .p0 J) J<|rM J J<|ax h fun v2 e1 h=>fV J (yJ e1) cR (.cons .p1 (.cons .p1 (.cons .p1 (.cons .p1 (.cons .p1 .nil))))) (fun _=>J) J fun b3=>ae.qv (iu J) J<|rM J J<|rN<|ab.block<|ab.bO (fun x:(List ai)×Int=>dG aa v2 x.1 x.2) (fun x aE=>∃ (b7:Bk),aE=⟨40,[(0,.ptr bn 0),(9,.sl 1 b7 0 x.1.length),(16,.sl 2 b3 0 v2.1.length),(17,I (v2.1.length:Int)),(18,I x.2)],[(bn,.cells [wa v2.2.aW.ao,yw v2.2.aW.bd,w9 v2.2.aW.aG,tq v2.2.aW.aK,.bC bN,.bC cz,.bC cM,.bC cN,.bC dQ]),(bN,ed v2.2.aT),(cz,il v2.2.bU),(cM,j0 v2.2.at_),(cN,ja v2.2.cr),(b7,vF x.1),(b3,Ea v2.1)]⟩) h ?_ ?_
 ·exact aj.arr (s:=9) 1 J fun GH=>aj.lq [1,1,1,1,1,0,0] ⟨GH,J⟩ J J
 ·intro x z1 aE J1 dh h im dN
  obtain ⟨l8,n9⟩:=x
  obtain ⟨b7,rfl⟩:=dh
  replace h:dG aa v2 l8 n9=some z1:=h
  unfold dG at h
  refine az<|ae.qv (br J J) J<|rN<|tS<|cD h J (fun h=>?_) (fun h=>?_)
  ·refine tK<|tS<|ab.block<|az<|ax h fun v11 e2 h=>ae.qv (jk J J J e2) J<|ae.qv (D2 (g:=Reason.av) J J (.inl .p6) J e2 J) J<|bu J J J J fun Le=>ay J J J J .p0 J J<|rN<|ab.cA (id:=5) (A:=[0,0,2,6,14,30,0,64,254,510,1022,2046,4095,8191]) 12 mixed J (by kernel_rfl) (by kernel_rfl)<|AM.qv (aO J) J<|AM.qv (aO J) J<|AM.qv (ba J) J<|AM.qv (ar J J) J<|AM.qv (ar J J) J<|AM.qv (aD J J .p1 J) J<|AM.qv (ar J J) J<|AM.qv (aD J J .p0 J) J<|ax h fun ma e3 h=>AM.qv (aS J J J e3 J J) J<|AM.qv (bY J J) J<|AM.qv (aJ J J J) J<|AM.a8 (xs:=([ma.ek]:List ai).map AV.str) J J J J J J<|AM.nil<|ax h fun B5 e4 h=>cU (g:=AV.str) J J J J J J J J (.list _) e4 (fun _=>.p6) J fun Lc=>rA J J<|rN<|ab.bX<|tR<|ae.qv (bf J J) J<|rM J J<|rN<|ab.stop<|?_
   cases h
   exact im _ _ J<|aj.lq [1,1,1,1,1,1,1] ⟨Lc,J⟩ J J
  ·refine ab.exit J<|have h:=bx h dN;?_
   unfold lg at h
   refine az<|rM J J<|ax h fun pf e5 h=>aR J (oE (rU e5)) cR (.cons .p5 .nil) J J<|ae.ghost<|aj.eqs (s:=9) (rz:=.sl 1 b7 0 pf.length) J (congrArg (AV.sl 1 b7 0) (kX e5))<|aj.here<|ae.ghost<|aj.eqs (s:=36) (rz:=.sl 1 b7 0 pf.length) J (congrArg (AV.sl 1 b7 0) (kX e5))<|aj.here<|rN<|az<|rM J J<|ax h fun v17 e6 h=>fV J (mC e6) cR (.cons .p0 .nil) (fun _=>J) J fun Jf=>rA J J<|rN<|ab.ret<|?_
   cases h
   exact hH J [1,1,1,1,1,0] J ⟨Jf,J,J⟩
theorem gr [GI:bD] {aa:aB} {ak:aB} {r:Int} (h:dq aa ak=some r):Pu Tryz.prog 91 [aB.av aa,aB.av ak] (I r):=by
 unfold dq at h
 refine aI.aZ Tryz.func91 J Tryz.ntmps91 Tryz.results91 J J ?_
 refine az<|cJ J J J J fun b1=>cJ J J J J fun b2=>rA J J<|rN<|tS<|ab.cA (id:=1) (A:=[0,1,0,4,15,0,32,0,128,511,0,1024,0,4096,16383,32767,65535,131071]) 18 mixed J (by kernel_rfl) (by kernel_rfl)<|AM.qv (ar J J) J<|AM.qv (aD J J .p1 J) J<|AM.qv (ar J J) J<|AM.qv (aD J J .p0 J) J<|AM.cT J (dD J) cR J<|AM.qv (ar J J) J<|AM.qv (aD J J .p1 J) J<|AM.qv (ar J J) J<|AM.qv (aD J J .p0 J) J<|AM.cT J (dD J) cR J<|AM.qv (ar J J) J<|AM.qv (aD J J .p1 J) J<|AM.qv (ar J J) J<|AM.qv (aD J J .p0 J) J<|AM.cT J (dD J) cR J<|AM.a8 (xs:=([(Lib.compareBytes aa.ek ak.ek),(Lib.compareBytes aa.Act ak.Act),(Lib.compareBytes aa.Device ak.Device)]:List Int).map I) J J J J J J<|ax h fun v3 e1 h=>AM.cT J (mX e1) cR J<|AM.qv (bR J) J<|AM.nil<|rN<|ab.ret<|?_
 cases h
 exact hP J J
theorem uC:Rg Tryz.prog 90 3:=⟨fun enc hk h1 cf hO g cb bX off cap d w eg hc hH hb hs=>AnyQ.slices_SortFunc_eq Tryz.N0 3 Tryz.isAgg85 Tryz.sizeOf85 enc hk h1 cf hO g cb bX off cap d w eg hc hH hb hs,fun p cap fv w=>AnyF.slices_SortFunc_none Tryz.N0 p cap fv w⟩
theorem ck [GI:bD] {bn:Bk} {aa:List aB} {iB:aB→aB→Option Int} {dZ:FuncId} [bh Tryz.prog dZ] {gd:List AV} (mA:∀ {y0 y1:_} {u:Int},iB y0 y1=some u→@Pu mJ Tryz.prog dZ (aB.av y0 :: aB.av y1 :: gd) (I u)) {r:(List aB)} (h:bM aa iB=some r):aI Tryz.prog 90 [.sl 3 bn 0 aa.length,.func (.func dZ) gd] [(bn,.arr 3 (aa.map aB.av))] (T0 [(bn,.arr 3 (r.map aB.av))] (.pT [])):=
 Fm (fn:=iB) uC J @mA (fun _=>J) h
theorem vM [GI:bD] {aa:ai} {r:Bool} (h:cmp_isNaN_string aa=r):Pu Tryz.prog 301 [.str aa] (.bool r):=by
 unfold cmp_isNaN_string at h
 refine aI.aZ Tryz.func301 J Tryz.ntmps301 Tryz.results301 J J ?_
 refine az<|rA J J<|rN<|az<|rM J J<|rM J J<|ae.qv (ud J J) J<|rA J J<|rN<|ab.ret<|?_
 obtain rfl:=h
 exact hP J J
theorem Ck [GI:bD] {aa:ai} {ak:ai} {r:Bool} (h:cmp_Less_string aa ak=r):Pu Tryz.prog 243 [.str aa,.str ak] (.bool r):=by
 unfold cmp_Less_string at h
 refine aI.aZ Tryz.func243 J Tryz.ntmps243 Tryz.results243 J J ?_
 refine az<|rA J J<|rN<|tS<|ab.cut (fun aE=>∃ (c1:Bool),mR c1=r∧aE=⟨17,[(4,.bool c1)],[]⟩) ?_ ?_
 ·refine tR<|rM J J<|aH J (vM J) cR J<|rM J J<|ae.guard J J J (fun hc=>?_) (fun hc=>?_)
  ·rw [if_pos hc] at h
   refine rM J J<|rY J J J<|aH J (vM J) cR J<|rY J J J<|ae.qv (bF J) J<|rT J J J<|rM J J<|ae.guard J J J (fun hc=>?_) (fun hc=>?_)
   ·rw [GR hc] at h
    exact rM J J<|rY J J J<|rM J J<|rY J J J<|ae.qv (QW J J) J<|rE J J J<|rA J J<|rN<|ab.stop<|aj.lq [] ⟨Op.bytesLess aa ak,h,J⟩ J J
   ·rw [GQ hc] at h
    exact rG J J J J<|rG J J J J<|rT J J J<|rA J J<|rN<|ab.stop<|aj.lq [] ⟨true,h,J⟩ J J
  ·rw [if_neg (by simp [hc]:¬ (_=true))] at h
   exact rG J J J J<|rG J J J J<|rE J J J<|rM J J<|rY J J J<|rM J J<|rY J J J<|rM J J<|rY J J J<|ae.qv (QW J J) J<|rE J J J<|rA J J<|rN<|ab.stop<|aj.lq [] ⟨Op.bytesLess aa ak,h,J⟩ J J
 ·rintro aE ⟨c1,h,rfl⟩
  unfold mR at h
  refine ab.ret<|?_
  obtain rfl:=h
  exact hP J J
theorem sV [GI:bD] {aa:ai} {r:Bool} (h:fy aa=r):Pu Tryz.prog 244 [.str aa] (.bool r):=by
 unfold fy at h
 refine aI.aZ Tryz.func244 J Tryz.ntmps244 Tryz.results244 J J ?_
 refine az<|rA J J<|rN<|az<|rM J J<|rM J J<|ae.qv (ud J J) J<|rA J J<|rN<|ab.ret<|?_
 obtain rfl:=h
 exact hP J J
theorem qt [GI:bD] {aa:List ai} {ak:ai} {r:Int×Bool} (h:cL aa ak=some r):Pu Tryz.prog 173 [gz aa,.str ak] (.pT [I r.1,.bool r.2]):=by
 unfold cL at h
 refine aI.aZ Tryz.func173 J Tryz.ntmps173 Tryz.results173 J J ?_
 refine az<|rA J J<|rA J J<|rN<|az<|rM J J<|ae.qv (bB J) J<|rA J J<|rN<|az<|rM J J<|rA J J<|rA J J<|rN<|tS<|ab.block<|ab.bO (fun x:Int×Int=>cW aa ak x.1 x.2) (fun x aE=>aE=⟨54,[(0,gz aa),(1,.str ak),(6,I (aa.length:Int)),(7,I x.1),(8,I x.2)],[]⟩) h ?_ ?_
 ·exact aj.lq [] J J J
 ·intro x z1 aE J1 dh h im dN
  obtain ⟨n3,n4⟩:=x
  obtain rfl:=dh
  replace h:cW aa ak n3 n4=some z1:=h
  unfold cW at h
  refine tS<|az<|rM J J<|rM J J<|ae.qv (br J J) J<|rN<|cD h J (fun h=>?_) (fun h=>?_)
  ·refine tK<|ab.block<|az<|rM J J<|rM J J<|ae.qv (bf J J) J<|ae.qv (E3 J) J<|ae.qv (aa2 J J (by decide)) J<|ae.qv (E3 J) J<|rA J J<|rN<|az<|rM J J<|rM J J<|ax h fun v5 e1 h=>ae.qv (aS J J J e1 J J) J<|ae.qv (aJ J J J) J<|rM J J<|aH J (Ck J) cR J<|rN<|ab.cut (fun aE=>∃ (n6:Int) (n7:Int),cV n6 n7=some z1∧aE=⟨54,[(0,gz aa),(1,.str ak),(6,I (aa.length:Int)),(7,I n6),(8,I n7)],[]⟩) ?_ ?_
   ·refine cB h J (fun h=>?_) (fun h=>?_)
    ·exact tR<|rM J J<|ae.qv (bf J J) J<|rA J J<|rN<|ab.stop<|aj.lq [] ⟨cd ((cd (GS .u64 (IntKind.u64.wrap (cd (n3+n4))) (1:Int)))+(1:Int)),n4,h,J⟩ J J
    ·exact tR<|rM J J<|rA J J<|rN<|ab.stop<|aj.lq [] ⟨n3,cd (GS .u64 (IntKind.u64.wrap (cd (n3+n4))) (1:Int)),h,J⟩ J J
   ·rintro aE ⟨n6,n7,h,rfl⟩
    unfold cV at h
    refine ab.bX<|ab.stop<|?_
    cases h
    exact im _ _ J<|aj.lq [] J J J
  ·refine ab.exit J<|have h:=bx h dN;?_
   unfold fA at h
   refine tS<|ab.cut (fun aE=>∃ (c8:Bool),cw n3 c8=some r∧aE=⟨54,[(4,I n3),(5,.bool c8)],[]⟩) ?_ ?_
   ·refine tR<|rM J J<|rM J J<|rM J J<|ae.qv (br J J) J<|rM J J<|gT h J J J (fun h=>?_) (fun h=>?_)
    ·refine rM J J<|rY J J J<|rM J J<|rY J J J<|ax h fun v9 e2 h=>ae.qv (aS J J J e2 J J) J<|rY J J J<|ae.qv (aJ J J J) J<|rY J J J<|rM J J<|rY J J J<|ae.qv (fC J J) J<|rY J J J<|rM J J<|gF h J J J (fun h=>?_) (fun h=>?_)
     ·refine rM J J<|rY J J J<|rM J J<|rY J J J<|ax h fun v10 e3 h=>ae.qv (aS J J J e3 J J) J<|rY J J J<|ae.qv (aJ J J J) J<|rY J J J<|aH J (sV J) cR J<|rY J J J<|rM J J<|ae.guard J J J (fun hc=>?_) (fun hc=>?_)
      ·rw [AD hc] at h
       exact rM J J<|rY J J J<|aH J (sV J) cR J<|rY J J J<|rT J J J<|rY J J J<|rE J J J<|rT J J J<|rA J J<|rA J J<|rN<|ab.stop<|aj.lq [] ⟨(fy ak),h,J⟩ J J
      ·rw [AE hc] at h
       exact rG J J J J<|rY J J J<|rE J J J<|rY J J J<|rE J J J<|rT J J J<|rA J J<|rA J J<|rN<|ab.stop<|aj.lq [] ⟨false,h,J⟩ J J
     ·exact rG J J J J<|rG J J J J<|rG J J J J<|rG J J J J<|rG J J J J<|ae.bz J J J<|ae.bz J J J<|rG J J J J<|rY J J J<|rT J J J<|rT J J J<|rA J J<|rA J J<|rN<|ab.stop<|aj.lq [] ⟨true,h,J⟩ J J
    ·exact rG J J J J<|rG J J J J<|rG J J J J<|rG J J J J<|rG J J J J<|rG J J J J<|ae.bz J J J<|ae.bz J J J<|ae.bz J J J<|ae.bz J J J<|ae.bz J J J<|ae.bz J J J<|ae.bz J J J<|ae.bz J J J<|ae.bz J J J<|rG J J J J<|rE J J J<|rA J J<|rA J J<|rN<|ab.stop<|aj.lq [] ⟨false,h,J⟩ J J
   ·rintro aE ⟨c8,h,rfl⟩
    unfold cw at h
    refine ab.ret<|?_
    cases h
    exact hQ J J J
end Go.Proofs.YtnchkajkgjkpmaaGreatDoor
