/- The code computes the plain functions: proofs written by shal.py. -/
import Derived.Test.YtnopmjdjgangdaaGreatDoorEvtW2
set_option maxHeartbeats 4000000
set_option maxRecDepth 100000
set_option linter.unusedVariables false
set_option linter.unusedSimpArgs false
namespace Go.Proofs.YtnopmjdjgangdaaGreatDoor
open Go Go.Eng Go.Proofs Go.Beacon
attribute [local irreducible] ARun ATodo AQ QV ACall ImpX AWp AM
theorem Q_SinceOf_c [GI : GTab] {p0x0 : List EventS} {p1x0 : List Seen} {r : (List EventS)} (h : Q_SinceOf p0x0 p1x0 = some r) : ACall Tryz.prog 42 [lE4 p0x0,lE6 p1x0] [] (T1 (fun d_0=>[(d_0,aE4 r)]) (fun d_0=>.sl 16 d_0 0 r.length)) := by
  unfold Q_SinceOf at h
  refine ACall.lessH ?_
  refine ACall.bodyN Tryz.func42 J Tryz.ntmps42 Tryz.results42 J J ?_
  refine tSR<|n_box J J J J fun b1=>rA J J<|rN<|tSR<|rM J J<|bndE h fun v2 e1 h=>t_call1 J (slices_Clone_Event_Event_c e1) (CoL.refl _) .nil (fun _=>J) J fun b3=>ARun.qv (q_makeFunc J) J<|bndE h fun v4 e2 h=>t_callL1 J (slices_DeleteFunc_Event_Event_c (fun e=>Q_SinceOf_1x_c e) e2) (.cons .p0 .nil) (.cons (.co (.refl _)) (.cons (.funcL _ _ _ (.cons (.boxL _ _ _ .p0 (.cons (.co (.refl _)) .nil)) .nil)) .nil)) (fun _=>J) (fun _=>J) (fun _=>(.cons (NoS.arrT (fun _=>J)) .nil)) J fun b5=>rA J J<|rN<|ATodo.ret<|?_
  obtain rfl := Option.some.inj h
  exact ImpX.here ⟨_,.cons (.tmp _ _ J) .nil,_,.cons .p0 .nil,⟨b5,J,J⟩⟩

theorem L_EventsTold_c {p0x0 : List Int} {r : Bool} (h : L_EventsTold p0x0 = some r) : Pu Tryz.prog 4 [lE0 p0x0] (.bool r) := by
  unfold L_EventsTold at h
  refine ACall.bodyN Tryz.func4 J Tryz.ntmps4 Tryz.results4 J J ?_
  refine tSR<|rA J J<|rN<|tSR<|rM J J<|ARun.qv (n_build J J J J J) J<|n_box J J J J fun b1=>rA J J<|rN<|tSR<|rM J J<|bndE h fun v2 e1 h=>t_call0 J (Stream_Kinds_c e1) (CoL.refl _) (.cons .p0 .nil) J J<|rA J J<|rN<|tSR<|rM J J<|rM J J<|bndE h fun v3 e2 h=>t_call0 J (Stream_Range_c e2) (CoL.refl _) (.cons .p0 .nil) J J<|bndE h fun v4 e3 h=>t_call1 J (Stream_Events_c e3) (CoL.refl _) (.cons .p0 .nil) (fun _=>J) J fun b5=>rA J J<|rN<|tSR<|rM J J<|bndE h fun v6 e4 h=>t_callL1 J (slices_Clone_Event_Event_c e4) .nil (.cons (CoB.arrT .p1) .nil) (fun _=>J) (fun _=>J) (fun _=>(.cons (NoS.arrT (fun _=>J)) .nil)) J fun b7=>rM J J<|bndE h fun v8 e5 h=>t_call1 J (Stream_SeenHubs_c e5) (CoL.refl _) (.cons .p1 .nil) (fun _=>J) J fun b9=>rA J J<|rA J J<|rN<|tS<|tSR<|rM J J<|bndE h fun v10 e6 h=>t_call0 J (Stream_Next_c e6) (CoL.refl _) (.cons .p0 .nil) J J<|rN<|ATodo.block<|tSR<|ARun.qv (q_eql J J) J<|rA J J<|rN<|ATodo.cut (fun σ'=>∃ (l11 : List EventS),L_EventsTold_j1 v2 v4 v8 l11 = some r ∧ σ' = ⟨186,[(4,lE3 v2.1),(5,.sl 16 b5 0 v4.1.length),(6,lE4 l11),(7,.sl 2 b9 0 v8.1.length)],[(b5,fE4 v4.1),(b9,aE6 v8.1)]⟩) ?_ ?_
  · refine ATodo.cond_d J (fun hc=>?_) (fun hc=>?_)
    · exact have h := iteT hc h; tR<|rM J J<|rM J J<|bndE h fun v12 e7 h=>t_call0 J (Stream_Range_c e7) (CoL.refl _) (.cons .p0 .nil) J J<|bndE h fun v13 e8 h=>t_call1 J (Stream_Events_c e8) (CoL.refl _) (.cons .p0 .nil) (fun _=>J) J fun b14=>rA J J<|rN<|ATodo.stop<|ImpX.freeze .p4<|ImpX.freeze .p1<|ImpX.co (s := 6) J (Co.froT .p1)<|ImpX.lq [4,2] ⟨v13.1,h,J⟩ J J
    · refine have h := iteF hc h; tSR<|ARun.qv (q_eql J J) J<|rA J J<|rN<|ATodo.cut (fun σ'=>∃ (l15 : List EventS),L_EventsTold_j2 v2 v4 v8 l15 = some r ∧ σ' = ⟨186,[(4,lE3 v2.1),(5,.sl 16 b5 0 v4.1.length),(6,lE4 l15),(7,.sl 2 b9 0 v8.1.length)],[(b5,fE4 v4.1),(b9,aE6 v8.1)]⟩) ?_ ?_
      · refine ATodo.cond_d J (fun hc=>?_) (fun hc=>?_)
        · exact have h := iteT hc h; tR<|rM J J<|rM J J<|rM J J<|ARun.qv (t_len_sl J) J<|bndE h fun v16 e9 h=>t_call0 J (Stream_Range_c e9) (CoL.refl _) (.cons .p0 .nil) J J<|bndE h fun l17 e10 h=>ARun.qv (t_slice_sl J J .none (.some _ _ _ J) J J e10) J<|rA J J<|rN<|ATodo.stop<|ImpX.freeze .p3<|ImpX.co (s := 6) J (Co.partT e10 .p3)<|ImpX.lq [3,1] ⟨l17,h,J⟩ J J
        · exact have h := iteF hc h; tK<|ATodo.stop<|ImpX.freeze .p3<|ImpX.freeze .p2<|ImpX.co (s := 6) J (Co.froT .p2)<|ImpX.lq [3,1] ⟨v6,h,J⟩ J J
      · rintro σ' ⟨l15, h, rfl⟩
        unfold L_EventsTold_j2 at h
        exact ATodo.stop<|ImpX.lq [0,0] ⟨l15,h,J⟩ J J
  · rintro σ' ⟨l11, h, rfl⟩
    unfold L_EventsTold_j1 at h
    refine ATodo.blk<|tSR<|rM J J<|bndE h fun v18 e11 h=>r_callp J (Q_ModelsFault_c e11) (CoL.refl _) J<|rM J J<|rM J J<|bndE h fun v19 e12 h=>r_callp J (Q_EventsFault_c e12) (.cons (.refl _) (.cons (Co.froT .p0) .nil)) J<|n_buildSliceL (xs := ([v18,v19] : List Int).map I) J J J J J J<|bndE h fun v20 e13 h=>r_callp J (cmp_Or_Errno_c e13) (CoL.refl _) J<|rA J J<|rN<|tS<|tSR<|rM J J<|rM J J<|bndE h fun v21 e14 h=>r_callp J (device_CheckEvents_c e14) (.cons (.refl _) (.cons (Co.froT .p0) .nil)) J<|rM J J<|ARun.qv (q_neq J J) J<|rN<|ATodo.cond_d J (fun hc=>?_) (fun hc=>?_)
    · refine have h := iteT hc h; tSR<|rA J J<|rN<|ATodo.ret<|?_
      obtain rfl := Option.some.inj h
      exact ImpX.here ⟨_,.cons (.tmp _ _ J) .nil,J⟩
    · refine have h := iteF hc h; tK<|tSR<|rM J J<|rM J J<|rM J J<|bndE h fun v22 e15 h=>t_call1 J (device_Merge_c e15) (.cons (.refl _) (.cons (Co.froT .p0) (.cons (.refl _) .nil))) .nil (fun _=>J) J fun b23=>rM J J<|rX J J J<|rX J J J<|rA J J<|rA J J<|rN<|tSR<|rM J J<|rM J J<|bndE h fun v24 e16 h=>t_call1 J (device_Known_c e16) (.cons (.refl _) (.cons (Co.froT .p1) .nil)) .nil (fun _=>J) J fun b25=>rM J J<|rX J J J<|rX J J J<|rA J J<|rA J J<|rN<|tSR<|rM J J<|rM J J<|rM J J<|bndE h fun v26 e17 h=>t_callL1 J (device_Since_c e17) .nil (.cons (.co (.refl _)) (.cons (.co (Co.froT .p2)) (.cons (CoB.arrT .p3) .nil))) (fun _=>J) (fun _=>J) (fun _=>(.cons (NoS.arrT (fun _=>J)) .nil)) J fun b27=>rM J J<|rX J J J<|rX J J J<|rA J J<|rA J J<|rN<|tSR<|rM J J<|rM J J<|rM J J<|bndE h fun v28 e18 h=>t_call1 J (device_Learn_c e18) (.cons (.refl _) (.cons (Co.froT .p3) (.cons (.refl _) .nil))) .nil (fun _=>J) J fun b29=>rM J J<|rX J J J<|rX J J J<|rA J J<|rA J J<|rN<|tSR<|rM J J<|rM J J<|rM J J<|bndE h fun v30 e19 h=>r_callp J (Q_EventsFault_c e19) (CoL.refl _) J<|n_buildSliceL (xs := ([v20,v30] : List Int).map I) J J J J J J<|bndE h fun v31 e20 h=>r_callp J (cmp_Or_Errno_c e20) (CoL.refl _) J<|rA J J<|rN<|tSR<|rA J J<|rA J J<|rN<|tSR<|rM J J<|rA J J<|rN<|tS<|tSR<|rM J J<|ARun.qv (q_eql J J) J<|rN<|ATodo.cut (fun σ'=>∃ (b33 : Bk) (n32 : Int) (l34 : List EventS),L_EventsTold_j3 v2 v4 v8 l11 v20 v22 v24 v26 v28 n32 l34 = some r ∧ σ' = ⟨186,[(4,lE3 v2.1),(5,.sl 16 b5 0 v4.1.length),(6,lE4 l11),(7,.sl 2 b9 0 v8.1.length),(8,I v20),(9,.sl 16 b23 0 v22.1.length),(10,I v22.2),(11,.sl 2 b25 0 v24.1.length),(12,I v24.2),(13,.sl 16 b27 0 v26.1.length),(14,I v26.2),(15,.sl 16 b29 0 v28.1.length),(16,I v28.2),(17,I n32),(18,.sl 16 b33 0 l34.length),(19,.nil),(20,I v20)],[(b5,fE4 v4.1),(b9,aE6 v8.1),(b23,aE4 v22.1),(b25,aE6 v24.1),(b27,aE4 v26.1),(b29,aE4 v28.1),(b33,aE4 l34)]⟩) ?_ ?_
      · refine ATodo.cond_d J (fun hc=>?_) (fun hc=>?_)
        · exact have h := iteT hc h; tR<|rM J J<|rM J J<|rM J J<|bndE h fun v35 e21 h=>t_call1 J (Q_LearnOf_c e21) (.cons (.refl _) (.cons (Co.froT .p4) (.cons (.refl _) .nil))) .nil (fun _=>J) J fun b36=>rM J J<|rX J J J<|rX J J J<|rA J J<|rA J J<|rN<|ATodo.stop<|ImpX.lq [5,5,4,3,2,1,0] ⟨b36,v35.2,v35.1,h,J⟩ J J
        · exact have h := iteF hc h; tK<|ATodo.stop<|ImpX.arr (s := 18) 16 J fun b37=>ImpX.lq [5,5,4,3,2,1,0] ⟨b37,v31,[],h,J⟩ J J
      · rintro σ' ⟨b33, n32, l34, h, rfl⟩
        unfold L_EventsTold_j3 at h
        refine tS<|tSR<|rM J J<|ARun.qv (q_eql J J) J<|rN<|ATodo.cut (fun σ'=>∃ (b38 : Bk) (l39 : List EventS) (n40 : Int),L_EventsTold_j4 v4 v8 v20 v22 v24 v26 v28 n32 l34 l39 n40 = some r ∧ σ' = ⟨186,[(5,.sl 16 b5 0 v4.1.length),(7,.sl 2 b9 0 v8.1.length),(8,I v20),(9,.sl 16 b23 0 v22.1.length),(10,I v22.2),(11,.sl 2 b25 0 v24.1.length),(12,I v24.2),(13,.sl 16 b27 0 v26.1.length),(14,I v26.2),(15,.sl 16 b29 0 v28.1.length),(16,I v28.2),(17,I n32),(18,.sl 16 b33 0 l34.length),(19,.sl 16 b38 0 l39.length),(20,I n40)],[(b5,fE4 v4.1),(b9,aE6 v8.1),(b23,aE4 v22.1),(b25,aE6 v24.1),(b27,aE4 v26.1),(b29,aE4 v28.1),(b33,aE4 l34),(b38,aE4 l39)]⟩) ?_ ?_
        · refine ATodo.cond_d J (fun hc=>?_) (fun hc=>?_)
          · refine have h := iteT hc h; tSR<|rM J J<|ARun.qv (t_len J) J<|ARun.qv (q_gtr J J) J<|r_callp J (L_when_c J) (CoL.refl _) J<|rA J J<|rN<|tSR<|rM J J<|ARun.qv (q_eql J J) J<|rN<|ATodo.cut (fun σ'=>∃ (b41 : Bk) (l42 : List EventS) (n43 : Int),L_EventsTold_j5 v4 v8 v20 v22 v24 v26 v28 n32 l34 l42 n43 = some r ∧ σ' = ⟨186,[(5,.sl 16 b5 0 v4.1.length),(7,.sl 2 b9 0 v8.1.length),(8,I v20),(9,.sl 16 b23 0 v22.1.length),(10,I v22.2),(11,.sl 2 b25 0 v24.1.length),(12,I v24.2),(13,.sl 16 b27 0 v26.1.length),(14,I v26.2),(15,.sl 16 b29 0 v28.1.length),(16,I v28.2),(17,I n32),(18,.sl 16 b33 0 l34.length),(19,.sl 16 b41 0 l42.length),(20,I n43)],[(b5,fE4 v4.1),(b9,aE6 v8.1),(b23,aE4 v22.1),(b25,aE6 v24.1),(b27,aE4 v26.1),(b29,aE4 v28.1),(b33,aE4 l34),(b41,aE4 l42)]⟩) ?_ ?_
            · refine ATodo.cond_d J (fun hc=>?_) (fun hc=>?_)
              · exact have h := iteT hc h; tR<|rM J J<|rM J J<|rM J J<|bndE h fun v44 e22 h=>t_call1 J (Q_LearnOf_c e22) (.cons (.refl _) (.cons (Co.froT .p0) (.cons (.refl _) .nil))) .nil (fun _=>J) J fun b45=>rM J J<|rX J J J<|rX J J J<|rA J J<|rA J J<|rN<|ATodo.stop<|ImpX.lq [1,1,1,1,1,1,1,0] ⟨b45,v44.1,v44.2,h,J⟩ J J
              · exact have h := iteF hc h; tK<|ATodo.stop<|ImpX.arr (s := 19) 16 J fun b46=>ImpX.lq [1,1,1,1,1,1,1,0] ⟨b46,[],(L_when (decide ((3000 : Int) < (l11.length : Int))) (2 : Int)),h,J⟩ J J
            · rintro σ' ⟨b41, l42, n43, h, rfl⟩
              unfold L_EventsTold_j5 at h
              exact ATodo.stop<|ImpX.lq [0,0,0,0,0,0,0,0] ⟨b41,l42,n43,h,J⟩ J J
          · exact have h := iteF hc h; tK<|ATodo.stop<|ImpX.arr (s := 19) 16 J fun b47=>ImpX.lq [1,1,1,1,1,1,1,0] ⟨b47,[],v20,h,J⟩ J J
        · rintro σ' ⟨b38, l39, n40, h, rfl⟩
          unfold L_EventsTold_j4 at h
          refine tS<|tS<|ATodo.cut (fun σ'=>∃ (c48 : Bool),L_EventsTold_j6 v4 v8 v20 v26 c48 = some r ∧ σ' = ⟨186,[(5,.sl 16 b5 0 v4.1.length),(7,.sl 2 b9 0 v8.1.length),(8,I v20),(13,.sl 16 b27 0 v26.1.length),(14,I v26.2),(155,.bool c48)],[(b5,fE4 v4.1),(b9,aE6 v8.1),(b27,aE4 v26.1)]⟩) ?_ ?_
          · refine tR<|rM J J<|rM J J<|ARun.qv (q_neq J J) J<|rM J J<|ARun.guard_df J J J (fun hc=>?_) (fun hc=>?_)
            · refine have h := iteF hc h; rM J J<|rY J J J<|rM J J<|rY J J J<|bndE h fun v49 e23 h=>r_callpB J (slices_Equal_Event_Event_c e23) (.cons (CoB.arrT .p2) (.cons (CoB.arrT .p6) .nil)) J J<|rY J J J<|ARun.qv (q_not J) J<|rE J J J<|rM J J<|ARun.guard J J J (fun hc=>?_) (fun hc=>?_)
              · refine have h := iteFb hc h; rM J J<|rY J J J<|rM J J<|rY J J J<|ARun.qv (q_neq J J) J<|rE J J J<|rM J J<|ARun.guard_df J J J (fun hc=>?_) (fun hc=>?_)
                · refine have h := iteF hc h; rM J J<|rY J J J<|rM J J<|rY J J J<|bndE h fun v50 e24 h=>r_callpB J (slices_Equal_Event_Event_c e24) (.cons (CoB.arrT .p5) (.cons (CoB.arrT .p7) .nil)) J J<|rY J J J<|ARun.qv (q_not J) J<|rE J J J<|rM J J<|ARun.guard J J J (fun hc=>?_) (fun hc=>?_)
                  · refine have h := iteFb hc h; rM J J<|rY J J J<|rM J J<|rY J J J<|ARun.qv (q_neq J J) J<|rE J J J<|rM J J<|ARun.guard_df J J J (fun hc=>?_) (fun hc=>?_)
                    · refine have h := iteF hc h; rM J J<|rY J J J<|ARun.qv (q_eql J J) J<|rY J J J<|rM J J<|ARun.guard_dt J J J (fun hc=>?_) (fun hc=>?_)
                      · exact have h := iteT hc h; rM J J<|rY J J J<|rM J J<|rY J J J<|bndE h fun v51 e25 h=>t_call1 J (Q_KnownOf_c e25) (.cons (Co.froT .p0) .nil) .nil (fun _=>J) J fun b52=>rY J J J<|bndE h fun v53 e26 h=>r_callpB J (slices_Equal_Seen_Seen_c e26) (.cons (CoB.arrT .p4) (.cons (CoB.arrT .p0) .nil)) J J<|rY J J J<|ARun.qv (q_not J) J<|rY J J J<|rT J J J<|rE J J J<|rN<|ATodo.stop<|ImpX.lq [1,1,3] ⟨!v53,h,J⟩ J J
                      · exact have h := iteF hc h; rG J J J J<|rG J J J J<|rG J J J J<|rG J J J J<|rY J J J<|rE J J J<|rE J J J<|rN<|ATodo.stop<|ImpX.lq [0,0,2] ⟨false,h,J⟩ J J
                    · exact have h := iteT hc h; rG J J J J<|rG J J J J<|ARun.guard_und J J J<|ARun.guard_und J J J<|ARun.guard_und J J J<|ARun.guard_und J J J<|ARun.guard_und J J J<|rG J J J J<|rT J J J<|rN<|ATodo.stop<|ImpX.lq [0,0,2] ⟨true,h,J⟩ J J
                  · exact have h := iteT hc h; rG J J J J<|rG J J J J<|rT J J J<|rM J J<|rG J J J J<|rG J J J J<|rG J J J J<|ARun.guard_und J J J<|ARun.guard_und J J J<|ARun.guard_und J J J<|ARun.guard_und J J J<|ARun.guard_und J J J<|rG J J J J<|rT J J J<|rN<|ATodo.stop<|ImpX.lq [0,0,2] ⟨true,h,J⟩ J J
                · exact have h := iteT hc h; rG J J J J<|rG J J J J<|rG J J J J<|rT J J J<|rM J J<|rG J J J J<|rG J J J J<|rG J J J J<|rT J J J<|rM J J<|rG J J J J<|rG J J J J<|rG J J J J<|ARun.guard_und J J J<|ARun.guard_und J J J<|ARun.guard_und J J J<|ARun.guard_und J J J<|ARun.guard_und J J J<|rG J J J J<|rT J J J<|rN<|ATodo.stop<|ImpX.lq [0,0,2] ⟨true,h,J⟩ J J
              · exact have h := iteT hc h; rG J J J J<|rG J J J J<|rT J J J<|rM J J<|rG J J J J<|rG J J J J<|rG J J J J<|rG J J J J<|rT J J J<|rM J J<|rG J J J J<|rG J J J J<|rG J J J J<|rT J J J<|rM J J<|rG J J J J<|rG J J J J<|rG J J J J<|ARun.guard_und J J J<|ARun.guard_und J J J<|ARun.guard_und J J J<|ARun.guard_und J J J<|ARun.guard_und J J J<|rG J J J J<|rT J J J<|rN<|ATodo.stop<|ImpX.lq [0,0,2] ⟨true,h,J⟩ J J
            · exact have h := iteT hc h; rG J J J J<|rG J J J J<|rG J J J J<|rT J J J<|rM J J<|rG J J J J<|rG J J J J<|rG J J J J<|rT J J J<|rM J J<|rG J J J J<|rG J J J J<|rG J J J J<|rG J J J J<|rT J J J<|rM J J<|rG J J J J<|rG J J J J<|rG J J J J<|rT J J J<|rM J J<|rG J J J J<|rG J J J J<|rG J J J J<|ARun.guard_und J J J<|ARun.guard_und J J J<|ARun.guard_und J J J<|ARun.guard_und J J J<|ARun.guard_und J J J<|rG J J J J<|rT J J J<|rN<|ATodo.stop<|ImpX.lq [0,0,2] ⟨true,h,J⟩ J J
          · rintro σ' ⟨c48, h, rfl⟩
            unfold L_EventsTold_j6 at h
            refine ATodo.cond J (fun hc=>?_) (fun hc=>?_)
            · refine have h := iteT hc h; tSR<|rA J J<|rN<|ATodo.ret<|?_
              obtain rfl := Option.some.inj h
              exact ImpX.here ⟨_,.cons (.tmp _ _ J) .nil,J⟩
            · refine have h := iteFb hc h; tK<|tS<|tSR<|rM J J<|rM J J<|bndE h fun v54 e27 h=>r_callpB J (Q_SeenFault_c e27) (.cons (CoB.arrT .p1) .nil) J J<|n_buildSliceL (xs := ([v20,v54] : List Int).map I) J J J J J J<|bndE h fun v55 e28 h=>r_callp J (cmp_Or_Errno_c e28) (CoL.refl _) J<|rA J J<|rN<|tSR<|rM J J<|ARun.qv (q_neq J J) J<|rN<|ATodo.cond_d J (fun hc=>?_) (fun hc=>?_)
              · refine have h := iteT hc h; tS<|ATodo.cut (fun σ'=>∃ (c56 : Bool),L_EventsTold_j7 c56 = some r ∧ σ' = ⟨186,[(2,.bool c56)],[]⟩) ?_ ?_
                · refine tR<|rM J J<|rM J J<|ARun.qv (q_eql J J) J<|rM J J<|ARun.guard_dt J J J (fun hc=>?_) (fun hc=>?_)
                  · refine have h := iteT hc h; rM J J<|rY J J J<|ARun.qv (t_len_sl J) J<|rY J J J<|ARun.qv (q_eql J J) J<|rT J J J<|rM J J<|ARun.guard_dt J J J (fun hc=>?_) (fun hc=>?_)
                    · exact have h := iteT hc h; bndE h fun v57 e29 h=>r_callp J (L_deviced_c e29) (CoL.refl _) J<|rT J J J<|rA J J<|rN<|ATodo.stop<|ImpX.lq [] ⟨v57,h,J⟩ J J
                    · exact have h := iteF hc h; rE J J J<|rA J J<|rN<|ATodo.stop<|ImpX.lq [] ⟨false,h,J⟩ J J
                  · exact have h := iteF hc h; rG J J J J<|rG J J J J<|rE J J J<|rM J J<|rG J J J J<|rE J J J<|rA J J<|rN<|ATodo.stop<|ImpX.lq [] ⟨false,h,J⟩ J J
                · rintro σ' ⟨c56, h, rfl⟩
                  unfold L_EventsTold_j7 at h
                  refine ATodo.ret<|?_
                  obtain rfl := Option.some.inj h
                  exact ImpX.here ⟨_,.cons (.tmp _ _ J) .nil,J⟩
              · refine have h := iteF hc h; tK<|tS<|ATodo.cut (fun σ'=>∃ (c58 : Bool),L_EventsTold_j8 c58 = some r ∧ σ' = ⟨186,[(2,.bool c58)],[]⟩) ?_ ?_
                · refine tR<|rM J J<|ARun.qv (q_eql J J) J<|rM J J<|ARun.guard_dt J J J (fun hc=>?_) (fun hc=>?_)
                  · refine have h := iteT hc h; rM J J<|rY J J J<|rM J J<|rY J J J<|rM J J<|rY J J J<|bndE h fun v59 e30 h=>t_callL1 J (Q_SinceOf_c e30) .nil (.cons (.co (Co.froT .p0)) (.cons (CoB.arrT .p1) .nil)) (fun _=>J) (fun _=>J) (fun _=>(.cons (NoS.arrT (fun _=>J)) .nil)) J fun b60=>rY J J J<|bndE h fun v61 e31 h=>r_callpB J (slices_Equal_Event_Event_c e31) (.cons (CoB.arrT .p3) (.cons (CoB.arrT .p0) .nil)) J J<|rT J J J<|rM J J<|ARun.guard J J J (fun hc=>?_) (fun hc=>?_)
                    · exact have h := iteT hc h; bndE h fun v62 e32 h=>r_callp J (L_deviced_c e32) (CoL.refl _) J<|rT J J J<|rA J J<|rN<|ATodo.stop<|ImpX.lq [] ⟨v62,h,J⟩ J J
                    · exact have h := iteFb hc h; rE J J J<|rA J J<|rN<|ATodo.stop<|ImpX.lq [] ⟨false,h,J⟩ J J
                  · exact have h := iteF hc h; rG J J J J<|rG J J J J<|rG J J J J<|rG J J J J<|rE J J J<|rM J J<|rG J J J J<|rE J J J<|rA J J<|rN<|ATodo.stop<|ImpX.lq [] ⟨false,h,J⟩ J J
                · rintro σ' ⟨c58, h, rfl⟩
                  unfold L_EventsTold_j8 at h
                  refine ATodo.ret<|?_
                  obtain rfl := Option.some.inj h
                  exact ImpX.here ⟨_,.cons (.tmp _ _ J) .nil,J⟩

end Go.Proofs.YtnopmjdjgangdaaGreatDoor

