/- The code computes the plain functions: proofs written by shal.py. -/
import Derived.Test.YtpibecbdhjbanaaGreatDoorWbeW2
set_option maxHeartbeats 4000000
set_option maxRecDepth 100000
set_option linter.unusedVariables false
set_option linter.unusedSimpArgs false
namespace Go.Proofs.YtpibecbdhjbanaaGreatDoor
open Go Go.Eng Go.Proofs Go.Beacon
attribute [local irreducible] ARun ATodo AQ QV ACall ImpX AWp AM
theorem slices_Equal_int_int_c [GI : GTab] {p0x0 : List Int} {p1x0 : List Int} {r : Bool} (h : slices_Equal_int_int p0x0 p1x0 = some r) : Pu Tryz.prog 25 [lE0 p0x0,lE0 p1x0] (.bool r) := by
  unfold slices_Equal_int_int at h
  refine ACall.bodyN Tryz.func25 J Tryz.ntmps25 Tryz.results25 J J ?_
  refine tSR<|rA J J<|rN<|tS<|tSR<|rM J J<|ARun.qv (t_len J) J<|rM J J<|ARun.qv (t_len J) J<|ARun.qv (q_neq J J) J<|rN<|ATodo.cond_d J (fun hc=>?_) (fun hc=>?_)
  · refine have h := iteT hc h; tSR<|rA J J<|rN<|ATodo.ret<|?_
    obtain rfl := Option.some.inj h
    exact ImpX.here ⟨_,.cons (.tmp _ _ J) .nil,J⟩
  · refine have h := iteF hc h; tK<|tS<|tSR<|rM J J<|ARun.qv (t_len J) J<|rM J J<|rN<|ATodo.block<|ATodo.loopI (fun x : Int=>slices_Equal_int_int_b1 p0x0 p1x0 x) (fun x σ'=>σ' = ⟨26,[(0,lE0 p0x0),(1,lE0 p1x0),(12,I (p0x0.length : Int)),(13,I x)],[]⟩) h ?_ ?_
    · exact ImpX.lq [] J J J
    · intro n2 z1 σ' J1 hmk h hJ1 hA1
      obtain rfl := hmk
      replace h : slices_Equal_int_int_b1 p0x0 p1x0 n2 = some z1 := h
      unfold slices_Equal_int_int_b1 at h
      refine tSR<|ARun.qv (q_lss J J) J<|rN<|tS<|ATodo.cond_d J (fun hc=>?_) (fun hc=>?_)
      · refine have h := iteT hc h; tK<|tS<|ATodo.block<|tSR<|rM J J<|rA J J<|rN<|tS<|ATodo.regionM (id := 6) (A := [0,0,3,7,0,0,48,112,255]) 9 mixed J (by kernel_rfl) (by kernel_rfl)<|AM.qv (q_move J) J<|AM.qv (q_move J) J<|bndE h fun v3 e1 h=>AM.qv (t_index J J J e1 J J) J<|AM.qv (q_load_rptr J J J) J<|AM.qv (q_move J) J<|AM.qv (q_move J) J<|bndE h fun v4 e2 h=>AM.qv (t_index J J J e2 J J) J<|AM.qv (q_load_rptr J J J) J<|AM.qv (q_neq J J) J<|AM.nil<|rN<|ATodo.cond_d J (fun hc=>?_) (fun hc=>?_)
        · refine have h := iteT hc h; tSR<|rA J J<|rN<|ATodo.ret<|have h := outL h hA1; ?_
          obtain rfl := Option.some.inj h
          exact ImpX.here ⟨_,.cons (.tmp _ _ J) .nil,J⟩
        · refine have h := iteF hc h; tK<|ATodo.blk<|tR<|ARun.qv (q_addw J J) J<|rM J J<|rN<|ATodo.stop<|?_
          obtain rfl := Option.some.inj h
          exact hJ1 _ _ J<|ImpX.lq [] J J J
      · refine have h := iteF hc h; ATodo.exit J<|have h := outL h hA1; tSR<|rA J J<|rN<|ATodo.ret<|?_
        obtain rfl := Option.some.inj h
        exact ImpX.here ⟨_,.cons (.tmp _ _ J) .nil,J⟩

theorem L_WavesBegin_c {p0x0 : List Int} {r : Bool} (h : L_WavesBegin p0x0 = some r) : Pu Tryz.prog 4 [lE0 p0x0] (.bool r) := by
  unfold L_WavesBegin at h
  refine ACall.bodyN Tryz.func4 J Tryz.ntmps4 Tryz.results4 J J ?_
  refine tSR<|rA J J<|rN<|tSR<|rM J J<|ARun.qv (n_build J J J J J) J<|n_box J J J J fun b1=>rA J J<|rN<|tSR<|rM J J<|bndE h fun v2 e1 h=>t_call0 J (Stream_Campaign_c e1) (CoL.refl _) (.cons .p0 .nil) J J<|rM J J<|bndE h fun v3 e2 h=>t_call1 J (Stream_Fleet_c e2) (CoL.refl _) (.cons .p0 .nil) (fun _=>J) J fun b4=>rM J J<|n_buildSliceL (xs := ([(0 : Int),(10 : Int),(50 : Int),(100 : Int),(150 : Int),(300 : Int),(300 : Int),(-1 : Int)]).map I) J J J J J J<|bndE h fun v5 e3 h=>t_call0 J (Stream_Pick_c e3) (CoL.refl _) (.cons .p0 .nil) J J<|n_alloc J J J J fun b6=>n_store_ptr J J J J .p0 J J<|rA J J<|rA J J<|rN<|tS<|bndE h fun v7 e4 h=>ATodo.regionT (id := 3) (A := [0,0,0,0,8,31,63]) (H0 := [(b1,.cells [lE0 v5.2.L,I v5.2.at_])]) (HH := fun β=>[(b1,.cells [lE0 v7.2.L,I v7.2.at_]),(b6,.cells (cE1 v2.1)),(b4,aE3 v3.1)]) 5 mixed J (by kernel_rfl) (by kernel_rfl) [⟨none,some 4,[],fun _=>(b1,.cells [lE0 v5.2.L,I v5.2.at_]),none,[]⟩,⟨some 4,none,[],fun _=>(b1,.cells [lE0 v7.2.L,I v7.2.at_]),none,[]⟩] [] J (by kernel_rfl) J (.cons .p1 .nil) (fun _=>J)<|AT.am 4 J J<|AM.qv (q_move J) J<|AM.qv (q_load_ptr_all J J .p0 J) J<|AM.qv (q_move J) J<|AM.qv (q_move J) J<|AM.nil<|AT.runS (av := I v7.1) (Ti := [(b1,.cells [lE0 v5.2.L,I v5.2.at_])]) (Pi := [(b1,.cells [lE0 v7.2.L,I v7.2.at_])]) (fun _=>J) (fun _=>J) (fun _=>J) J J J ?_ ?_
  · exact t_call0 J (Stream_Range_c e4) (CoL.refl _) (.cons .p0 .nil) J J<|ARun.nil ⟨_,J,J⟩
  refine AT.nilN (fun _=>J) fun β=>bndE h fun v8 e5 h=>ARun.ghost<|ImpX.freeze .p2<|ImpX.here<|t_call1 J (Stream_Marks_c e5) (.cons (.refl _) (.cons (.refl _) (.cons (Co.froT .p2) (.cons (.refl _) .nil)))) (.cons .p0 .nil) (fun _=>J) J fun b9=>rA J J<|rN<|tSR<|ARun.qv (q_load_ptr_all J J .p2 J) J<|rM J J<|rM J J<|rM J J<|bndE h fun v10 e6 h=>t_callL1 J (campaign_Begins_c e6) .nil (.cons (.co (.refl _)) (.cons (.co (Co.froT .p3)) (.cons (CoB.arrT .p1) (.cons (.co (.refl _)) .nil)))) (fun _=>J) (fun _=>J) (fun _=>(.cons (NoS.arrT (fun _=>J)) .nil)) J fun b11=>rM J J<|rX J J J<|rX J J J<|rA J J<|rA J J<|rN<|tSR<|ARun.qv (q_load_ptr_all J J .p3 J) J<|rM J J<|rM J J<|rM J J<|bndE h fun v12 e7 h=>r_callpB J (campaign_Stopped_c e7) (.cons (.co (.refl _)) (.cons (.co (Co.froT .p4)) (.cons (CoB.arrT .p2) (.cons (.co (.refl _)) .nil)))) J J<|rM J J<|rX J J J<|rX J J J<|rA J J<|rA J J<|rN<|tSR<|ARun.qv (q_load_ptr_all J J .p3 J) J<|bndE h fun v13 e8 h=>r_callp J (Q_CampaignFault_c e8) (CoL.refl _) J<|rM J J<|bndE h fun v14 e9 h=>r_callp J (Q_FleetFault_c e9) (.cons (Co.froT .p4) .nil) J<|rM J J<|bndE h fun v15 e10 h=>r_callpB J (Q_MarksFault_c e10) (.cons (CoB.arrT .p2) .nil) J J<|rM J J<|r_callp J (L_momentFault_c J) (CoL.refl _) J<|n_buildSliceL (xs := ([v13,v14,v15,(L_momentFault v5.1)] : List Int).map I) J J J J J J<|bndE h fun v16 e11 h=>r_callp J (L_errs_c e11) (CoL.refl _) J<|rA J J<|rN<|tS<|tSR<|rM J J<|ARun.qv (q_neq J J) J<|rN<|ATodo.cond_d J (fun hc=>?_) (fun hc=>?_)
  · refine have h := iteT hc h; tS<|ATodo.cut (fun σ'=>∃ (c17 : Bool),L_WavesBegin_j1 c17 = some r ∧ σ' = ⟨104,[(2,.bool c17)],[]⟩) ?_ ?_
    · refine tR<|rM J J<|rM J J<|ARun.qv (q_eql J J) J<|rM J J<|ARun.guard_dt J J J (fun hc=>?_) (fun hc=>?_)
      · refine have h := iteT hc h; rM J J<|rY J J J<|rM J J<|rY J J J<|ARun.qv (q_eql J J) J<|rT J J J<|rM J J<|ARun.guard_dt J J J (fun hc=>?_) (fun hc=>?_)
        · refine have h := iteT hc h; rM J J<|rY J J J<|ARun.qv (t_len_sl J) J<|rY J J J<|ARun.qv (q_eql J J) J<|rT J J J<|rM J J<|ARun.guard_dt J J J (fun hc=>?_) (fun hc=>?_)
          · refine have h := iteT hc h; rM J J<|rY J J J<|ARun.qv (q_eql J J) J<|rT J J J<|rM J J<|ARun.guard_dt J J J (fun hc=>?_) (fun hc=>?_)
            · exact have h := iteT hc h; bndE h fun v18 e12 h=>r_callp J (L_versioned_c e12) (CoL.refl _) J<|rT J J J<|rA J J<|rN<|ATodo.stop<|ImpX.lq [] ⟨v18,h,J⟩ J J
            · exact have h := iteF hc h; rE J J J<|rA J J<|rN<|ATodo.stop<|ImpX.lq [] ⟨false,h,J⟩ J J
          · exact have h := iteF hc h; rG J J J J<|rE J J J<|rM J J<|rG J J J J<|rE J J J<|rA J J<|rN<|ATodo.stop<|ImpX.lq [] ⟨false,h,J⟩ J J
        · exact have h := iteF hc h; rG J J J J<|rG J J J J<|rE J J J<|rM J J<|rG J J J J<|rG J J J J<|rE J J J<|rM J J<|rG J J J J<|rE J J J<|rA J J<|rN<|ATodo.stop<|ImpX.lq [] ⟨false,h,J⟩ J J
      · exact have h := iteF hc h; rG J J J J<|rG J J J J<|rE J J J<|rM J J<|rG J J J J<|rG J J J J<|rG J J J J<|rE J J J<|rM J J<|rG J J J J<|rG J J J J<|rE J J J<|rM J J<|rG J J J J<|rE J J J<|rA J J<|rN<|ATodo.stop<|ImpX.lq [] ⟨false,h,J⟩ J J
    · rintro σ' ⟨c17, h, rfl⟩
      unfold L_WavesBegin_j1 at h
      refine ATodo.ret<|?_
      obtain rfl := Option.some.inj h
      exact ImpX.here ⟨_,.cons (.tmp _ _ J) .nil,J⟩
  · refine have h := iteF hc h; tK<|tS<|ATodo.cut (fun σ'=>∃ (c19 : Bool),L_WavesBegin_j2 c19 = some r ∧ σ' = ⟨104,[(2,.bool c19)],[]⟩) ?_ ?_
    · refine tR<|rM J J<|ARun.qv (q_eql J J) J<|rM J J<|ARun.guard_dt J J J (fun hc=>?_) (fun hc=>?_)
      · refine have h := iteT hc h; rM J J<|rY J J J<|ARun.qv (q_eql J J) J<|rT J J J<|rM J J<|ARun.guard_dt J J J (fun hc=>?_) (fun hc=>?_)
        · refine have h := iteT hc h; rM J J<|rY J J J<|ARun.qv (q_load_ptr_all J J .p3 J) J<|rY J J J<|rM J J<|rY J J J<|rM J J<|rY J J J<|rM J J<|rY J J J<|bndE h fun v20 e13 h=>t_callL1 J (Q_BeginsOf_c e13) .nil (.cons (.co (.refl _)) (.cons (.co (Co.froT .p4)) (.cons (CoB.arrT .p2) (.cons (.co (.refl _)) .nil)))) (fun _=>J) (fun _=>J) (fun _=>(.cons (NoS.arrT (fun _=>J)) .nil)) J fun b21=>rY J J J<|bndE h fun v22 e14 h=>r_callpB J (slices_Equal_int_int_c e14) (.cons (CoB.arrT .p1) (.cons (CoB.arrT .p0) .nil)) J J<|rT J J J<|rM J J<|ARun.guard J J J (fun hc=>?_) (fun hc=>?_)
          · refine have h := iteT hc h; rM J J<|rY J J J<|ARun.qv (q_load_ptr_all J J .p4 J) J<|rY J J J<|rM J J<|rY J J J<|rM J J<|rY J J J<|rM J J<|rY J J J<|bndE h fun v23 e15 h=>r_callpB J (Q_StoppedOf_c e15) (.cons (.co (.refl _)) (.cons (.co (Co.froT .p5)) (.cons (CoB.arrT .p3) (.cons (.co (.refl _)) .nil)))) J J<|rY J J J<|ARun.qv (q_eql J J) J<|rT J J J<|rM J J<|ARun.guard_dt J J J (fun hc=>?_) (fun hc=>?_)
            · exact have h := iteT hc h; bndE h fun v24 e16 h=>r_callp J (L_versioned_c e16) (CoL.refl _) J<|rT J J J<|rA J J<|rN<|ATodo.stop<|ImpX.lq [] ⟨v24,h,J⟩ J J
            · exact have h := iteF hc h; rE J J J<|rA J J<|rN<|ATodo.stop<|ImpX.lq [] ⟨false,h,J⟩ J J
          · exact have h := iteFb hc h; rG J J J J<|rG J J J J<|rG J J J J<|rG J J J J<|rG J J J J<|rG J J J J<|rE J J J<|rM J J<|rG J J J J<|rE J J J<|rA J J<|rN<|ATodo.stop<|ImpX.lq [] ⟨false,h,J⟩ J J
        · exact have h := iteF hc h; rG J J J J<|rG J J J J<|rG J J J J<|rG J J J J<|rG J J J J<|rG J J J J<|rE J J J<|rM J J<|rG J J J J<|rG J J J J<|rG J J J J<|rG J J J J<|rG J J J J<|rG J J J J<|rG J J J J<|rE J J J<|rM J J<|rG J J J J<|rE J J J<|rA J J<|rN<|ATodo.stop<|ImpX.lq [] ⟨false,h,J⟩ J J
      · exact have h := iteF hc h; rG J J J J<|rE J J J<|rM J J<|rG J J J J<|rG J J J J<|rG J J J J<|rG J J J J<|rG J J J J<|rG J J J J<|rG J J J J<|rE J J J<|rM J J<|rG J J J J<|rG J J J J<|rG J J J J<|rG J J J J<|rG J J J J<|rG J J J J<|rG J J J J<|rE J J J<|rM J J<|rG J J J J<|rE J J J<|rA J J<|rN<|ATodo.stop<|ImpX.lq [] ⟨false,h,J⟩ J J
    · rintro σ' ⟨c19, h, rfl⟩
      unfold L_WavesBegin_j2 at h
      refine ATodo.ret<|?_
      obtain rfl := Option.some.inj h
      exact ImpX.here ⟨_,.cons (.tmp _ _ J) .nil,J⟩

end Go.Proofs.YtpibecbdhjbanaaGreatDoor

