/- The code computes the plain functions: proofs written by shal.py. -/
import Derived.Test.YtppnalkmokajgaaGreatDoorRtuW1
set_option maxHeartbeats 4000000
set_option maxRecDepth 100000
set_option linter.unusedVariables false
set_option linter.unusedSimpArgs false
namespace Go.Proofs.YtppnalkmokajgaaGreatDoor
open Go Go.Eng Go.Proofs Go.Beacon
attribute [local irreducible] ARun ATodo AQ QV ACall ImpX AWp AM
theorem Q_RulesFault_1x_c [GI : GTab] {p0x0 : Int} {r : Bool} (h : Q_RulesFault_1x p0x0 = r) : Pu Tryz.prog 77 [I p0x0] (.bool r) := by
  unfold Q_RulesFault_1x at h
  refine ACall.bodyN Tryz.func77 J Tryz.ntmps77 Tryz.results77 J J ?_
  refine tSR<|rA J J<|rN<|tSR<|rM J J<|r_callp J (Q_in_c J) (CoL.refl _) J<|rA J J<|rN<|ATodo.ret<|?_
  obtain rfl := h
  exact ImpX.here ⟨_,.cons (.tmp _ _ J) .nil,J⟩

theorem Q_RulesFault_c {p0x0 : List Rule} {r : Int} (h : Q_RulesFault p0x0 = some r) : Pu Tryz.prog 18 [lE3 p0x0] (I r) := by
  unfold Q_RulesFault at h
  refine ACall.bodyN Tryz.func18 J Tryz.ntmps18 Tryz.results18 J J ?_
  refine tSR<|rA J J<|rN<|tS<|tSR<|rM J J<|ARun.qv (t_len J) J<|ARun.qv (q_gtr J J) J<|rN<|ATodo.cond_d J (fun hc=>?_) (fun hc=>?_)
  · refine have h := iteT hc h; tSR<|rA J J<|rN<|ATodo.ret<|?_
    obtain rfl := Option.some.inj h
    exact ImpX.here ⟨_,.cons (.tmp _ _ J) .nil,J⟩
  · refine have h := iteF hc h; tK<|tSR<|rA J J<|rN<|tS<|tSR<|rM J J<|ARun.qv (t_len J) J<|rM J J<|rN<|ATodo.block<|ATodo.loopI (fun x : Int=>Q_RulesFault_b1 p0x0 x) (fun x σ'=>σ' = ⟨105,[(0,lE3 p0x0),(3,.func (.func 77) []),(9,lE3 p0x0),(10,I (p0x0.length : Int)),(11,I x)],[]⟩) h ?_ ?_
    · exact ImpX.lq [] J J J
    · intro n2 z1 σ' J1 hmk h hJ1 hA1
      obtain rfl := hmk
      replace h : Q_RulesFault_b1 p0x0 n2 = some z1 := h
      unfold Q_RulesFault_b1 at h
      refine tSR<|ARun.qv (q_lss J J) J<|rN<|tS<|ATodo.cond_d J (fun hc=>?_) (fun hc=>?_)
      · refine have h := iteT hc h; tK<|tS<|ATodo.block<|tSR<|rM J J<|bndE h fun v3 e1 h=>ARun.qv (t_index J J J e1 J J) J<|ARun.qv (q_load_rptr_agg J J J) J<|n_alloc J J J J fun b4=>rA J J<|n_store_ptr J J J J .p0 J J<|rN<|ATodo.block<|tSR<|rF J J J<|rL J J .p0 J J<|bndE h fun v5 e2 h=>r_callp J (Q_Key_c e2) (CoL.refl _) J<|ARun.qv (q_not J) J<|rA J J<|rN<|ATodo.cond J (fun hc=>?_) (fun hc=>?_)
        · refine have h := iteT hc h; tSR<|rA J J<|rN<|ATodo.ret<|have h := outL h hA1; ?_
          obtain rfl := Option.some.inj h
          exact ImpX.here ⟨_,.cons (.tmp _ _ J) .nil,J⟩
        · refine have h := iteFb hc h; tS<|ATodo.cut (fun σ'=>∃ (c6 : Bool),Q_RulesFault_j1 n2 v3 c6 = some z1 ∧ σ' = ⟨105,[(0,lE3 p0x0),(3,.func (.func 77) []),(5,.ptr b4 0),(9,lE3 p0x0),(10,I (p0x0.length : Int)),(11,I n2),(21,.bool c6)],[(b4,.cells (cE0 v3))]⟩) ?_ ?_
          · refine ATodo.regionM (id := 9) (A := [0,1,3,7,15,7,7,71,231,487,999,2047,4095,8191]) 14 mixed J (by kernel_rfl) (by kernel_rfl)<|AM.qv (q_move J) J<|AM.qv (q_gtr J J) J<|AM.qv (q_move J) J<|AM.guard_dt J J J (fun hc=>?_) (fun hc=>?_)
            · exact have h := iteT hc h; AM.qv (n_field_ptr J J) J<|AM.guard_yes J J J<|AM.qv (q_load_ptr J J .p0 J) J<|AM.guard_yes J J J<|AM.qv (q_move J) J<|AM.guard_yes J J J<|AM.qv (q_move J) J<|AM.guard_yes J J J<|AM.qv (q_subw J J) J<|AM.guard_yes J J J<|bndE h fun v7 e3 h=>AM.qv (t_index J J J e3 J J) J<|AM.guard_yes J J J<|AM.qv (n_field_rptr J J) J<|AM.guard_yes J J J<|AM.qv (q_load_rptr J J J) J<|AM.guard_yes J J J<|AM.qv (t_sleq J J) J<|AM.qv (q_pick_t J J) J<|AM.qv (q_assign J) J<|AM.nil<|rN<|ATodo.stop<|ImpX.lq [0] ⟨Op.bytesLess v3.Key v7.Key || v3.Key == v7.Key,h,J⟩ J J
            · exact have h := iteF hc h; AM.guard_no J J J J<|AM.guard_no J J J J<|AM.guard_no J J J J<|AM.guard_no J J J J<|AM.guard_no J J J J<|AM.guard_no J J J J<|AM.guard_no J J J J<|AM.guard_no J J J J<|AM.qv (q_pick_f J J) J<|AM.qv (q_assign J) J<|AM.nil<|rN<|ATodo.stop<|ImpX.lq [0] ⟨false,h,J⟩ J J
          · rintro σ' ⟨c6, h, rfl⟩
            unfold Q_RulesFault_j1 at h
            refine ATodo.cond J (fun hc=>?_) (fun hc=>?_)
            · refine have h := iteT hc h; tSR<|rA J J<|rN<|ATodo.ret<|have h := outL h hA1; ?_
              obtain rfl := Option.some.inj h
              exact ImpX.here ⟨_,.cons (.tmp _ _ J) .nil,J⟩
            · refine have h := iteFb hc h; tSR<|rF J J J<|rL J J .p0 J J<|bndE h fun v8 e4 h=>r_callp J (Q_Key_c e4) (CoL.refl _) J<|ARun.qv (q_not J) J<|rA J J<|rN<|ATodo.cond J (fun hc=>?_) (fun hc=>?_)
              · refine have h := iteT hc h; tSR<|rA J J<|rN<|ATodo.ret<|have h := outL h hA1; ?_
                obtain rfl := Option.some.inj h
                exact ImpX.here ⟨_,.cons (.tmp _ _ J) .nil,J⟩
              · refine have h := iteFb hc h; tSR<|rF J J J<|rL J J .p0 J J<|r_callp J (Q_in_c J) (CoL.refl _) J<|ARun.qv (q_not J) J<|rA J J<|rN<|ATodo.cond J (fun hc=>?_) (fun hc=>?_)
                · refine have h := iteT hc h; tSR<|rA J J<|rN<|ATodo.ret<|have h := outL h hA1; ?_
                  obtain rfl := Option.some.inj h
                  exact ImpX.here ⟨_,.cons (.tmp _ _ J) .nil,J⟩
                · refine have h := iteFb hc h; tS<|ATodo.cut (fun σ'=>∃ (c9 : Bool),Q_RulesFault_j2 n2 v3 c9 = some z1 ∧ σ' = ⟨105,[(0,lE3 p0x0),(3,.func (.func 77) []),(5,.ptr b4 0),(9,lE3 p0x0),(10,I (p0x0.length : Int)),(11,I n2),(45,.bool c9)],[(b4,.cells (cE0 v3))]⟩) ?_ ?_
                  · refine tR<|rF J J J<|rL J J .p0 J J<|r_callp J (Q_in_c J) (CoL.refl _) J<|ARun.qv (q_not J) J<|rM J J<|ARun.guard J J J (fun hc=>?_) (fun hc=>?_)
                    · rw [orFb hc] at h
                      refine rM J J<|rY J J J<|rF J J J<|rY J J J<|rL J J .p0 J J<|rY J J J<|r_callvp J J (Q_RulesFault_1x_c J) (CoL.refl _) J<|rY J J J<|ARun.qv (q_not J) J<|rE J J J<|rM J J<|ARun.guard J J J (fun hc=>?_) (fun hc=>?_)
                      · rw [orFb hc] at h
                        refine rM J J<|rY J J J<|rF J J J<|rY J J J<|rL J J .p0 J J<|rY J J J<|r_callvp J J (Q_RulesFault_1x_c J) (CoL.refl _) J<|rY J J J<|ARun.qv (q_not J) J<|rE J J J<|rM J J<|ARun.guard J J J (fun hc=>?_) (fun hc=>?_)
                        · rw [orFb hc] at h
                          refine rF J J J<|rY J J J<|rL J J .p0 J J<|rY J J J<|rM J J<|ARun.guard J J J (fun hc=>?_) (fun hc=>?_)
                          · rw [if_pos hc] at h
                            refine rF J J J<|rY J J J<|rL J J .p0 J J<|rY J J J<|rF J J J<|rY J J J<|rL J J .p0 J J<|rY J J J<|ARun.qv (q_gtr J J) J<|rY J J J<|rT J J J<|rE J J J<|rM J J<|ARun.guard_df J J J (fun hc=>?_) (fun hc=>?_)
                            · rw [orFd hc] at h
                              refine rF J J J<|rY J J J<|rL J J .p0 J J<|rY J J J<|ARun.qv (q_not J) J<|rY J J J<|rM J J<|ARun.guard J J J (fun hc=>?_) (fun hc=>?_)
                              · rw [if_pos hc] at h
                                refine rF J J J<|rY J J J<|rL J J .p0 J J<|rY J J J<|rF J J J<|rY J J J<|rL J J .p0 J J<|rY J J J<|ARun.qv (q_lss J J) J<|rY J J J<|rT J J J<|rE J J J<|rM J J<|ARun.guard_df J J J (fun hc=>?_) (fun hc=>?_)
                                · rw [orFd hc] at h
                                  refine rF J J J<|rY J J J<|rL J J .p0 J J<|rY J J J<|r_callp J (Q_in_c J) (CoL.refl _) J<|rY J J J<|ARun.qv (q_not J) J<|rE J J J<|rM J J<|ARun.guard J J J (fun hc=>?_) (fun hc=>?_)
                                  · rw [orFb hc] at h
                                    exact rF J J J<|rY J J J<|rL J J .p0 J J<|rY J J J<|r_callp J (Q_in_c J) (CoL.refl _) J<|rY J J J<|ARun.qv (q_not J) J<|rE J J J<|rA J J<|rN<|ATodo.stop<|ImpX.lq [0] ⟨!(Q_in v3.Rest (0 : Int) (2592000000 : Int)),h,J⟩ J J
                                  · rw [orTb hc] at h
                                    exact rG J J J J<|rG J J J J<|rG J J J J<|rT J J J<|rA J J<|rN<|ATodo.stop<|ImpX.lq [0] ⟨true,h,J⟩ J J
                                · rw [orTd hc] at h
                                  exact rG J J J J<|rG J J J J<|rG J J J J<|rT J J J<|rM J J<|rG J J J J<|rG J J J J<|rG J J J J<|rG J J J J<|rT J J J<|rA J J<|rN<|ATodo.stop<|ImpX.lq [0] ⟨true,h,J⟩ J J
                              · rw [if_neg (by simp [hc] : ¬ (_ = true))] at h
                                refine rG J J J J<|rG J J J J<|rG J J J J<|rG J J J J<|rY J J J<|rE J J J<|rE J J J<|rM J J<|rY J J J<|rF J J J<|rY J J J<|rL J J .p0 J J<|rY J J J<|r_callp J (Q_in_c J) (CoL.refl _) J<|rY J J J<|ARun.qv (q_not J) J<|rE J J J<|rM J J<|ARun.guard J J J (fun hc=>?_) (fun hc=>?_)
                                · rw [orFb hc] at h
                                  exact rF J J J<|rY J J J<|rL J J .p0 J J<|rY J J J<|r_callp J (Q_in_c J) (CoL.refl _) J<|rY J J J<|ARun.qv (q_not J) J<|rE J J J<|rA J J<|rN<|ATodo.stop<|ImpX.lq [0] ⟨!(Q_in v3.Rest (0 : Int) (2592000000 : Int)),h,J⟩ J J
                                · rw [orTb hc] at h
                                  exact rG J J J J<|rG J J J J<|rG J J J J<|rT J J J<|rA J J<|rN<|ATodo.stop<|ImpX.lq [0] ⟨true,h,J⟩ J J
                            · rw [orTd hc] at h
                              exact rG J J J J<|rG J J J J<|rG J J J J<|ARun.guard_und J J J<|ARun.guard_und J J J<|ARun.guard_und J J J<|ARun.guard_und J J J<|ARun.guard_und J J J<|rG J J J J<|rT J J J<|rM J J<|rG J J J J<|rG J J J J<|rG J J J J<|rG J J J J<|rT J J J<|rM J J<|rG J J J J<|rG J J J J<|rG J J J J<|rG J J J J<|rT J J J<|rA J J<|rN<|ATodo.stop<|ImpX.lq [0] ⟨true,h,J⟩ J J
                          · rw [if_neg (by simp [hc] : ¬ (_ = true))] at h
                            refine rG J J J J<|rG J J J J<|rG J J J J<|rG J J J J<|rY J J J<|rE J J J<|rE J J J<|rM J J<|rY J J J<|rF J J J<|rY J J J<|rL J J .p0 J J<|rY J J J<|ARun.qv (q_not J) J<|rY J J J<|rM J J<|ARun.guard J J J (fun hc=>?_) (fun hc=>?_)
                            · rw [if_pos hc] at h
                              refine rF J J J<|rY J J J<|rL J J .p0 J J<|rY J J J<|rF J J J<|rY J J J<|rL J J .p0 J J<|rY J J J<|ARun.qv (q_lss J J) J<|rY J J J<|rT J J J<|rE J J J<|rM J J<|ARun.guard_df J J J (fun hc=>?_) (fun hc=>?_)
                              · rw [orFd hc] at h
                                refine rF J J J<|rY J J J<|rL J J .p0 J J<|rY J J J<|r_callp J (Q_in_c J) (CoL.refl _) J<|rY J J J<|ARun.qv (q_not J) J<|rE J J J<|rM J J<|ARun.guard J J J (fun hc=>?_) (fun hc=>?_)
                                · rw [orFb hc] at h
                                  exact rF J J J<|rY J J J<|rL J J .p0 J J<|rY J J J<|r_callp J (Q_in_c J) (CoL.refl _) J<|rY J J J<|ARun.qv (q_not J) J<|rE J J J<|rA J J<|rN<|ATodo.stop<|ImpX.lq [0] ⟨!(Q_in v3.Rest (0 : Int) (2592000000 : Int)),h,J⟩ J J
                                · rw [orTb hc] at h
                                  exact rG J J J J<|rG J J J J<|rG J J J J<|rT J J J<|rA J J<|rN<|ATodo.stop<|ImpX.lq [0] ⟨true,h,J⟩ J J
                              · rw [orTd hc] at h
                                exact rG J J J J<|rG J J J J<|rG J J J J<|rT J J J<|rM J J<|rG J J J J<|rG J J J J<|rG J J J J<|rG J J J J<|rT J J J<|rA J J<|rN<|ATodo.stop<|ImpX.lq [0] ⟨true,h,J⟩ J J
                            · rw [if_neg (by simp [hc] : ¬ (_ = true))] at h
                              refine rG J J J J<|rG J J J J<|rG J J J J<|rG J J J J<|rY J J J<|rE J J J<|rE J J J<|rM J J<|rY J J J<|rF J J J<|rY J J J<|rL J J .p0 J J<|rY J J J<|r_callp J (Q_in_c J) (CoL.refl _) J<|rY J J J<|ARun.qv (q_not J) J<|rE J J J<|rM J J<|ARun.guard J J J (fun hc=>?_) (fun hc=>?_)
                              · rw [orFb hc] at h
                                exact rF J J J<|rY J J J<|rL J J .p0 J J<|rY J J J<|r_callp J (Q_in_c J) (CoL.refl _) J<|rY J J J<|ARun.qv (q_not J) J<|rE J J J<|rA J J<|rN<|ATodo.stop<|ImpX.lq [0] ⟨!(Q_in v3.Rest (0 : Int) (2592000000 : Int)),h,J⟩ J J
                              · rw [orTb hc] at h
                                exact rG J J J J<|rG J J J J<|rG J J J J<|rT J J J<|rA J J<|rN<|ATodo.stop<|ImpX.lq [0] ⟨true,h,J⟩ J J
                        · rw [orTb hc] at h
                          exact rG J J J J<|rG J J J J<|ARun.guard_und J J J<|ARun.guard_und J J J<|ARun.guard_und J J J<|ARun.guard_und J J J<|ARun.guard_und J J J<|rG J J J J<|rT J J J<|rM J J<|rG J J J J<|rG J J J J<|rG J J J J<|rG J J J J<|ARun.guard_und J J J<|ARun.guard_und J J J<|ARun.guard_und J J J<|ARun.guard_und J J J<|ARun.guard_und J J J<|rG J J J J<|rT J J J<|rM J J<|rG J J J J<|rG J J J J<|rG J J J J<|rG J J J J<|rT J J J<|rM J J<|rG J J J J<|rG J J J J<|rG J J J J<|rG J J J J<|rT J J J<|rA J J<|rN<|ATodo.stop<|ImpX.lq [0] ⟨true,h,J⟩ J J
                      · rw [orTb hc] at h
                        exact rG J J J J<|rG J J J J<|rG J J J J<|rG J J J J<|rT J J J<|rM J J<|rG J J J J<|rG J J J J<|rG J J J J<|ARun.guard_und J J J<|ARun.guard_und J J J<|ARun.guard_und J J J<|ARun.guard_und J J J<|ARun.guard_und J J J<|rG J J J J<|rT J J J<|rM J J<|rG J J J J<|rG J J J J<|rG J J J J<|rG J J J J<|ARun.guard_und J J J<|ARun.guard_und J J J<|ARun.guard_und J J J<|ARun.guard_und J J J<|ARun.guard_und J J J<|rG J J J J<|rT J J J<|rM J J<|rG J J J J<|rG J J J J<|rG J J J J<|rG J J J J<|rT J J J<|rM J J<|rG J J J J<|rG J J J J<|rG J J J J<|rG J J J J<|rT J J J<|rA J J<|rN<|ATodo.stop<|ImpX.lq [0] ⟨true,h,J⟩ J J
                    · rw [orTb hc] at h
                      exact rG J J J J<|rG J J J J<|rG J J J J<|rG J J J J<|rT J J J<|rM J J<|rG J J J J<|rG J J J J<|rG J J J J<|rG J J J J<|rG J J J J<|rT J J J<|rM J J<|rG J J J J<|rG J J J J<|rG J J J J<|ARun.guard_und J J J<|ARun.guard_und J J J<|ARun.guard_und J J J<|ARun.guard_und J J J<|ARun.guard_und J J J<|rG J J J J<|rT J J J<|rM J J<|rG J J J J<|rG J J J J<|rG J J J J<|rG J J J J<|ARun.guard_und J J J<|ARun.guard_und J J J<|ARun.guard_und J J J<|ARun.guard_und J J J<|ARun.guard_und J J J<|rG J J J J<|rT J J J<|rM J J<|rG J J J J<|rG J J J J<|rG J J J J<|rG J J J J<|rT J J J<|rM J J<|rG J J J J<|rG J J J J<|rG J J J J<|rG J J J J<|rT J J J<|rA J J<|rN<|ATodo.stop<|ImpX.lq [0] ⟨true,h,J⟩ J J
                  · rintro σ' ⟨c9, h, rfl⟩
                    unfold Q_RulesFault_j2 at h
                    refine ATodo.cond J (fun hc=>?_) (fun hc=>?_)
                    · refine have h := iteT hc h; tSR<|rA J J<|rN<|ATodo.ret<|have h := outL h hA1; ?_
                      obtain rfl := Option.some.inj h
                      exact ImpX.here ⟨_,.cons (.tmp _ _ J) .nil,J⟩
                    · refine have h := iteFb hc h; tSR<|rF J J J<|rL J J .p0 J J<|r_callp J (Q_in_c J) (CoL.refl _) J<|ARun.qv (q_not J) J<|rA J J<|rN<|ATodo.cond J (fun hc=>?_) (fun hc=>?_)
                      · refine have h := iteT hc h; tSR<|rA J J<|rN<|ATodo.ret<|have h := outL h hA1; ?_
                        obtain rfl := Option.some.inj h
                        exact ImpX.here ⟨_,.cons (.tmp _ _ J) .nil,J⟩
                      · refine have h := iteFb hc h; tK<|ATodo.blk<|ATodo.blk<|tR<|ARun.qv (q_addw J J) J<|rM J J<|rN<|ATodo.stop<|?_
                        obtain rfl := Option.some.inj h
                        exact hJ1 _ _ J<|ImpX.lq [] J J J
      · refine have h := iteF hc h; ATodo.exit J<|have h := outL h hA1; tSR<|rA J J<|rN<|ATodo.ret<|?_
        obtain rfl := Option.some.inj h
        exact ImpX.here ⟨_,.cons (.tmp _ _ J) .nil,J⟩

theorem Q_MomentFault_c [GI : GTab] {p0x0 : Int} {r : Int} (h : Q_MomentFault p0x0 = r) : Pu Tryz.prog 21 [I p0x0] (I r) := by
  unfold Q_MomentFault at h
  refine ACall.bodyN Tryz.func21 J Tryz.ntmps21 Tryz.results21 J J ?_
  refine tSR<|rA J J<|rN<|tS<|tSR<|rM J J<|r_callp J (Q_in_c J) (CoL.refl _) J<|ARun.qv (q_not J) J<|rN<|ATodo.cond J (fun hc=>?_) (fun hc=>?_)
  · refine have h := iteT hc h; tSR<|rA J J<|rN<|ATodo.ret<|?_
    obtain rfl := h
    exact ImpX.here ⟨_,.cons (.tmp _ _ J) .nil,J⟩
  · refine have h := iteFb hc h; tK<|tSR<|rA J J<|rN<|ATodo.ret<|?_
    obtain rfl := h
    exact ImpX.here ⟨_,.cons (.tmp _ _ J) .nil,J⟩

theorem Q_SampleFault_c {p0x0 : Sample} {r : Int} (h : Q_SampleFault p0x0 = some r) : Pu Tryz.prog 80 [Sample.av p0x0] (I r) := by
  unfold Q_SampleFault at h
  refine ACall.bodyN Tryz.func80 J Tryz.ntmps80 Tryz.results80 J J ?_
  refine tSR<|n_box J J J J fun b1=>rA J J<|rN<|tS<|ATodo.block<|tSR<|rF J J J<|rL J J .p0 J J<|r_callp J (Q_MomentFault_c J) (CoL.refl _) J<|ARun.qv (q_neq J J) J<|rA J J<|rN<|ATodo.cond_d J (fun hc=>?_) (fun hc=>?_)
  · refine have h := iteT hc h; tSR<|rA J J<|rN<|ATodo.ret<|?_
    obtain rfl := Option.some.inj h
    exact ImpX.here ⟨_,.cons (.tmp _ _ J) .nil,J⟩
  · refine have h := iteF hc h; tS<|ATodo.cut (fun σ'=>∃ (c2 : Bool),Q_SampleFault_j1 p0x0 c2 = some r ∧ σ' = ⟨24,[(1,.ptr b1 0),(8,.bool c2)],[(b1,.cells (cE1 p0x0))]⟩) ?_ ?_
    · refine tR<|rF J J J<|rL J J .p0 J J<|bndE h fun v3 e1 h=>r_callp J (Q_Key_c e1) (CoL.refl _) J<|ARun.qv (q_not J) J<|rM J J<|ARun.guard J J J (fun hc=>?_) (fun hc=>?_)
      · exact have h := iteFb hc h; rF J J J<|rY J J J<|rL J J .p0 J J<|rY J J J<|bndE h fun v4 e2 h=>r_callp J (Q_Key_c e2) (CoL.refl _) J<|rY J J J<|ARun.qv (q_not J) J<|rE J J J<|rA J J<|rN<|ATodo.stop<|ImpX.lq [0] ⟨!v4,h,J⟩ J J
      · exact have h := iteT hc h; rG J J J J<|rG J J J J<|rG J J J J<|rT J J J<|rA J J<|rN<|ATodo.stop<|ImpX.lq [0] ⟨true,h,J⟩ J J
    · rintro σ' ⟨c2, h, rfl⟩
      unfold Q_SampleFault_j1 at h
      refine ATodo.cond J (fun hc=>?_) (fun hc=>?_)
      · refine have h := iteT hc h; tSR<|rA J J<|rN<|ATodo.ret<|?_
        obtain rfl := Option.some.inj h
        exact ImpX.here ⟨_,.cons (.tmp _ _ J) .nil,J⟩
      · refine have h := iteFb hc h; tSR<|rF J J J<|rL J J .p0 J J<|r_callp J (Q_in_c J) (CoL.refl _) J<|ARun.qv (q_not J) J<|rA J J<|rN<|ATodo.cond J (fun hc=>?_) (fun hc=>?_)
        · refine have h := iteT hc h; tSR<|rA J J<|rN<|ATodo.ret<|?_
          obtain rfl := Option.some.inj h
          exact ImpX.here ⟨_,.cons (.tmp _ _ J) .nil,J⟩
        · refine have h := iteFb hc h; tK<|ATodo.blk<|tSR<|rA J J<|rN<|ATodo.ret<|?_
          obtain rfl := Option.some.inj h
          exact ImpX.here ⟨_,.cons (.tmp _ _ J) .nil,J⟩

theorem Q_SampleOrder_c [GI : GTab] {p0x0 : Sample} {p1x0 : Sample} {r : Int} (h : Q_SampleOrder p0x0 p1x0 = some r) : Pu Tryz.prog 81 [Sample.av p0x0,Sample.av p1x0] (I r) := by
  unfold Q_SampleOrder at h
  refine ACall.bodyN Tryz.func81 J Tryz.ntmps81 Tryz.results81 J J ?_
  refine tSR<|n_box J J J J fun b1=>n_box J J J J fun b2=>rA J J<|rN<|tS<|ATodo.regionM (id := 1) (A := [0,1,0,4,15,0,32,0,128,511,0,1024,0,4096,16383,32767,65535,131071]) 18 mixed J (by kernel_rfl) (by kernel_rfl)<|AM.qv (n_field_ptr J J) J<|AM.qv (q_load_ptr J J .p1 J) J<|AM.qv (n_field_ptr J J) J<|AM.qv (q_load_ptr J J .p0 J) J<|AM.callp J (cmp_Compare_int_c J) (CoL.refl _) J<|AM.qv (n_field_ptr J J) J<|AM.qv (q_load_ptr J J .p1 J) J<|AM.qv (n_field_ptr J J) J<|AM.qv (q_load_ptr J J .p0 J) J<|AM.callp J (strings_Compare_c J) (CoL.refl _) J<|AM.qv (n_field_ptr J J) J<|AM.qv (q_load_ptr J J .p1 J) J<|AM.qv (n_field_ptr J J) J<|AM.qv (q_load_ptr J J .p0 J) J<|AM.callp J (strings_Compare_c J) (CoL.refl _) J<|AM.buildSliceL (xs := ([(cmp_Compare_int p0x0.At p1x0.At),(Lib.compareBytes p0x0.Device p1x0.Device),(Lib.compareBytes p0x0.Metric p1x0.Metric)] : List Int).map I) J J J J J J<|bndE h fun v3 e1 h=>AM.callp J (cmp_Or_int_c e1) (CoL.refl _) J<|AM.qv (q_assign J) J<|AM.nil<|rN<|ATodo.ret<|?_
  obtain rfl := Option.some.inj h
  exact ImpX.here ⟨_,.cons (.tmp _ _ J) .nil,J⟩

theorem Q_SamplesFault_c {p0x0 : List Sample} {r : Int} (h : Q_SamplesFault p0x0 = some r) : Pu Tryz.prog 19 [lE2 p0x0] (I r) := by
  unfold Q_SamplesFault at h
  refine ACall.bodyN Tryz.func19 J Tryz.ntmps19 Tryz.results19 J J ?_
  refine tSR<|rA J J<|rN<|tS<|tSR<|rM J J<|ARun.qv (t_len J) J<|ARun.qv (q_gtr J J) J<|rN<|ATodo.cond_d J (fun hc=>?_) (fun hc=>?_)
  · refine have h := iteT hc h; tSR<|rA J J<|rN<|ATodo.ret<|?_
    obtain rfl := Option.some.inj h
    exact ImpX.here ⟨_,.cons (.tmp _ _ J) .nil,J⟩
  · refine have h := iteF hc h; tK<|tS<|tSR<|rM J J<|ARun.qv (t_len J) J<|rM J J<|rN<|ATodo.block<|ATodo.loopI (fun x : Int=>Q_SamplesFault_b1 p0x0 x) (fun x σ'=>σ' = ⟨34,[(0,lE2 p0x0),(9,lE2 p0x0),(10,I (p0x0.length : Int)),(11,I x)],[]⟩) h ?_ ?_
    · exact ImpX.lq [] J J J
    · intro n2 z1 σ' J1 hmk h hJ1 hA1
      obtain rfl := hmk
      replace h : Q_SamplesFault_b1 p0x0 n2 = some z1 := h
      unfold Q_SamplesFault_b1 at h
      refine tSR<|ARun.qv (q_lss J J) J<|rN<|tS<|ATodo.cond_d J (fun hc=>?_) (fun hc=>?_)
      · refine have h := iteT hc h; tK<|tS<|ATodo.block<|tSR<|rM J J<|bndE h fun v3 e1 h=>ARun.qv (t_index J J J e1 J J) J<|ARun.qv (q_load_rptr_agg J J J) J<|n_alloc J J J J fun b4=>rA J J<|n_store_ptr J J J J .p0 J J<|rN<|tS<|tSR<|ARun.qv (q_load_ptr_all J J .p0 J) J<|bndE h fun v5 e2 h=>r_callp J (Q_SampleFault_c e2) (CoL.refl _) J<|rA J J<|rN<|tSR<|rM J J<|ARun.qv (q_neq J J) J<|rN<|ATodo.cond_d J (fun hc=>?_) (fun hc=>?_)
        · refine have h := iteT hc h; tSR<|rM J J<|rA J J<|rN<|ATodo.ret<|have h := outL h hA1; ?_
          obtain rfl := Option.some.inj h
          exact ImpX.here ⟨_,.cons (.tmp _ _ J) .nil,J⟩
        · refine have h := iteF hc h; tK<|tS<|ATodo.cut (fun σ'=>∃ (c6 : Bool),Q_SamplesFault_j1 n2 c6 = some z1 ∧ σ' = ⟨34,[(0,lE2 p0x0),(9,lE2 p0x0),(10,I (p0x0.length : Int)),(11,I n2),(32,.bool c6)],[]⟩) ?_ ?_
          · refine ATodo.regionM (id := 9) (A := [0,1,3,7,7,23,63,127,7,511,1023,2047]) 12 mixed J (by kernel_rfl) (by kernel_rfl)<|AM.qv (q_move J) J<|AM.qv (q_gtr J J) J<|AM.qv (q_move J) J<|AM.guard_dt J J J (fun hc=>?_) (fun hc=>?_)
            · exact have h := iteT hc h; AM.qv (q_move J) J<|AM.guard_yes J J J<|AM.qv (q_move J) J<|AM.guard_yes J J J<|AM.qv (q_subw J J) J<|AM.guard_yes J J J<|bndE h fun v7 e3 h=>AM.qv (t_index J J J e3 J J) J<|AM.guard_yes J J J<|AM.qv (q_load_rptr_agg J J J) J<|AM.guard_yes J J J<|AM.qv (q_load_ptr_all J J .p0 J) J<|AM.guard_yes J J J<|bndE h fun v8 e4 h=>AM.callp J (Q_SampleOrder_c e4) (CoL.refl _) J<|AM.guard_yes J J J<|AM.qv (q_geq J J) J<|AM.qv (q_pick_t J J) J<|AM.nil<|rN<|ATodo.stop<|ImpX.lq [] ⟨decide ((0 : Int) ≤ v8),h,J⟩ J J
            · exact have h := iteF hc h; AM.guard_no J J J J<|AM.guard_no J J J J<|AM.guard_no J J J J<|AM.guard_no J J J J<|AM.guard_no J J J J<|AM.guard_no J J J J<|AM.guard_no J J J J<|AM.qv (q_pick_f J J) J<|AM.nil<|rN<|ATodo.stop<|ImpX.lq [] ⟨false,h,J⟩ J J
          · rintro σ' ⟨c6, h, rfl⟩
            unfold Q_SamplesFault_j1 at h
            refine ATodo.cond J (fun hc=>?_) (fun hc=>?_)
            · refine have h := iteT hc h; tSR<|rA J J<|rN<|ATodo.ret<|have h := outL h hA1; ?_
              obtain rfl := Option.some.inj h
              exact ImpX.here ⟨_,.cons (.tmp _ _ J) .nil,J⟩
            · refine have h := iteFb hc h; tK<|ATodo.blk<|tR<|ARun.qv (q_addw J J) J<|rM J J<|rN<|ATodo.stop<|?_
              obtain rfl := Option.some.inj h
              exact hJ1 _ _ J<|ImpX.lq [] J J J
      · refine have h := iteF hc h; ATodo.exit J<|have h := outL h hA1; tSR<|rA J J<|rN<|ATodo.ret<|?_
        obtain rfl := Option.some.inj h
        exact ImpX.here ⟨_,.cons (.tmp _ _ J) .nil,J⟩

theorem cmp_Or_Errno_c [GI : GTab] {p0x0 : List Int} {r : Int} (h : cmp_Or_Errno p0x0 = some r) : Pu Tryz.prog 17 [lE0 p0x0] (I r) := by
  unfold cmp_Or_Errno at h
  refine ACall.bodyN Tryz.func17 J Tryz.ntmps17 Tryz.results17 J J ?_
  refine tSR<|rA J J<|rN<|tSR<|rA J J<|rN<|tS<|tSR<|rM J J<|ARun.qv (t_len J) J<|rM J J<|rN<|ATodo.block<|ATodo.loopI (fun x : Int=>cmp_Or_Errno_b1 p0x0 x) (fun x σ'=>σ' = ⟨18,[(3,I (0 : Int)),(6,lE0 p0x0),(7,I (p0x0.length : Int)),(8,I x)],[]⟩) h ?_ ?_
  · exact ImpX.lq [] J J J
  · intro n2 z1 σ' J1 hmk h hJ1 hA1
    obtain rfl := hmk
    replace h : cmp_Or_Errno_b1 p0x0 n2 = some z1 := h
    unfold cmp_Or_Errno_b1 at h
    refine tSR<|ARun.qv (q_lss J J) J<|rN<|tS<|ATodo.cond_d J (fun hc=>?_) (fun hc=>?_)
    · refine have h := iteT hc h; tK<|tS<|ATodo.block<|tSR<|bndE h fun v3 e1 h=>ARun.qv (t_index J J J e1 J J) J<|ARun.qv (q_load_rptr J J J) J<|rA J J<|rN<|tSR<|rM J J<|rM J J<|ARun.qv (q_neq J J) J<|rN<|ATodo.cond_d J (fun hc=>?_) (fun hc=>?_)
      · refine have h := iteT hc h; tSR<|rM J J<|rA J J<|rN<|ATodo.ret<|have h := outL h hA1; ?_
        obtain rfl := Option.some.inj h
        exact ImpX.here ⟨_,.cons (.tmp _ _ J) .nil,J⟩
      · refine have h := iteF hc h; tK<|ATodo.blk<|tR<|ARun.qv (q_addw J J) J<|rM J J<|rN<|ATodo.stop<|?_
        obtain rfl := Option.some.inj h
        exact hJ1 _ _ J<|ImpX.lq [] J J J
    · refine have h := iteF hc h; ATodo.exit J<|have h := outL h hA1; tSR<|rM J J<|rA J J<|rN<|ATodo.ret<|?_
      obtain rfl := Option.some.inj h
      exact ImpX.here ⟨_,.cons (.tmp _ _ J) .nil,J⟩

theorem L_when_c [GI : GTab] {p0x0 : Bool} {p1x0 : Int} {r : Int} (h : L_when p0x0 p1x0 = r) : Pu Tryz.prog 32 [.bool p0x0,I p1x0] (I r) := by
  unfold L_when at h
  refine ACall.bodyN Tryz.func32 J Tryz.ntmps32 Tryz.results32 J J ?_
  refine tSR<|rA J J<|rN<|tS<|tSR<|rM J J<|rN<|ATodo.cond J (fun hc=>?_) (fun hc=>?_)
  · refine have h := iteT hc h; tSR<|rM J J<|rA J J<|rN<|ATodo.ret<|?_
    obtain rfl := h
    exact ImpX.here ⟨_,.cons (.tmp _ _ J) .nil,J⟩
  · refine have h := iteFb hc h; tK<|tSR<|rA J J<|rN<|ATodo.ret<|?_
    obtain rfl := h
    exact ImpX.here ⟨_,.cons (.tmp _ _ J) .nil,J⟩

theorem Q_WindowFault_c [GI : GTab] {p0x0 : Window} {r : Int} (h : Q_WindowFault p0x0 = r) : Pu Tryz.prog 25 [Window.av p0x0] (I r) := by
  unfold Q_WindowFault at h
  refine ACall.bodyN Tryz.func25 J Tryz.ntmps25 Tryz.results25 J J ?_
  refine tSR<|n_box J J J J fun b1=>rA J J<|rN<|tS<|tS<|ATodo.cut (fun σ'=>∃ (c2 : Bool),Q_WindowFault_j1 c2 = r ∧ σ' = ⟨14,[(13,.bool c2)],[]⟩) ?_ ?_
  · refine tR<|rF J J J<|rL J J .p0 J J<|rF J J J<|rL J J .p0 J J<|r_callp J (Q_in_c J) (CoL.refl _) J<|ARun.qv (q_not J) J<|rM J J<|ARun.guard J J J (fun hc=>?_) (fun hc=>?_)
    · rw [orFb hc] at h
      exact rF J J J<|rY J J J<|rL J J .p0 J J<|rY J J J<|ARun.qv (q_gtr J J) J<|rE J J J<|rN<|ATodo.stop<|ImpX.lq [] ⟨decide ((345686400000 : Int) < p0x0.To),h,J⟩ J J
    · rw [orTb hc] at h
      exact rG J J J J<|rG J J J J<|rT J J J<|rN<|ATodo.stop<|ImpX.lq [] ⟨true,h,J⟩ J J
  · rintro σ' ⟨c2, h, rfl⟩
    unfold Q_WindowFault_j1 at h
    refine ATodo.cond J (fun hc=>?_) (fun hc=>?_)
    · refine have h := iteT hc h; tSR<|rA J J<|rN<|ATodo.ret<|?_
      obtain rfl := h
      exact ImpX.here ⟨_,.cons (.tmp _ _ J) .nil,J⟩
    · refine have h := iteFb hc h; tK<|tSR<|rA J J<|rN<|ATodo.ret<|?_
      obtain rfl := h
      exact ImpX.here ⟨_,.cons (.tmp _ _ J) .nil,J⟩

theorem slices_Clone_string_string_c [GI : GTab] {p0x0 : List Str} {r : (List Str)} (h : slices_Clone_string_string p0x0 = some r) : ACall Tryz.prog 186 [.list 1 (p0x0.map AV.str)] [] (T1 (fun d_0=>[(d_0,.arr 1 (r.map AV.str))]) (fun d_0=>.sl 1 d_0 0 r.length)) := by
  unfold slices_Clone_string_string at h
  refine ACall.lessH ?_
  refine ACall.bodyN Tryz.func186 J Tryz.ntmps186 Tryz.results186 J J ?_
  refine ATodo.seq ?_
  refine ATodo.region ?_
  refine ARun.qv (q_assign J) J ?_
  refine ARun.nil ?_
  refine ATodo.seq ?_
  refine ATodo.seq ?_
  refine ATodo.region ?_
  refine ARun.qv (q_move J) J ?_
  refine r_eqnil J J J J (fun c hc=>?_)
  refine ARun.nil ?_
  refine ATodo.cond J (fun hT=>?_) (fun hF=>?_)
  · obtain rfl := app_nil_some h (List.map_eq_nil_iff.1 (hc hT))
    refine ATodo.seq ?_
    refine ATodo.region ?_
    refine ARun.qv (q_assign J) J ?_
    refine ARun.nil ?_
    refine ATodo.ret ?_
    refine ImpX.arr (s := 2) 1 J (fun b1=>?_)
    exact ImpX.here ⟨_,.cons (.tmp _ _ J) .nil,_,.cons .here .nil,⟨b1,J,J⟩⟩
  · refine ATodo.skip ?_
    refine ATodo.seq ?_
    refine ATodo.region ?_
    refine n_buildSlice (xs := ([] : List Str).map AV.str) J J J J J J (fun b2=>?_)
    refine ARun.qv (q_move J) J ?_
    refine t_append (g := AV.str) (Xs := []) J J J J J J J J (.list _) h (fun _=>.here) J (fun b3=>?_)
    refine ARun.qv (q_assign J) J ?_
    refine ARun.nil ?_
    refine ATodo.ret ?_
    exact ImpX.here ⟨_,.cons (.tmp _ _ J) .nil,_,.cons .here .nil,⟨b3,J,J⟩⟩

theorem Q_once_c [GI : GTab] {p0x0 : List Str} {r : (List Str)} (h : Q_once p0x0 = some r) : ACall Tryz.prog 141 [lE1 p0x0] [] (T1 (fun d_0=>[(d_0,aE1 r)]) (fun d_0=>.sl 1 d_0 0 r.length)) := by
  unfold Q_once at h
  refine ACall.lessH ?_
  refine ACall.bodyN Tryz.func141 J Tryz.ntmps141 Tryz.results141 J J ?_
  refine tSR<|rA J J<|rN<|tSR<|rM J J<|bndE h fun v1 e1 h=>t_call1 J (slices_Clone_string_string_c e1) (CoL.refl _) .nil (fun _=>J) J fun b2=>rA J J<|rN<|tSR<|rM J J<|bndE h fun v3 e2 h=>t_call0 J (slices_Sort_string_string_c (lenOk_f e2)) (CoL.refl _) (.cons .p0 .nil) J J<|ARun.ghost<|ImpX.eqs (s := 0) (av' := .sl 1 b2 0 v3.length) J (congrArg (AV.sl 1 b2 0) (lenOk_l e2))<|ImpX.here<|ARun.ghost<|ImpX.eqs (s := 4) (av' := .sl 1 b2 0 v3.length) J (congrArg (AV.sl 1 b2 0) (lenOk_l e2))<|ImpX.here<|ARun.ghost<|ImpX.eqs (s := 5) (av' := .sl 1 b2 0 v3.length) J (congrArg (AV.sl 1 b2 0) (lenOk_l e2))<|ImpX.here<|rN<|tSR<|rM J J<|bndE h fun v4 e3 h=>t_call1 J (slices_Compact_string_string_c e3) (CoL.refl _) (.cons .p0 .nil) (fun _=>J) J fun b5=>rA J J<|rN<|ATodo.ret<|?_
  obtain rfl := Option.some.inj h
  exact ImpX.here ⟨_,.cons (.tmp _ _ J) .nil,_,.cons .p0 .nil,⟨b5,J,J⟩⟩

theorem Q_devicesOf_c [GI : GTab] {p0x0 : List Sample} {p1x0 : Str} {r : (List Str)} (h : Q_devicesOf p0x0 p1x0 = some r) : ACall Tryz.prog 85 [lE2 p0x0,.str p1x0] [] (T1 (fun d_0=>[(d_0,aE1 r)]) (fun d_0=>.sl 1 d_0 0 r.length)) := by
  unfold Q_devicesOf at h
  refine ACall.lessH ?_
  refine ACall.bodyN Tryz.func85 J Tryz.ntmps85 Tryz.results85 J J ?_
  refine tSR<|rA J J<|rN<|tSR<|rA J J<|rN<|tS<|tSR<|rM J J<|ARun.qv (t_len J) J<|rM J J<|rN<|ATodo.block<|ATodo.loopI (fun x : (List Str) × Int=>Q_devicesOf_b1 p0x0 p1x0 x.1 x.2) (fun x σ'=>∃ (b4 : Bk),σ' = ⟨30,[(1,.str p1x0),(5,.sl 1 b4 0 x.1.length),(8,lE2 p0x0),(9,I (p0x0.length : Int)),(10,I x.2)],[(b4,aE1 x.1)]⟩) h ?_ ?_
  · exact ImpX.arr (s := 5) 1 J fun b7=>ImpX.lq [0] ⟨b7,J⟩ J J
  · intro x z1 σ' J1 hmk h hJ1 hA1
    obtain ⟨l5, n6⟩ := x
    obtain ⟨b4, rfl⟩ := hmk
    replace h : Q_devicesOf_b1 p0x0 p1x0 l5 n6 = some z1 := h
    unfold Q_devicesOf_b1 at h
    refine tSR<|ARun.qv (q_lss J J) J<|rN<|tS<|ATodo.cond_d J (fun hc=>?_) (fun hc=>?_)
    · refine have h := iteT hc h; tK<|tS<|ATodo.block<|tSR<|bndE h fun v8 e1 h=>ARun.qv (t_index J J J e1 J J) J<|ARun.qv (q_load_rptr_agg J J J) J<|n_alloc J J J J fun b9=>n_store_ptr J J J J .p0 J J<|rN<|tS<|ATodo.cut (fun σ'=>∃ (c10 : Bool),Q_devicesOf_j1 l5 n6 v8 c10 = some z1 ∧ σ' = ⟨30,[(1,.str p1x0),(5,.sl 1 b4 0 l5.length),(7,.ptr b9 0),(8,lE2 p0x0),(9,I (p0x0.length : Int)),(10,I n6),(21,.bool c10)],[(b4,aE1 l5),(b9,.cells (cE1 v8))]⟩) ?_ ?_
      · refine tR<|rM J J<|ARun.qv (q_seq J J) J<|rM J J<|ARun.guard_df J J J (fun hc=>?_) (fun hc=>?_)
        · rw [orFd hc] at h
          exact rF J J J<|rY J J J<|rL J J .p0 J J<|rY J J J<|rM J J<|rY J J J<|ARun.qv (q_seq J J) J<|rE J J J<|rN<|ATodo.stop<|ImpX.lq [1,0] ⟨decide (v8.Metric = p1x0),h,J⟩ J J
        · rw [orTd hc] at h
          exact rG J J J J<|rG J J J J<|rG J J J J<|rT J J J<|rN<|ATodo.stop<|ImpX.lq [1,0] ⟨true,h,J⟩ J J
      · rintro σ' ⟨c10, h, rfl⟩
        unfold Q_devicesOf_j1 at h
        refine ATodo.cut (fun σ'=>∃ (b11 : Bk) (l12 : List Str),Q_devicesOf_j2 n6 l12 = some z1 ∧ σ' = ⟨30,[(1,.str p1x0),(5,.sl 1 b11 0 l12.length),(8,lE2 p0x0),(9,I (p0x0.length : Int)),(10,I n6)],[(b11,aE1 l12)]⟩) ?_ ?_
        · refine ATodo.cond J (fun hc=>?_) (fun hc=>?_)
          · exact have h := iteT hc h; tR<|rM J J<|rF J J J<|rL J J .p1 J J<|n_buildSliceL (xs := ([v8.Device] : List Str).map AV.str) J J J J J J<|bndE h fun l13 e2 h=>t_append (g := AV.str) J J J J J J J J (.list _) e2 (fun _=>.p0) J fun b14=>rA J J<|rN<|ATodo.stop<|ImpX.lq [0] ⟨b14,l13,h,J⟩ J J
          · exact have h := iteFb hc h; tK<|ATodo.stop<|ImpX.lq [0] ⟨b4,l5,h,J⟩ J J
        · rintro σ' ⟨b11, l12, h, rfl⟩
          unfold Q_devicesOf_j2 at h
          refine ATodo.blk<|tR<|ARun.qv (q_addw J J) J<|rM J J<|rN<|ATodo.stop<|?_
          obtain rfl := Option.some.inj h
          exact hJ1 _ _ J<|ImpX.lq [0] ⟨b11,J⟩ J J
    · refine have h := iteF hc h; ATodo.exit J<|have h := outL h hA1; ?_
      unfold Q_devicesOf_k3 at h
      refine tSR<|rM J J<|bndE h fun v15 e3 h=>t_callL1 J (Q_once_c e3) .nil (.cons (CoB.arrT .p0) .nil) (fun _=>J) (fun _=>J) (fun _=>(.cons (NoS.arrT (fun _=>J)) .nil)) J fun b16=>rA J J<|rN<|ATodo.ret<|?_
      obtain rfl := Option.some.inj h
      exact ImpX.here ⟨_,.cons (.tmp _ _ J) .nil,_,.cons .p0 .nil,⟨b16,J,J⟩⟩

theorem slices_Sort_int_int_k : Sort1 Tryz.prog 139 (Value.int .i64) srtI := ⟨fun blk off cap zs w hH hb hs=>Tryz.slices_Sort_int blk off cap zs w hH hb hs,fun p cap w=>Tryz.slices_Sort_int_none p cap w⟩
theorem slices_Sort_int_int_c [GI : GTab] {b_0 : Bk} {p0x0 : List Int} {r : (List Int)} (h : slices_Sort_int_int p0x0 = some r) : ACall Tryz.prog 139 [.sl 1 b_0 0 p0x0.length] [(b_0,.arr 1 (p0x0.map I))] (T0 [(b_0,.arr 1 (r.map I))] (.tup [])) :=
  sortI_acall slices_Sort_int_int_k h

theorem slices_Compact_int_int_c [GI : GTab] {b_0 : Bk} {p0x0 : List Int} {r : (List Int)} (h : slices_Compact_int_int p0x0 = some r) : ACall Tryz.prog 140 [.sl 1 b_0 0 p0x0.length] [(b_0,aE0 p0x0)] (T1 (fun d_0=>[(d_0,aE0 r)]) (fun d_0=>.sl 1 d_0 0 r.length)) := by
  unfold slices_Compact_int_int at h
  refine ACall.lessH ?_
  refine ACall.bodyN Tryz.func140 J Tryz.ntmps140 Tryz.results140 J J ?_
  refine tSR<|rA J J<|rN<|tS<|tSR<|rM J J<|ARun.qv (t_len_sl J) J<|ARun.qv (q_lss J J) J<|rN<|ATodo.cond_d J (fun hc=>?_) (fun hc=>?_)
  · refine have h := iteT hc h; tSR<|rM J J<|rA J J<|rN<|ATodo.ret<|?_
    obtain rfl := Option.some.inj h
    exact ImpX.here ⟨_,.cons (.tmp _ _ J) .nil,_,.cons .p0 .nil,⟨b_0,J,J⟩⟩
  · refine have h := iteF hc h; tK<|tS<|tSR<|rA J J<|rN<|ATodo.block<|ATodo.loopI (fun x : Int=>slices_Compact_int_int_b1 p0x0 x) (fun x σ'=>σ' = ⟨61,[(0,.sl 1 b_0 0 p0x0.length),(3,I x)],[(b_0,aE0 p0x0)]⟩) h ?_ ?_
    · exact ImpX.lq [0] J J J
    · intro n2 z1 σ' J1 hmk h hJ1 hA1
      obtain rfl := hmk
      replace h : slices_Compact_int_int_b1 p0x0 n2 = some z1 := h
      unfold slices_Compact_int_int_b1 at h
      refine tS<|tSR<|rM J J<|rM J J<|ARun.qv (t_len_sl J) J<|ARun.qv (q_lss J J) J<|rN<|ATodo.cond_d J (fun hc=>?_) (fun hc=>?_)
      · refine have h := iteT hc h; tK<|tS<|ATodo.block<|tS<|ATodo.regionM (id := 6) (A := [0,0,3,7,0,0,32,112,240,511]) 10 mixed J (by kernel_rfl) (by kernel_rfl)<|AM.qv (q_move J) J<|AM.qv (q_move J) J<|bndE h fun v3 e1 h=>AM.qv (t_index_sl J J J e1) J<|AM.qv (t_load_aptr (g := I) J J (.inl .p0) e1 J) J<|AM.qv (q_move J) J<|AM.qv (q_move J) J<|AM.qv (q_subw J J) J<|bndE h fun v4 e2 h=>AM.qv (t_index_sl J J J e2) J<|AM.qv (t_load_aptr (g := I) J J (.inl .p0) e2 J) J<|AM.qv (q_eql J J) J<|AM.nil<|rN<|ATodo.cond_d J (fun hc=>?_) (fun hc=>?_)
        · refine have h := iteT hc h; tSR<|rM J J<|rM J J<|bndE h fun l5 e3 h=>ARun.qv (t_slice_sl J J (.some _ _ _ J) .none J J e3) J<|rA J J<|rN<|tS<|tSR<|rA J J<|rN<|ATodo.block<|ATodo.loopI (fun x : (List Int) × Int × Int=>slices_Compact_int_int_b2 n2 l5 x.1 x.2.1 x.2.2) (fun x σ'=>σ' = ⟨61,[(0,.sl 1 b_0 0 x.1.length),(3,I x.2.1),(4,.sl 1 b_0 n2.toNat l5.length),(5,I x.2.2)],[(b_0,aE0 x.1)]⟩) h ?_ ?_
          · exact ImpX.lq [0] J J J
          · intro x z2 σ' J2 hmk h hJ2 hA2
            obtain ⟨l9, n10, n11⟩ := x
            obtain rfl := hmk
            replace h : slices_Compact_int_int_b2 n2 l5 l9 n10 n11 = some z2 := h
            unfold slices_Compact_int_int_b2 at h
            refine tS<|tSR<|rM J J<|rM J J<|ARun.qv (t_len_sub J) J<|ARun.qv (q_lss J J) J<|rN<|ATodo.cond_d J (fun hc=>?_) (fun hc=>?_)
            · refine have h := iteT hc h; tK<|tS<|ATodo.block<|tS<|ATodo.regionM (id := 11) (A := [0,0,3,7,0,0,32,112,240,511]) 10 mixed J (by kernel_rfl) (by kernel_rfl)<|AM.qv (q_move J) J<|AM.qv (q_move J) J<|bndE h fun v12 e4 h=>AM.qv (t_index_sub (L := n2) J J J e4) J<|AM.qv (t_load_aptr (g := I) J J (.inl .p0) (idxS_some e4).2 J) J<|AM.qv (q_move J) J<|AM.qv (q_move J) J<|AM.qv (q_subw J J) J<|bndE h fun v13 e5 h=>AM.qv (t_index_sub (L := n2) J J J e5) J<|AM.qv (t_load_aptr (g := I) J J (.inl .p0) (idxS_some e5).2 J) J<|AM.qv (q_neq J J) J<|AM.nil<|rN<|ATodo.cut (fun σ'=>∃ (l14 : List Int) (n15 : Int),slices_Compact_int_int_j1 n11 l14 n15 = some z2 ∧ σ' = ⟨61,[(0,.sl 1 b_0 0 l14.length),(3,I n15),(4,.sl 1 b_0 n2.toNat l5.length),(5,I n11)],[(b_0,aE0 l14)]⟩) ?_ ?_
              · refine ATodo.cond_d J (fun hc=>?_) (fun hc=>?_)
                · exact have h := iteT hc h; tSR<|rM J J<|rM J J<|rM J J<|rM J J<|bndE h fun v16 e6 h=>ARun.qv (t_index_sub (L := n2) J J J e6) J<|ARun.qv (t_load_aptr (g := I) J J (.inl .p0) (idxS_some e6).2 J) J<|bndE h fun v17 e7 h=>ARun.qv (t_index_sl J J J e7) J<|t_store_aptr1 (g := I) (el' := v16) J J J J e7 J .p0 J<|ARun.ghost<|ImpX.eqs (s := 0) (av' := .sl 1 b_0 0 (l9.set n10.toNat v16).length) J (by rw [List.length_set])<|ImpX.here<|ARun.ghost<|ImpX.eqs (s := 45) (av' := .sl 1 b_0 0 (l9.set n10.toNat v16).length) J (by rw [List.length_set])<|ImpX.here<|rN<|tR<|rM J J<|ARun.qv (q_addw J J) J<|rA J J<|rN<|ATodo.stop<|ImpX.lq [0] ⟨l9.set n10.toNat v16,w64 (n10 + (1 : Int)),h,J⟩ J J
                · exact have h := iteF hc h; tK<|ATodo.stop<|ImpX.lq [0] ⟨l9,n10,h,J⟩ J J
              · rintro σ' ⟨l14, n15, h, rfl⟩
                unfold slices_Compact_int_int_j1 at h
                refine ATodo.blk<|tR<|rM J J<|ARun.qv (q_addw J J) J<|rA J J<|rN<|ATodo.stop<|?_
                obtain rfl := Option.some.inj h
                exact hJ2 _ _ J<|ImpX.lq [0] J J J
            · refine have h := iteF hc h; ATodo.exit J<|have h := outL h hA2; ?_
              unfold slices_Compact_int_int_k2 at h
              refine tSR<|rM J J<|rM J J<|bndE h fun l18 e8 h=>ARun.qv (t_slice_sl J J (.some _ _ _ J) .none J J e8) J<|t_clear (g := I) (Z := (0 : Int)) (L := n10) J J J J J J e8 .p0<|ARun.ghost<|ImpX.eqs (s := 0) (av' := .sl 1 b_0 0 (clr l9 n10 l18.length (0 : Int)).length) J (congrArg (AV.sl 1 b_0 0) (clr_len e8))<|ImpX.here<|ARun.ghost<|ImpX.eqs (s := 54) (av' := .sl 1 b_0 0 (clr l9 n10 l18.length (0 : Int)).length) J (congrArg (AV.sl 1 b_0 0) (clr_len e8))<|ImpX.here<|rN<|tSR<|rM J J<|rM J J<|bndE h fun l19 e9 h=>ARun.qv (t_slice_sl J J .none (.some _ _ _ J) J J e9) J<|rA J J<|ARun.ghost<|ImpX.takeT e9 .p0<|ImpX.here<|rN<|ATodo.ret<|have h := outL h hA1; ?_
              obtain rfl := Option.some.inj h
              exact ImpX.here ⟨_,.cons (.tmp _ _ J) .nil,_,.cons .p0 .nil,⟨b_0,J,J⟩⟩
        · refine have h := iteF hc h; tK<|ATodo.blk<|tR<|rM J J<|ARun.qv (q_addw J J) J<|rA J J<|rN<|ATodo.stop<|?_
          obtain rfl := Option.some.inj h
          exact hJ1 _ _ J<|ImpX.lq [0] J J J
      · refine have h := iteF hc h; ATodo.exit J<|have h := outL h hA1; tSR<|rM J J<|rA J J<|rN<|ATodo.ret<|?_
        obtain rfl := Option.some.inj h
        exact ImpX.here ⟨_,.cons (.tmp _ _ J) .nil,_,.cons .p0 .nil,⟨b_0,J,J⟩⟩

theorem Q_windowOf_c [GI : GTab] {p0x0 : Rule} {p1x0 : List Sample} {p2x0 : Str} {p3x0 : Int} {r : (List Int)} (h : Q_windowOf p0x0 p1x0 p2x0 p3x0 = some r) : ACall Tryz.prog 104 [Rule.av p0x0,lE2 p1x0,.str p2x0,I p3x0] [] (T1 (fun d_0=>[(d_0,aE0 r)]) (fun d_0=>.sl 1 d_0 0 r.length)) := by
  unfold Q_windowOf at h
  refine ACall.lessH ?_
  refine ACall.bodyN Tryz.func104 J Tryz.ntmps104 Tryz.results104 J J ?_
  refine tSR<|n_box J J J J fun b1=>rA J J<|rN<|tSR<|rA J J<|rN<|tS<|tSR<|rM J J<|ARun.qv (t_len J) J<|rM J J<|rN<|ATodo.block<|ATodo.loopI (fun x : (List Int) × Int=>Q_windowOf_b1 p0x0 p1x0 p2x0 p3x0 x.1 x.2) (fun x σ'=>∃ (b5 : Bk),σ' = ⟨51,[(2,.str p2x0),(3,I p3x0),(4,.ptr b1 0),(9,.sl 1 b5 0 x.1.length),(12,lE2 p1x0),(13,I (p1x0.length : Int)),(14,I x.2)],[(b1,.cells (cE0 p0x0)),(b5,aE0 x.1)]⟩) h ?_ ?_
  · exact ImpX.arr (s := 9) 1 J fun b8=>ImpX.lq [1,0] ⟨b8,J⟩ J J
  · intro x z1 σ' J1 hmk h hJ1 hA1
    obtain ⟨l6, n7⟩ := x
    obtain ⟨b5, rfl⟩ := hmk
    replace h : Q_windowOf_b1 p0x0 p1x0 p2x0 p3x0 l6 n7 = some z1 := h
    unfold Q_windowOf_b1 at h
    refine tSR<|ARun.qv (q_lss J J) J<|rN<|tS<|ATodo.cond_d J (fun hc=>?_) (fun hc=>?_)
    · refine have h := iteT hc h; tK<|tS<|ATodo.block<|tSR<|bndE h fun v9 e1 h=>ARun.qv (t_index J J J e1 J J) J<|ARun.qv (q_load_rptr_agg J J J) J<|n_alloc J J J J fun b10=>n_store_ptr J J J J .p0 J J<|rN<|tS<|ATodo.cut (fun σ'=>∃ (c11 : Bool),Q_windowOf_j1 l6 n7 v9 c11 = some z1 ∧ σ' = ⟨51,[(2,.str p2x0),(3,I p3x0),(4,.ptr b1 0),(9,.sl 1 b5 0 l6.length),(11,.ptr b10 0),(12,lE2 p1x0),(13,I (p1x0.length : Int)),(14,I n7),(43,.bool c11)],[(b1,.cells (cE0 p0x0)),(b5,aE0 l6),(b10,.cells (cE1 v9))]⟩) ?_ ?_
      · refine tR<|rF J J J<|rL J J .p0 J J<|rM J J<|ARun.qv (q_seq J J) J<|rM J J<|ARun.guard_dt J J J (fun hc=>?_) (fun hc=>?_)
        · rw [andTd hc] at h
          refine rF J J J<|rY J J J<|rL J J .p0 J J<|rY J J J<|rF J J J<|rY J J J<|rL J J .p1 J J<|rY J J J<|ARun.qv (q_seq J J) J<|rT J J J<|rM J J<|ARun.guard_dt J J J (fun hc=>?_) (fun hc=>?_)
          · rw [andTd hc] at h
            refine rF J J J<|rY J J J<|rL J J .p0 J J<|rY J J J<|rM J J<|rY J J J<|rF J J J<|rY J J J<|rL J J .p1 J J<|rY J J J<|ARun.qv (q_subw J J) J<|rY J J J<|ARun.qv (q_gtr J J) J<|rT J J J<|rM J J<|ARun.guard_dt J J J (fun hc=>?_) (fun hc=>?_)
            · rw [andTd hc] at h
              exact rF J J J<|rY J J J<|rL J J .p0 J J<|rY J J J<|rM J J<|rY J J J<|ARun.qv (q_leq J J) J<|rT J J J<|rN<|ATodo.stop<|ImpX.lq [1,1,0] ⟨decide (v9.At ≤ p3x0),h,J⟩ J J
            · rw [andFd hc] at h
              exact rG J J J J<|rG J J J J<|rG J J J J<|rE J J J<|rN<|ATodo.stop<|ImpX.lq [1,1,0] ⟨false,h,J⟩ J J
          · rw [andFd hc] at h
            exact rG J J J J<|rG J J J J<|rG J J J J<|rG J J J J<|rG J J J J<|rG J J J J<|rE J J J<|rM J J<|rG J J J J<|rG J J J J<|rG J J J J<|rG J J J J<|rE J J J<|rN<|ATodo.stop<|ImpX.lq [1,1,0] ⟨false,h,J⟩ J J
        · rw [andFd hc] at h
          exact rG J J J J<|rG J J J J<|rG J J J J<|rG J J J J<|rE J J J<|rM J J<|rG J J J J<|rG J J J J<|rG J J J J<|rG J J J J<|rG J J J J<|rG J J J J<|rG J J J J<|rE J J J<|rM J J<|rG J J J J<|rG J J J J<|rG J J J J<|rG J J J J<|rE J J J<|rN<|ATodo.stop<|ImpX.lq [1,1,0] ⟨false,h,J⟩ J J
      · rintro σ' ⟨c11, h, rfl⟩
        unfold Q_windowOf_j1 at h
        refine ATodo.cut (fun σ'=>∃ (b12 : Bk) (l13 : List Int),Q_windowOf_j2 n7 l13 = some z1 ∧ σ' = ⟨51,[(2,.str p2x0),(3,I p3x0),(4,.ptr b1 0),(9,.sl 1 b12 0 l13.length),(12,lE2 p1x0),(13,I (p1x0.length : Int)),(14,I n7)],[(b1,.cells (cE0 p0x0)),(b12,aE0 l13)]⟩) ?_ ?_
        · refine ATodo.cond J (fun hc=>?_) (fun hc=>?_)
          · exact have h := iteT hc h; tR<|rM J J<|rF J J J<|rL J J .p2 J J<|n_buildSliceL (xs := ([v9.Value] : List Int).map I) J J J J J J<|bndE h fun l14 e2 h=>t_append (g := I) J J J J J J J J (.list _) e2 (fun _=>.p1) J fun b15=>rA J J<|rN<|ATodo.stop<|ImpX.lq [0,0] ⟨b15,l14,h,J⟩ J J
          · exact have h := iteFb hc h; tK<|ATodo.stop<|ImpX.lq [0,0] ⟨b5,l6,h,J⟩ J J
        · rintro σ' ⟨b12, l13, h, rfl⟩
          unfold Q_windowOf_j2 at h
          refine ATodo.blk<|tR<|ARun.qv (q_addw J J) J<|rM J J<|rN<|ATodo.stop<|?_
          obtain rfl := Option.some.inj h
          exact hJ1 _ _ J<|ImpX.lq [0,0] ⟨b12,J⟩ J J
    · refine have h := iteF hc h; ATodo.exit J<|have h := outL h hA1; tSR<|rM J J<|rA J J<|rN<|ATodo.ret<|?_
      obtain rfl := Option.some.inj h
      exact ImpX.here ⟨_,.cons (.tmp _ _ J) .nil,_,.cons .p1 .nil,⟨b5,J,J⟩⟩

theorem slices_Min_int_int_c [GI : GTab] {p0x0 : List Int} {r : Int} (h : slices_Min_int_int p0x0 = some r) : Pu Tryz.prog 105 [lE0 p0x0] (I r) := by
  unfold slices_Min_int_int at h
  refine ACall.bodyN Tryz.func105 J Tryz.ntmps105 Tryz.results105 J J ?_
  refine tSR<|rA J J<|rN<|tS<|tSR<|rM J J<|ARun.qv (t_len J) J<|ARun.qv (q_lss J J) J<|rN<|ATodo.cond_d J (fun hc=>?_) (fun hc=>?_)
  · refine have h := iteT hc h; tR<|?_
    cases h
  · refine have h := iteF hc h; tK<|tSR<|rM J J<|bndE h fun v1 e1 h=>ARun.qv (t_index J J J e1 J J) J<|ARun.qv (q_load_rptr J J J) J<|rA J J<|rN<|tS<|tSR<|rA J J<|rN<|ATodo.block<|ATodo.loopI (fun x : Int × Int=>slices_Min_int_int_b1 p0x0 x.1 x.2) (fun x σ'=>σ' = ⟨25,[(0,lE0 p0x0),(3,I x.1),(4,I x.2)],[]⟩) h ?_ ?_
    · exact ImpX.lq [] J J J
    · intro x z1 σ' J1 hmk h hJ1 hA1
      obtain ⟨n4, n5⟩ := x
      obtain rfl := hmk
      replace h : slices_Min_int_int_b1 p0x0 n4 n5 = some z1 := h
      unfold slices_Min_int_int_b1 at h
      refine tS<|tSR<|rM J J<|rM J J<|ARun.qv (t_len J) J<|ARun.qv (q_lss J J) J<|rN<|ATodo.cond_d J (fun hc=>?_) (fun hc=>?_)
      · refine have h := iteT hc h; tK<|tS<|ATodo.block<|tR<|rM J J<|rM J J<|rM J J<|bndE h fun v6 e2 h=>ARun.qv (t_index J J J e2 J J) J<|ARun.qv (q_load_rptr J J J) J<|ARun.qv (q_min J J) J<|rA J J<|rN<|ATodo.blk<|tR<|rM J J<|ARun.qv (q_addw J J) J<|rA J J<|rN<|ATodo.stop<|?_
        obtain rfl := Option.some.inj h
        exact hJ1 _ _ J<|ImpX.lq [] J J J
      · refine have h := iteF hc h; ATodo.exit J<|have h := outL h hA1; tSR<|rM J J<|rA J J<|rN<|ATodo.ret<|?_
        obtain rfl := Option.some.inj h
        exact ImpX.here ⟨_,.cons (.tmp _ _ J) .nil,J⟩

theorem slices_Max_int_int_c [GI : GTab] {p0x0 : List Int} {r : Int} (h : slices_Max_int_int p0x0 = some r) : Pu Tryz.prog 106 [lE0 p0x0] (I r) := by
  unfold slices_Max_int_int at h
  refine ACall.bodyN Tryz.func106 J Tryz.ntmps106 Tryz.results106 J J ?_
  refine tSR<|rA J J<|rN<|tS<|tSR<|rM J J<|ARun.qv (t_len J) J<|ARun.qv (q_lss J J) J<|rN<|ATodo.cond_d J (fun hc=>?_) (fun hc=>?_)
  · refine have h := iteT hc h; tR<|?_
    cases h
  · refine have h := iteF hc h; tK<|tSR<|rM J J<|bndE h fun v1 e1 h=>ARun.qv (t_index J J J e1 J J) J<|ARun.qv (q_load_rptr J J J) J<|rA J J<|rN<|tS<|tSR<|rA J J<|rN<|ATodo.block<|ATodo.loopI (fun x : Int × Int=>slices_Max_int_int_b1 p0x0 x.1 x.2) (fun x σ'=>σ' = ⟨25,[(0,lE0 p0x0),(3,I x.1),(4,I x.2)],[]⟩) h ?_ ?_
    · exact ImpX.lq [] J J J
    · intro x z1 σ' J1 hmk h hJ1 hA1
      obtain ⟨n4, n5⟩ := x
      obtain rfl := hmk
      replace h : slices_Max_int_int_b1 p0x0 n4 n5 = some z1 := h
      unfold slices_Max_int_int_b1 at h
      refine tS<|tSR<|rM J J<|rM J J<|ARun.qv (t_len J) J<|ARun.qv (q_lss J J) J<|rN<|ATodo.cond_d J (fun hc=>?_) (fun hc=>?_)
      · refine have h := iteT hc h; tK<|tS<|ATodo.block<|tR<|rM J J<|rM J J<|rM J J<|bndE h fun v6 e2 h=>ARun.qv (t_index J J J e2 J J) J<|ARun.qv (q_load_rptr J J J) J<|ARun.qv (q_max J J) J<|rA J J<|rN<|ATodo.blk<|tR<|rM J J<|ARun.qv (q_addw J J) J<|rA J J<|rN<|ATodo.stop<|?_
        obtain rfl := Option.some.inj h
        exact hJ1 _ _ J<|ImpX.lq [] J J J
      · refine have h := iteF hc h; ATodo.exit J<|have h := outL h hA1; tSR<|rM J J<|rA J J<|rN<|ATodo.ret<|?_
        obtain rfl := Option.some.inj h
        exact ImpX.here ⟨_,.cons (.tmp _ _ J) .nil,J⟩

theorem Q_lowest_c [GI : GTab] {p0x0 : Int} {p1x0 : Int} {r : Fraction} (h : Q_lowest p0x0 p1x0 = some r) : Pu Tryz.prog 107 [I p0x0,I p1x0] (Fraction.av r) := by
  unfold Q_lowest at h
  refine ACall.bodyN Tryz.func107 J Tryz.ntmps107 Tryz.results107 J J ?_
  refine tSR<|n_alloc J J J J fun b1=>rN<|tSR<|rM J J<|rM J J<|ARun.qv (t_negw J) J<|ARun.qv (q_max J J) J<|rM J J<|rA J J<|rA J J<|rN<|tS<|ATodo.block<|ATodo.loopI (fun x : Int × Int=>Q_lowest_b1 p0x0 p1x0 x.1 x.2) (fun x σ'=>σ' = ⟨25,[(0,I p0x0),(1,I p1x0),(4,.ptr b1 0),(5,I x.1),(6,I x.2)],[(b1,.cells [I (0 : Int),I (0 : Int)])]⟩) h ?_ ?_
  · exact ImpX.lq [0] J J J
  · intro x z1 σ' J1 hmk h hJ1 hA1
    obtain ⟨n4, n5⟩ := x
    obtain rfl := hmk
    replace h : Q_lowest_b1 p0x0 p1x0 n4 n5 = some z1 := h
    unfold Q_lowest_b1 at h
    refine tS<|tSR<|rM J J<|ARun.qv (q_gtr J J) J<|rN<|ATodo.cond_d J (fun hc=>?_) (fun hc=>?_)
    · refine have h := iteT hc h; tK<|ATodo.block<|ATodo.regionM (id := 3) (A := [0,0,0,6,3,31]) 6 mixed J (by kernel_rfl) (by kernel_rfl)<|AM.qv (q_move J) J<|AM.qv (q_move J) J<|AM.qv (q_move J) J<|bndE h fun n6 e1 h=>AM.qv (t_remS J J e1) J<|AM.qv (q_assign J) J<|AM.qv (q_assign J) J<|AM.nil<|rN<|ATodo.blk<|ATodo.stop<|?_
      obtain rfl := Option.some.inj h
      exact hJ1 _ _ J<|ImpX.lq [0] J J J
    · refine have h := iteF hc h; ATodo.exit J<|have h := outL h hA1; ?_
      unfold Q_lowest_k1 at h
      refine tS<|ATodo.regionM (id := 4) (A := [0,0,3,0,0,24,63,127]) 7 mixed J (by kernel_rfl) (by kernel_rfl)<|AM.qv (q_move J) J<|AM.qv (q_move J) J<|bndE h fun n7 e2 h=>AM.qv (t_quoS J J e2) J<|AM.qv (q_move J) J<|AM.qv (q_move J) J<|bndE h fun n8 e3 h=>AM.qv (t_quoS J J e3) J<|AM.qv (n_build J J J J J) J<|AM.nil<|n_store_ptr J J J J .p0 J J<|rN<|ATodo.ret<|?_
      obtain rfl := Option.some.inj h
      exact ImpX.here ⟨_,.cons (.all _ _ _ _ _ _ J .p0 TUnder.h TInfo.h J J) .nil,J⟩

theorem Q_ValueOf_c [GI : GTab] {p0x0 : Rule} {p1x0 : List Sample} {p2x0 : Str} {p3x0 : Int} {r : Fraction × Bool} (h : Q_ValueOf p0x0 p1x0 p2x0 p3x0 = some r) : Pu Tryz.prog 43 [Rule.av p0x0,lE2 p1x0,.str p2x0,I p3x0] (.tup [Fraction.av r.1,.bool r.2]) := by
  unfold Q_ValueOf at h
  refine ACall.bodyN Tryz.func43 J Tryz.ntmps43 Tryz.results43 J J ?_
  refine tSR<|n_box J J J J fun b1=>n_alloc J J J J fun b2=>rA J J<|rN<|tSR<|ARun.qv (q_load_ptr_all J J .p1 J) J<|rM J J<|rM J J<|rM J J<|bndE h fun v3 e1 h=>t_call1 J (Q_windowOf_c e1) (CoL.refl _) .nil (fun _=>J) J fun b4=>rA J J<|rN<|tSR<|rM J J<|ARun.qv (t_len_sl J) J<|rA J J<|rN<|tS<|tSR<|rF J J J<|rL J J .p2 J J<|ARun.qv (q_eql J J) J<|rN<|ATodo.cond_d J (fun hc=>?_) (fun hc=>?_)
  · refine have h := iteT hc h; tSR<|rM J J<|ARun.qv (n_build J J J J J) J<|n_store_ptr J J J J .p1 J J<|rA J J<|rN<|ATodo.ret<|?_
    obtain rfl := Option.some.inj h
    exact ImpX.here ⟨_,.cons (.all _ _ _ _ _ _ J .p1 TUnder.h TInfo.h J J) (.cons (.tmp _ _ J) .nil),J⟩
  · refine have h := iteF hc h; tK<|tS<|tSR<|rM J J<|ARun.qv (q_eql J J) J<|rN<|ATodo.cond_d J (fun hc=>?_) (fun hc=>?_)
    · refine have h := iteT hc h; tSR<|ARun.qv (n_build J J J J J) J<|n_store_ptr J J J J .p1 J J<|rA J J<|rN<|ATodo.ret<|?_
      obtain rfl := Option.some.inj h
      exact ImpX.here ⟨_,.cons (.all _ _ _ _ _ _ J .p1 TUnder.h TInfo.h J J) (.cons (.tmp _ _ J) .nil),J⟩
    · refine have h := iteF hc h; tK<|tS<|tSR<|rF J J J<|rL J J .p2 J J<|rN<|ATodo.block<|tSR<|ARun.qv (q_eql J J) J<|rA J J<|rN<|ATodo.cond_d J (fun hc=>?_) (fun hc=>?_)
      · refine have h := iteT hc h; tSR<|rM J J<|bndE h fun v5 e2 h=>r_callpB J (slices_Min_int_int_c e2) (.cons (CoB.arrT .p0) .nil) J J<|ARun.qv (n_build J J J J J) J<|n_store_ptr J J J J .p1 J J<|rA J J<|rN<|ATodo.ret<|?_
        obtain rfl := Option.some.inj h
        exact ImpX.here ⟨_,.cons (.all _ _ _ _ _ _ J .p1 TUnder.h TInfo.h J J) (.cons (.tmp _ _ J) .nil),J⟩
      · refine have h := iteF hc h; tSR<|ARun.qv (q_eql J J) J<|rA J J<|rN<|ATodo.cond_d J (fun hc=>?_) (fun hc=>?_)
        · refine have h := iteT hc h; tSR<|rM J J<|bndE h fun v6 e3 h=>r_callpB J (slices_Max_int_int_c e3) (.cons (CoB.arrT .p0) .nil) J J<|ARun.qv (n_build J J J J J) J<|n_store_ptr J J J J .p1 J J<|rA J J<|rN<|ATodo.ret<|?_
          obtain rfl := Option.some.inj h
          exact ImpX.here ⟨_,.cons (.all _ _ _ _ _ _ J .p1 TUnder.h TInfo.h J J) (.cons (.tmp _ _ J) .nil),J⟩
        · refine have h := iteF hc h; tSR<|ARun.qv (q_eql J J) J<|rA J J<|rN<|ATodo.cond_d J (fun hc=>?_) (fun hc=>?_)
          · refine have h := iteT hc h; tSR<|rA J J<|rN<|tS<|tSR<|rM J J<|ARun.qv (t_len_sl J) J<|rM J J<|rN<|ATodo.block<|ATodo.loopI (fun x : Int × Int=>Q_ValueOf_b1 v3 x.1 x.2) (fun x σ'=>σ' = ⟨75,[(8,.ptr b2 0),(11,I (v3.length : Int)),(12,I x.1),(44,.sl 1 b4 0 v3.length),(45,I (v3.length : Int)),(46,I x.2)],[(b2,.cells [I (0 : Int),I (0 : Int)]),(b4,aE0 v3)]⟩) h ?_ ?_
            · exact ImpX.lq [1,0] J J J
            · intro x z1 σ' J1 hmk h hJ1 hA1
              obtain ⟨n9, n10⟩ := x
              obtain rfl := hmk
              replace h : Q_ValueOf_b1 v3 n9 n10 = some z1 := h
              unfold Q_ValueOf_b1 at h
              refine tSR<|ARun.qv (q_lss J J) J<|rN<|tS<|ATodo.cond_d J (fun hc=>?_) (fun hc=>?_)
              · refine have h := iteT hc h; tK<|tS<|ATodo.block<|tSR<|bndE h fun v11 e4 h=>ARun.qv (t_index_sl J J J e4) J<|ARun.qv (t_load_aptr (g := I) J J (.inl .p1) e4 J) J<|rA J J<|rN<|tR<|rM J J<|rM J J<|ARun.qv (q_addw J J) J<|rA J J<|rN<|ATodo.blk<|tR<|ARun.qv (q_addw J J) J<|rM J J<|rN<|ATodo.stop<|?_
                obtain rfl := Option.some.inj h
                exact hJ1 _ _ J<|ImpX.lq [0,0] J J J
              · refine have h := iteF hc h; ATodo.exit J<|have h := outL h hA1; ?_
                unfold Q_ValueOf_k1 at h
                refine tSR<|rM J J<|rM J J<|bndE h fun v12 e5 h=>r_callp J (Q_lowest_c e5) (CoL.refl _) J<|n_store_ptr J J J J .p0 J J<|rA J J<|rN<|ATodo.ret<|?_
                obtain rfl := Option.some.inj h
                exact ImpX.here ⟨_,.cons (.all _ _ _ _ _ _ J .p0 TUnder.h TInfo.h J J) (.cons (.tmp _ _ J) .nil),J⟩
          · refine have h := iteF hc h; tSR<|ARun.qv (q_eql J J) J<|rA J J<|rN<|ATodo.cond_d J (fun hc=>?_) (fun hc=>?_)
            · refine have h := iteT hc h; tS<|ATodo.regionM (id := 21) (A := [0,0,2,7,15,0,32,96,255,511,1023,2047]) 10 mixed J (by kernel_rfl) (by kernel_rfl)<|AM.qv (q_move J) J<|AM.qv (q_move J) J<|AM.qv (q_subw J J) J<|bndE h fun v13 e6 h=>AM.qv (t_index_sl J J J e6) J<|AM.qv (t_load_aptr (g := I) J J (.inl .p0) e6 J) J<|AM.qv (q_move J) J<|bndE h fun v14 e7 h=>AM.qv (t_index_sl J J J e7) J<|AM.qv (t_load_aptr (g := I) J J (.inl .p0) e7 J) J<|AM.qv (q_subw J J) J<|AM.qv (n_build J J J J J) J<|AM.nil<|n_store_ptr J J J J .p1 J J<|rA J J<|rN<|ATodo.ret<|?_
              obtain rfl := Option.some.inj h
              exact ImpX.here ⟨_,.cons (.all _ _ _ _ _ _ J .p1 TUnder.h TInfo.h J J) (.cons (.tmp _ _ J) .nil),J⟩
            · refine have h := iteF hc h; tK<|ATodo.blk<|tSR<|rM J J<|rM J J<|ARun.qv (q_subw J J) J<|bndE h fun v15 e8 h=>ARun.qv (t_index_sl J J J e8) J<|ARun.qv (t_load_aptr (g := I) J J (.inl .p0) e8 J) J<|ARun.qv (n_build J J J J J) J<|n_store_ptr J J J J .p1 J J<|rA J J<|rN<|ATodo.ret<|?_
              obtain rfl := Option.some.inj h
              exact ImpX.here ⟨_,.cons (.all _ _ _ _ _ _ J .p1 TUnder.h TInfo.h J J) (.cons (.tmp _ _ J) .nil),J⟩

theorem Q_StateOf_c [GI : GTab] {p0x0 : Rule} {p1x0 : List Sample} {p2x0 : Str} {p3x0 : Int} {r : Int} (h : Q_StateOf p0x0 p1x0 p2x0 p3x0 = some r) : Pu Tryz.prog 44 [Rule.av p0x0,lE2 p1x0,.str p2x0,I p3x0] (I r) := by
  unfold Q_StateOf at h
  refine ACall.bodyN Tryz.func44 J Tryz.ntmps44 Tryz.results44 J J ?_
  refine tSR<|n_box J J J J fun b1=>rA J J<|rN<|tSR<|ARun.qv (q_load_ptr_all J J .p0 J) J<|rM J J<|rM J J<|rM J J<|bndE h fun v2 e1 h=>r_callp J (Q_ValueOf_c e1) (CoL.refl _) J<|rM J J<|rX J J J<|rX J J J<|n_alloc J J J J fun b3=>n_store_ptr J J J J .p0 J J<|rA J J<|rN<|tS<|tSR<|rM J J<|ARun.qv (q_not J) J<|rN<|ATodo.cond J (fun hc=>?_) (fun hc=>?_)
  · refine have h := iteT hc h; tSR<|n_buildSliceL (xs := ([(0 : Int),(2 : Int),(1 : Int)]).map I) J J J J J J<|rF J J J<|rL J J .p1 J J<|bndE h fun v4 e2 h=>ARun.qv (t_index J J J e2 J J) J<|ARun.qv (q_load_rptr J J J) J<|rA J J<|rN<|ATodo.ret<|?_
    obtain rfl := Option.some.inj h
    exact ImpX.here ⟨_,.cons (.tmp _ _ J) .nil,J⟩
  · refine have h := iteFb hc h; tK<|tS<|ATodo.regionM (id := 4) (A := [0,1,0,4,0,16,60,127,0,256,0,1024,0,4096,15360,32767,65535,131071]) 18 mixed J (by kernel_rfl) (by kernel_rfl)<|AM.qv (n_field_ptr J J) J<|AM.qv (q_load_ptr J J .p0 J) J<|AM.qv (n_field_ptr J J) J<|AM.qv (q_load_ptr J J .p1 J) J<|AM.qv (n_field_ptr J J) J<|AM.qv (q_load_ptr J J .p0 J) J<|AM.qv (q_mulw J J) J<|AM.callp J (cmp_Compare_int_c J) (CoL.refl _) J<|AM.qv (n_field_ptr J J) J<|AM.qv (q_load_ptr J J .p0 J) J<|AM.qv (n_field_ptr J J) J<|AM.qv (q_load_ptr J J .p1 J) J<|AM.qv (n_field_ptr J J) J<|AM.qv (q_load_ptr J J .p0 J) J<|AM.qv (q_mulw J J) J<|AM.callp J (cmp_Compare_int_c J) (CoL.refl _) J<|AM.qv (q_assign J) J<|AM.qv (q_assign J) J<|AM.nil<|rN<|tS<|tSR<|rF J J J<|rL J J .p1 J J<|ARun.qv (q_not J) J<|rN<|ATodo.cut (fun σ'=>∃ (n5 : Int) (n6 : Int),Q_StateOf_j1 n5 n6 = some r ∧ σ' = ⟨57,[(11,I n5),(12,I n6)],[]⟩) ?_ ?_
    · refine ATodo.cond J (fun hc=>?_) (fun hc=>?_)
      · exact have h := iteT hc h; tR<|rM J J<|ARun.qv (t_negw J) J<|rM J J<|ARun.qv (t_negw J) J<|rA J J<|rA J J<|rN<|ATodo.stop<|ImpX.lq [] ⟨w64 (-(cmp_Compare_int v2.1.Num (w64 (p0x0.On * v2.1.Den)))),w64 (-(cmp_Compare_int v2.1.Num (w64 (p0x0.Off * v2.1.Den)))),h,J⟩ J J
      · exact have h := iteFb hc h; tK<|ATodo.stop<|ImpX.lq [] ⟨(cmp_Compare_int v2.1.Num (w64 (p0x0.On * v2.1.Den))),(cmp_Compare_int v2.1.Num (w64 (p0x0.Off * v2.1.Den))),h,J⟩ J J
    · rintro σ' ⟨n5, n6, h, rfl⟩
      unfold Q_StateOf_j1 at h
      refine tS<|ATodo.block<|tSR<|rM J J<|ARun.qv (q_geq J J) J<|rA J J<|rN<|ATodo.cond_d J (fun hc=>?_) (fun hc=>?_)
      · refine have h := iteT hc h; tSR<|rA J J<|rN<|ATodo.ret<|?_
        obtain rfl := Option.some.inj h
        exact ImpX.here ⟨_,.cons (.tmp _ _ J) .nil,J⟩
      · refine have h := iteF hc h; tSR<|rM J J<|ARun.qv (q_lss J J) J<|rA J J<|rN<|ATodo.cond_d J (fun hc=>?_) (fun hc=>?_)
        · refine have h := iteT hc h; tSR<|rA J J<|rN<|ATodo.ret<|?_
          obtain rfl := Option.some.inj h
          exact ImpX.here ⟨_,.cons (.tmp _ _ J) .nil,J⟩
        · refine have h := iteF hc h; tK<|ATodo.blk<|tSR<|rA J J<|rN<|ATodo.ret<|?_
          obtain rfl := Option.some.inj h
          exact ImpX.here ⟨_,.cons (.tmp _ _ J) .nil,J⟩

theorem Q_runsOf_c [GI : GTab] {p0x0 : Rule} {p1x0 : List Sample} {p2x0 : Str} {r : (List Fleetref1_run)} (h : Q_runsOf p0x0 p1x0 p2x0 = some r) : ACall Tryz.prog 83 [Rule.av p0x0,lE2 p1x0,.str p2x0] [] (T1 (fun d_0=>[(d_0,aE7 r)]) (fun d_0=>.sl 3 d_0 0 r.length)) := by
  unfold Q_runsOf at h
  refine ACall.lessH ?_
  refine ACall.bodyN Tryz.func83 J Tryz.ntmps83 Tryz.results83 J J ?_
  refine tSR<|n_box J J J J fun b1=>rA J J<|rN<|tSR<|n_buildSlice J J J J J J fun b2=>rA J J<|rN<|tS<|tSR<|rM J J<|ARun.qv (t_len J) J<|rM J J<|rN<|ATodo.block<|ATodo.loopI (fun x : (List Int) × Int=>Q_runsOf_b1 p0x0 p1x0 p2x0 x.1 x.2) (fun x σ'=>∃ (b6 : Bk),σ' = ⟨100,[(1,lE2 p1x0),(2,.str p2x0),(3,.ptr b1 0),(7,.sl 1 b6 0 x.1.length),(15,lE2 p1x0),(16,I (p1x0.length : Int)),(17,I x.2)],[(b1,.cells (cE0 p0x0)),(b6,aE0 x.1)]⟩) h ?_ ?_
  · exact ImpX.lq [1,0] ⟨b2,J⟩ J J
  · intro x z1 σ' J1 hmk h hJ1 hA1
    obtain ⟨l7, n8⟩ := x
    obtain ⟨b6, rfl⟩ := hmk
    replace h : Q_runsOf_b1 p0x0 p1x0 p2x0 l7 n8 = some z1 := h
    unfold Q_runsOf_b1 at h
    refine tSR<|ARun.qv (q_lss J J) J<|rN<|tS<|ATodo.cond_d J (fun hc=>?_) (fun hc=>?_)
    · refine have h := iteT hc h; tK<|tS<|ATodo.block<|tSR<|bndE h fun v9 e1 h=>ARun.qv (t_index J J J e1 J J) J<|ARun.qv (q_load_rptr_agg J J J) J<|n_alloc J J J J fun b10=>n_store_ptr J J J J .p0 J J<|rN<|tS<|ATodo.cut (fun σ'=>∃ (c11 : Bool),Q_runsOf_j1 p0x0 l7 n8 v9 c11 = some z1 ∧ σ' = ⟨100,[(1,lE2 p1x0),(2,.str p2x0),(3,.ptr b1 0),(7,.sl 1 b6 0 l7.length),(9,.ptr b10 0),(15,lE2 p1x0),(16,I (p1x0.length : Int)),(17,I n8),(31,.bool c11)],[(b1,.cells (cE0 p0x0)),(b6,aE0 l7),(b10,.cells (cE1 v9))]⟩) ?_ ?_
      · refine tR<|rF J J J<|rL J J .p0 J J<|rM J J<|ARun.qv (q_seq J J) J<|rM J J<|ARun.guard_dt J J J (fun hc=>?_) (fun hc=>?_)
        · rw [andTd hc] at h
          exact rF J J J<|rY J J J<|rL J J .p0 J J<|rY J J J<|rF J J J<|rY J J J<|rL J J .p1 J J<|rY J J J<|ARun.qv (q_seq J J) J<|rT J J J<|rN<|ATodo.stop<|ImpX.lq [1,1,0] ⟨decide (v9.Metric = p0x0.Metric),h,J⟩ J J
        · rw [andFd hc] at h
          exact rG J J J J<|rG J J J J<|rG J J J J<|rG J J J J<|rE J J J<|rN<|ATodo.stop<|ImpX.lq [1,1,0] ⟨false,h,J⟩ J J
      · rintro σ' ⟨c11, h, rfl⟩
        unfold Q_runsOf_j1 at h
        refine ATodo.cut (fun σ'=>∃ (b12 : Bk) (l13 : List Int),Q_runsOf_j2 n8 l13 = some z1 ∧ σ' = ⟨100,[(1,lE2 p1x0),(2,.str p2x0),(3,.ptr b1 0),(7,.sl 1 b12 0 l13.length),(15,lE2 p1x0),(16,I (p1x0.length : Int)),(17,I n8)],[(b1,.cells (cE0 p0x0)),(b12,aE0 l13)]⟩) ?_ ?_
        · refine ATodo.cond J (fun hc=>?_) (fun hc=>?_)
          · exact have h := iteT hc h; tR<|rM J J<|rF J J J<|rL J J .p2 J J<|rF J J J<|rL J J .p2 J J<|rF J J J<|rL J J .p0 J J<|ARun.qv (q_addw J J) J<|ARun.qv (q_min J J) J<|n_buildSliceL (xs := ([v9.At,min (w64 (v9.At + p0x0.Long)) (345686400000 : Int)]).map I) J J J J J J<|bndE h fun l14 e2 h=>t_append (g := I) J J J J J J J J (.list _) e2 (fun _=>.p1) J fun b15=>rA J J<|rN<|ATodo.stop<|ImpX.lq [0,0] ⟨b15,l14,h,J⟩ J J
          · exact have h := iteFb hc h; tK<|ATodo.stop<|ImpX.lq [0,0] ⟨b6,l7,h,J⟩ J J
        · rintro σ' ⟨b12, l13, h, rfl⟩
          unfold Q_runsOf_j2 at h
          refine ATodo.blk<|tR<|ARun.qv (q_addw J J) J<|rM J J<|rN<|ATodo.stop<|?_
          obtain rfl := Option.some.inj h
          exact hJ1 _ _ J<|ImpX.lq [0,0] ⟨b12,J⟩ J J
    · refine have h := iteF hc h; ATodo.exit J<|have h := outL h hA1; ?_
      unfold Q_runsOf_k5 at h
      refine tSR<|rM J J<|bndE h fun v16 e3 h=>t_call0 J (slices_Sort_int_int_c (lenOk_f e3)) (CoL.refl _) (.cons .p1 .nil) J J<|ARun.ghost<|ImpX.eqs (s := 7) (av' := .sl 1 b6 0 v16.length) J (congrArg (AV.sl 1 b6 0) (lenOk_l e3))<|ImpX.here<|ARun.ghost<|ImpX.eqs (s := 44) (av' := .sl 1 b6 0 v16.length) J (congrArg (AV.sl 1 b6 0) (lenOk_l e3))<|ImpX.here<|rN<|tSR<|rM J J<|bndE h fun v17 e4 h=>t_call1 J (slices_Compact_int_int_c e4) (CoL.refl _) (.cons .p0 .nil) (fun _=>J) J fun b18=>rA J J<|rN<|tSR<|rA J J<|rN<|tS<|tSR<|rM J J<|ARun.qv (t_len_sl J) J<|ARun.qv (q_subw J J) J<|rM J J<|rN<|ATodo.block<|ATodo.loopI (fun x : (List Fleetref1_run) × Int=>Q_runsOf_b2 p0x0 p1x0 p2x0 v17 x.1 x.2) (fun x σ'=>∃ (b22 : Bk),σ' = ⟨100,[(1,lE2 p1x0),(2,.str p2x0),(3,.ptr b1 0),(7,.sl 1 b18 0 v17.length),(10,.sl 3 b22 0 x.1.length),(50,I (w64 ((v17.length : Int) - (1 : Int)))),(51,I x.2)],[(b1,.cells (cE0 p0x0)),(b18,aE0 v17),(b22,aE7 x.1)]⟩) h ?_ ?_
      · exact ImpX.arr (s := 10) 3 J fun b25=>ImpX.lq [2,1,0] ⟨b25,J⟩ J J
      · intro x z2 σ' J2 hmk h hJ2 hA2
        obtain ⟨l23, n24⟩ := x
        obtain ⟨b22, rfl⟩ := hmk
        replace h : Q_runsOf_b2 p0x0 p1x0 p2x0 v17 l23 n24 = some z2 := h
        unfold Q_runsOf_b2 at h
        refine tSR<|ARun.qv (q_lss J J) J<|rN<|tS<|ATodo.cond_d J (fun hc=>?_) (fun hc=>?_)
        · refine have h := iteT hc h; tK<|tS<|ATodo.block<|tSR<|rM J J<|rA J J<|rN<|tS<|bndE h fun v26 e5 h=>bndE h fun v27 e6 h=>bndE h fun v28 e7 h=>bndE h fun v29 e8 h=>ATodo.regionT (id := 14) (A := [0,0,3,7,0,0,32,112,240,0,0,0,0,0,12288,28672,65024,131071,0,524287]) (H0 := []) (HH := fun β=>[((β 18),.cells [I (0 : Int),I (0 : Int),I (0 : Int)]),(b1,.cells (cE0 p0x0)),(b18,aE0 v17),(b22,aE7 l23)]) 19 mixed J (by kernel_rfl) (by kernel_rfl) [⟨some 18,none,[],fun b=>(b,.cells [I (0 : Int),I (0 : Int),I (0 : Int)]),none,[]⟩] [18] J (by kernel_rfl) J .nil (fun _=>J)<|AT.am 18 J J<|AM.qv (q_move J) J<|AM.qv (q_move J) J<|AM.qv (t_index_sl J J J e5) J<|AM.qv (t_load_aptr (g := I) J J (.inl .p1) e5 J) J<|AM.qv (q_move J) J<|AM.qv (q_move J) J<|AM.qv (q_addw J J) J<|AM.qv (t_index_sl J J J e6) J<|AM.qv (t_load_aptr (g := I) J J (.inl .p1) e6 J) J<|AM.qv (q_load_ptr_all J J .p0 J) J<|AM.qv (q_move J) J<|AM.qv (q_move J) J<|AM.qv (q_move J) J<|AM.qv (q_move J) J<|AM.qv (t_index_sl J J J e7) J<|AM.qv (t_load_aptr (g := I) J J (.inl .p1) e7 J) J<|AM.callp J (Q_StateOf_c e8) (CoL.refl _) J<|AM.qv (n_build J J J J J) J<|AM.nil<|AT.runD (V := fun b=>.ptr b 0) (Ti := []) (Pi := fun b=>[(b,.cells [I (0 : Int),I (0 : Int),I (0 : Int)])]) (fun _=>J) (fun _=>J) (fun _ _=>J) J (fun _=>J) J J J ?_ ?_
          · exact n_alloc J J J J fun b30=>ARun.nil ⟨b30,_,J,J⟩
          refine AT.nilN (fun _=>J) fun β=>?_
          generalize β 18 = b30
          clear β
          refine n_store_ptr J J J J .p0 J J<|rN<|tSR<|rM J J<|ARun.qv (t_len_sl J) J<|rA J J<|rN<|tS<|ATodo.cut (fun σ'=>∃ (c31 : Bool),Q_runsOf_j3 l23 n24 v26 v27 v29 c31 = some z2 ∧ σ' = ⟨100,[(1,lE2 p1x0),(2,.str p2x0),(3,.ptr b1 0),(7,.sl 1 b18 0 v17.length),(10,.sl 3 b22 0 l23.length),(12,.ptr b30 0),(13,I (l23.length : Int)),(50,I (w64 ((v17.length : Int) - (1 : Int)))),(51,I n24),(86,.bool c31)],[(b1,.cells (cE0 p0x0)),(b18,aE0 v17),(b22,aE7 l23),(b30,.cells [I v26,I v27,I v29])]⟩) ?_ ?_
          · refine ATodo.regionM (id := 16) (A := [0,1,3,7,7,23,63,127,255,7,519,2047,4095]) 13 mixed J (by kernel_rfl) (by kernel_rfl)<|AM.qv (q_move J) J<|AM.qv (q_gtr J J) J<|AM.qv (q_move J) J<|AM.guard_dt J J J (fun hc=>?_) (fun hc=>?_)
            · exact have h := iteT hc h; AM.qv (q_move J) J<|AM.guard_yes J J J<|AM.qv (q_move J) J<|AM.guard_yes J J J<|AM.qv (q_subw J J) J<|AM.guard_yes J J J<|bndE h fun v32 e9 h=>AM.qv (t_index_sl J J J e9) J<|AM.guard_yes J J J<|AM.qv (t_field_aptr J J) J<|AM.guard_yes J J J<|AM.qv (t_load_aptr (g := Fleetref1_run.av) J J (.inl .p3) e9 J) J<|AM.guard_yes J J J<|AM.qv (n_field_ptr J J) J<|AM.guard_yes J J J<|AM.qv (q_load_ptr J J .p0 J) J<|AM.guard_yes J J J<|AM.qv (q_eql J J) J<|AM.qv (q_pick_t J J) J<|AM.nil<|rN<|ATodo.stop<|ImpX.lq [1,1,1,0] ⟨decide (v32.state_ = v29),h,J⟩ J J
            · exact have h := iteF hc h; AM.guard_no J J J J<|AM.guard_no J J J J<|AM.guard_no J J J J<|AM.guard_no J J J J<|AM.guard_no J J J J<|AM.guard_no J J J J<|AM.guard_no J J J J<|AM.guard_no J J J J<|AM.qv (q_pick_f J J) J<|AM.nil<|rN<|ATodo.stop<|ImpX.lq [1,1,1,0] ⟨false,h,J⟩ J J
          · rintro σ' ⟨c31, h, rfl⟩
            unfold Q_runsOf_j3 at h
            refine ATodo.cut (fun σ'=>∃ (b33 : Bk) (l34 : List Fleetref1_run),Q_runsOf_j4 n24 l34 = some z2 ∧ σ' = ⟨100,[(1,lE2 p1x0),(2,.str p2x0),(3,.ptr b1 0),(7,.sl 1 b18 0 v17.length),(10,.sl 3 b33 0 l34.length),(50,I (w64 ((v17.length : Int) - (1 : Int)))),(51,I n24)],[(b1,.cells (cE0 p0x0)),(b18,aE0 v17),(b33,aE7 l34)]⟩) ?_ ?_
            · refine ATodo.cond J (fun hc=>?_) (fun hc=>?_)
              · exact have h := iteT hc h; tR<|rM J J<|rM J J<|ARun.qv (q_subw J J) J<|rF J J J<|rL J J .p3 J J<|bndE h fun v35 e10 h=>ARun.qv (t_index_sl J J J e10) J<|ARun.qv (t_field_aptr J J) J<|t_store_aptr1 (g := Fleetref1_run.av) (el' := (⟨v35.from_,v27,v35.state_⟩ : Fleetref1_run)) J J J J e10 J .p2 J<|ARun.ghost<|ImpX.eqs (s := 10) (av' := .sl 3 b22 0 (l23.set (w64 ((l23.length : Int) - (1 : Int))).toNat (⟨v35.from_,v27,v35.state_⟩ : Fleetref1_run)).length) J (by rw [List.length_set])<|ImpX.here<|ARun.ghost<|ImpX.eqs (s := 87) (av' := .sl 3 b22 0 (l23.set (w64 ((l23.length : Int) - (1 : Int))).toNat (⟨v35.from_,v27,v35.state_⟩ : Fleetref1_run)).length) J (by rw [List.length_set])<|ImpX.here<|rN<|ATodo.stop<|ImpX.lq [0,0,0] ⟨b22,l23.set (w64 ((l23.length : Int) - (1 : Int))).toNat (⟨v35.from_,v27,v35.state_⟩ : Fleetref1_run),h,J⟩ J J
              · exact have h := iteFb hc h; tR<|rM J J<|ARun.qv (q_load_ptr_all J J .p3 J) J<|n_buildSliceL (xs := ([(⟨v26,v27,v29⟩ : Fleetref1_run)]).map Fleetref1_run.av) J J J J J J<|bndE h fun l36 e11 h=>t_append (g := Fleetref1_run.av) J J J J J J J J (.list _) e11 (fun _=>.p2) J fun b37=>rA J J<|rN<|ATodo.stop<|ImpX.lq [0,0,0] ⟨b37,l36,h,J⟩ J J
            · rintro σ' ⟨b33, l34, h, rfl⟩
              unfold Q_runsOf_j4 at h
              refine ATodo.blk<|tR<|ARun.qv (q_addw J J) J<|rM J J<|rN<|ATodo.stop<|?_
              obtain rfl := Option.some.inj h
              exact hJ2 _ _ J<|ImpX.lq [0,0,0] ⟨b33,J⟩ J J
        · refine have h := iteF hc h; ATodo.exit J<|have h := outL h hA2; tSR<|rM J J<|rA J J<|rN<|ATodo.ret<|?_
          obtain rfl := Option.some.inj h
          exact ImpX.here ⟨_,.cons (.tmp _ _ J) .nil,_,.cons .p2 .nil,⟨b22,J,J⟩⟩

theorem Q_FiresIn_1x_c [GI : GTab] {p0x0 : Int} {p1x0 : Int} {p2x0 : Int} {p3x0 : List Fleetref1_run} {r : Int × Bool} (h : Q_FiresIn_1x p0x0 p1x0 p2x0 p3x0 = some r) : Pu Tryz.prog 84 [I p0x0,I p1x0,I p2x0,.rptr [lE7 p3x0]] (.tup [I r.1,.bool r.2]) := by
  unfold Q_FiresIn_1x at h
  refine ACall.bodyN Tryz.func84 J Tryz.ntmps84 Tryz.results84 J J ?_
  refine tSR<|rA J J<|rA J J<|rN<|tS<|tSR<|ARun.qv (q_load_rptr J J J) J<|ARun.qv (t_len J) J<|rM J J<|rN<|ATodo.block<|ATodo.loopI (fun x : Int=>Q_FiresIn_1x_b1 p0x0 p1x0 p2x0 p3x0 x) (fun x σ'=>σ' = ⟨38,[(0,I p0x0),(1,I p1x0),(2,I p2x0),(12,lE7 p3x0),(13,I (p3x0.length : Int)),(14,I x)],[]⟩) h ?_ ?_
  · exact ImpX.lq [] J J J
  · intro n2 z1 σ' J1 hmk h hJ1 hA1
    obtain rfl := hmk
    replace h : Q_FiresIn_1x_b1 p0x0 p1x0 p2x0 p3x0 n2 = some z1 := h
    unfold Q_FiresIn_1x_b1 at h
    refine tSR<|ARun.qv (q_lss J J) J<|rN<|tS<|ATodo.cond_d J (fun hc=>?_) (fun hc=>?_)
    · refine have h := iteT hc h; tK<|tS<|ATodo.block<|tSR<|bndE h fun v3 e1 h=>ARun.qv (t_index J J J e1 J J) J<|ARun.qv (q_load_rptr_agg J J J) J<|n_alloc J J J J fun b4=>n_store_ptr J J J J .p0 J J<|rN<|tSR<|rF J J J<|rL J J .p0 J J<|rM J J<|ARun.qv (q_max J J) J<|rA J J<|rN<|tS<|ATodo.cut (fun σ'=>∃ (c5 : Bool),Q_FiresIn_1x_j1 p0x0 p2x0 n2 v3 c5 = some z1 ∧ σ' = ⟨38,[(0,I p0x0),(1,I p1x0),(2,I p2x0),(11,I (max v3.from_ p0x0)),(12,lE7 p3x0),(13,I (p3x0.length : Int)),(14,I n2),(33,.bool c5)],[]⟩) ?_ ?_
      · refine tR<|rF J J J<|rL J J .p0 J J<|rM J J<|ARun.qv (q_eql J J) J<|rM J J<|ARun.guard_dt J J J (fun hc=>?_) (fun hc=>?_)
        · rw [andTd hc] at h
          exact rM J J<|rY J J J<|rM J J<|rY J J J<|ARun.qv (q_addw J J) J<|rY J J J<|rF J J J<|rY J J J<|rL J J .p0 J J<|rY J J J<|ARun.qv (q_lss J J) J<|rT J J J<|rN<|ATodo.stop<|ImpX.lq [] ⟨decide ((w64 ((max v3.from_ p0x0) + p2x0)) < v3.to_),h,J⟩ J J
        · rw [andFd hc] at h
          exact rG J J J J<|rG J J J J<|rG J J J J<|rG J J J J<|rG J J J J<|rE J J J<|rN<|ATodo.stop<|ImpX.lq [] ⟨false,h,J⟩ J J
      · rintro σ' ⟨c5, h, rfl⟩
        unfold Q_FiresIn_1x_j1 at h
        refine ATodo.cond J (fun hc=>?_) (fun hc=>?_)
        · refine have h := iteT hc h; tSR<|rM J J<|rM J J<|ARun.qv (q_addw J J) J<|rA J J<|rA J J<|rN<|ATodo.ret<|have h := outL h hA1; ?_
          obtain rfl := Option.some.inj h
          exact ImpX.here ⟨_,.cons (.tmp _ _ J) (.cons (.tmp _ _ J) .nil),J⟩
        · refine have h := iteFb hc h; tK<|ATodo.blk<|tR<|ARun.qv (q_addw J J) J<|rM J J<|rN<|ATodo.stop<|?_
          obtain rfl := Option.some.inj h
          exact hJ1 _ _ J<|ImpX.lq [] J J J
    · refine have h := iteF hc h; ATodo.exit J<|have h := outL h hA1; tSR<|rA J J<|rA J J<|rN<|ATodo.ret<|?_
      obtain rfl := Option.some.inj h
      exact ImpX.here ⟨_,.cons (.tmp _ _ J) (.cons (.tmp _ _ J) .nil),J⟩

theorem Q_FiresIn_c [GI : GTab] {p0x0 : Rule} {p1x0 : List Sample} {p2x0 : Str} {r : (List Window)} (h : Q_FiresIn p0x0 p1x0 p2x0 = some r) : ACall Tryz.prog 23 [Rule.av p0x0,lE2 p1x0,.str p2x0] [] (T1 (fun d_0=>[(d_0,aE8 r)]) (fun d_0=>.sl 2 d_0 0 r.length)) := by
  unfold Q_FiresIn at h
  refine ACall.lessH ?_
  refine ACall.bodyN Tryz.func23 J Tryz.ntmps23 Tryz.results23 J J ?_
  refine tSR<|n_box J J J J fun b1=>rA J J<|rN<|tSR<|ARun.qv (q_load_ptr_all J J .p0 J) J<|rM J J<|rM J J<|bndE h fun v2 e1 h=>t_call1 J (Q_runsOf_c e1) (CoL.refl _) .nil (fun _=>J) J fun b3=>n_alloc J J J J fun b4=>n_store_ptr J J J J .p0 J J<|rN<|tSR<|ARun.qv (q_makeFunc J) J<|rA J J<|rN<|tSR<|rA J J<|rN<|tSR<|rA J J<|rN<|ATodo.block<|ATodo.loopI (fun x : (List Window) × Int=>Q_FiresIn_b1 p0x0 v2 x.1 x.2) (fun x σ'=>∃ (b8 : Bk),σ' = ⟨53,[(3,.ptr b1 0),(8,.func (.func 84) [.ptr b4 0]),(9,.sl 2 b8 0 x.1.length),(10,I x.2)],[(b1,.cells (cE0 p0x0)),(b4,.cells [.sl 3 b3 0 v2.length]),(b3,aE7 v2),(b8,aE8 x.1)]⟩) h ?_ ?_
  · exact ImpX.arr (s := 9) 2 J fun b11=>ImpX.lq [3,1,1,0] ⟨b11,J⟩ J J
  · intro x z1 σ' J1 hmk h hJ1 hA1
    obtain ⟨l9, n10⟩ := x
    obtain ⟨b8, rfl⟩ := hmk
    replace h : Q_FiresIn_b1 p0x0 v2 l9 n10 = some z1 := h
    unfold Q_FiresIn_b1 at h
    refine ATodo.block<|tSR<|rM J J<|rM J J<|rF J J J<|rL J J .p0 J J<|bndE h fun v12 e2 h=>r_callvpB J J (Q_FiresIn_1x_c e2) (.cons (.co (.refl _)) (.cons (.co (.refl _)) (.cons (.co (.refl _)) (.cons (.boxL _ _ _ .p1 (.cons (CoB.arrT .p2) .nil)) .nil)))) J J<|rM J J<|rX J J J<|rX J J J<|rA J J<|rA J J<|rN<|tS<|tSR<|rM J J<|ARun.qv (q_not J) J<|rN<|ATodo.cond J (fun hc=>?_) (fun hc=>?_)
    · refine have h := iteT hc h; tSR<|rM J J<|rA J J<|rN<|ATodo.ret<|have h := outL h hA1; ?_
      obtain rfl := Option.some.inj h
      exact ImpX.here ⟨_,.cons (.tmp _ _ J) .nil,_,.cons .p3 .nil,⟨b8,J,J⟩⟩
    · refine have h := iteFb hc h; tK<|tSR<|rM J J<|rM J J<|rF J J J<|rL J J .p0 J J<|bndE h fun v13 e3 h=>r_callvpB J J (Q_FiresIn_1x_c e3) (.cons (.co (.refl _)) (.cons (.co (.refl _)) (.cons (.co (.refl _)) (.cons (.boxL _ _ _ .p1 (.cons (CoB.arrT .p2) .nil)) .nil)))) J J<|rM J J<|rX J J J<|rX J J J<|rA J J<|rA J J<|rN<|tS<|tSR<|rM J J<|ARun.qv (q_not J) J<|rN<|ATodo.cond J (fun hc=>?_) (fun hc=>?_)
      · refine have h := iteT hc h; tSR<|rM J J<|rM J J<|ARun.qv (n_build J J J J J) J<|n_buildSliceL (xs := ([(⟨v12.1,(345686400000 : Int)⟩ : Window)]).map Window.av) J J J J J J<|bndE h fun l14 e4 h=>t_append (g := Window.av) J J J J J J J J (.list _) e4 (fun _=>.p3) J fun b15=>rA J J<|rN<|ATodo.ret<|have h := outL h hA1; ?_
        obtain rfl := Option.some.inj h
        exact ImpX.here ⟨_,.cons (.tmp _ _ J) .nil,_,.cons .p3 .nil,⟨b15,J,J⟩⟩
      · refine have h := iteFb hc h; tK<|tSR<|rM J J<|rM J J<|rM J J<|ARun.qv (n_build J J J J J) J<|n_buildSliceL (xs := ([(⟨v12.1,v13.1⟩ : Window)]).map Window.av) J J J J J J<|bndE h fun l16 e5 h=>t_append (g := Window.av) J J J J J J J J (.list _) e5 (fun _=>.p3) J fun b17=>rA J J<|rN<|tR<|rM J J<|rA J J<|rN<|ATodo.blk<|ATodo.stop<|?_
        obtain rfl := Option.some.inj h
        exact hJ1 _ _ J<|ImpX.lq [0,0,0,0] ⟨b17,J⟩ J J

theorem Q_BegunIn_c [GI : GTab] {p0x0 : Rule} {p1x0 : List Sample} {p2x0 : Window} {r : Int} (h : Q_BegunIn p0x0 p1x0 p2x0 = some r) : Pu Tryz.prog 52 [Rule.av p0x0,lE2 p1x0,Window.av p2x0] (I r) := by
  unfold Q_BegunIn at h
  refine ACall.bodyN Tryz.func52 J Tryz.ntmps52 Tryz.results52 J J ?_
  refine tSR<|n_box J J J J fun b1=>n_box J J J J fun b2=>rA J J<|rN<|tSR<|rA J J<|rN<|tS<|tSR<|rM J J<|rF J J J<|rL J J .p1 J J<|bndE h fun v3 e1 h=>t_call1 J (Q_devicesOf_c e1) (CoL.refl _) .nil (fun _=>J) J fun b4=>ARun.qv (t_len_sl J) J<|rM J J<|rN<|ATodo.block<|ATodo.loopI (fun x : Int × Int=>Q_BegunIn_b1 p0x0 p1x0 p2x0 v3 x.1 x.2) (fun x σ'=>σ' = ⟨43,[(1,lE2 p1x0),(3,.ptr b1 0),(5,.ptr b2 0),(7,I x.1),(15,.sl 1 b4 0 v3.length),(16,I (v3.length : Int)),(17,I x.2)],[(b1,.cells (cE0 p0x0)),(b2,.cells [I p2x0.From,I p2x0.To]),(b4,aE1 v3)]⟩) h ?_ ?_
  · exact ImpX.lq [2,1,0] J J J
  · intro x z1 σ' J1 hmk h hJ1 hA1
    obtain ⟨n7, n8⟩ := x
    obtain rfl := hmk
    replace h : Q_BegunIn_b1 p0x0 p1x0 p2x0 v3 n7 n8 = some z1 := h
    unfold Q_BegunIn_b1 at h
    refine tSR<|ARun.qv (q_lss J J) J<|rN<|tS<|ATodo.cond_d J (fun hc=>?_) (fun hc=>?_)
    · refine have h := iteT hc h; tK<|tS<|ATodo.block<|tSR<|bndE h fun v9 e2 h=>ARun.qv (t_index_sl J J J e2) J<|ARun.qv (t_load_aptr (g := AV.str) J J (.inl .p2) e2 J) J<|rA J J<|rN<|tSR<|ARun.qv (q_load_ptr_all J J .p0 J) J<|rM J J<|rM J J<|bndE h fun v10 e3 h=>t_call1 J (Q_FiresIn_c e3) (CoL.refl _) .nil (fun _=>J) J fun b11=>ARun.qv (t_len_sl J) J<|rM J J<|rN<|ATodo.block<|ATodo.loopI (fun x : Int × Int=>Q_BegunIn_b2 p2x0 n8 v10 x.1 x.2) (fun x σ'=>σ' = ⟨43,[(1,lE2 p1x0),(3,.ptr b1 0),(5,.ptr b2 0),(7,I x.1),(15,.sl 1 b4 0 v3.length),(16,I (v3.length : Int)),(17,I n8),(24,.sl 2 b11 0 v10.length),(25,I (v10.length : Int)),(26,I x.2)],[(b1,.cells (cE0 p0x0)),(b2,.cells [I p2x0.From,I p2x0.To]),(b4,aE1 v3),(b11,aE8 v10)]⟩) h ?_ ?_
      · exact ImpX.lq [1,1,1,0] J J J
      · intro x z2 σ' J2 hmk h hJ2 hA2
        obtain ⟨n14, n15⟩ := x
        obtain rfl := hmk
        replace h : Q_BegunIn_b2 p2x0 n8 v10 n14 n15 = some z2 := h
        unfold Q_BegunIn_b2 at h
        refine tSR<|ARun.qv (q_lss J J) J<|rN<|tS<|ATodo.cond_d J (fun hc=>?_) (fun hc=>?_)
        · refine have h := iteT hc h; tK<|tS<|ATodo.block<|tSR<|bndE h fun v16 e4 h=>ARun.qv (t_index_sl J J J e4) J<|ARun.qv (t_load_aptr_agg (g := Window.av) J J (.inl .p3) J e4 J) J<|n_alloc J J J J fun b17=>n_store_ptr J J J J .p0 J J<|rN<|tSR<|rF J J J<|rL J J .p0 J J<|rF J J J<|rL J J .p2 J J<|rF J J J<|rL J J .p2 J J<|ARun.qv (q_subw J J) J<|r_callp J (Q_in_c J) (CoL.refl _) J<|rN<|ATodo.cut (fun σ'=>∃ (n18 : Int),Q_BegunIn_j1 n15 n18 = some z2 ∧ σ' = ⟨43,[(1,lE2 p1x0),(3,.ptr b1 0),(5,.ptr b2 0),(7,I n18),(15,.sl 1 b4 0 v3.length),(16,I (v3.length : Int)),(17,I n8),(24,.sl 2 b11 0 v10.length),(25,I (v10.length : Int)),(26,I n15)],[(b1,.cells (cE0 p0x0)),(b2,.cells [I p2x0.From,I p2x0.To]),(b4,aE1 v3),(b11,aE8 v10)]⟩) ?_ ?_
          · refine ATodo.cond J (fun hc=>?_) (fun hc=>?_)
            · exact have h := iteT hc h; tR<|rM J J<|ARun.qv (q_addw J J) J<|rA J J<|rN<|ATodo.stop<|ImpX.lq [1,1,1,1] ⟨w64 (n14 + (1 : Int)),h,J⟩ J J
            · exact have h := iteFb hc h; tK<|ATodo.stop<|ImpX.lq [1,1,1,1] ⟨n14,h,J⟩ J J
          · rintro σ' ⟨n18, h, rfl⟩
            unfold Q_BegunIn_j1 at h
            refine ATodo.blk<|tR<|ARun.qv (q_addw J J) J<|rM J J<|rN<|ATodo.stop<|?_
            obtain rfl := Option.some.inj h
            exact hJ2 _ _ J<|ImpX.lq [0,0,0,0] J J J
        · refine have h := iteF hc h; ATodo.exit J<|have h := outL h hA2; ATodo.blk<|tR<|ARun.qv (q_addw J J) J<|rM J J<|rN<|ATodo.stop<|?_
          obtain rfl := Option.some.inj h
          exact hJ1 _ _ J<|ImpX.lq [0,0,0] J J J
    · refine have h := iteF hc h; ATodo.exit J<|have h := outL h hA1; tSR<|rM J J<|rA J J<|rN<|ATodo.ret<|?_
      obtain rfl := Option.some.inj h
      exact ImpX.here ⟨_,.cons (.tmp _ _ J) .nil,J⟩

theorem Q_TuneOf_c {p0x0 : Rule} {p1x0 : List Sample} {p2x0 : Window} {p3x0 : Int} {r : Int × Bool} (h : Q_TuneOf p0x0 p1x0 p2x0 p3x0 = some r) : Pu Tryz.prog 33 [Rule.av p0x0,lE2 p1x0,Window.av p2x0,I p3x0] (.tup [I r.1,.bool r.2]) := by
  unfold Q_TuneOf at h
  refine ACall.bodyN Tryz.func33 J Tryz.ntmps33 Tryz.results33 J J ?_
  refine tSR<|n_box J J J J fun b1=>n_box J J J J fun b2=>rA J J<|rA J J<|rN<|tS<|tSR<|rM J J<|rN<|ATodo.block<|ATodo.loopI (fun x : Int=>Q_TuneOf_b1 p0x0 p1x0 p2x0 p3x0 x) (fun x σ'=>σ' = ⟨52,[(1,lE2 p1x0),(3,I p3x0),(4,.ptr b1 0),(6,.ptr b2 0),(12,I x)],[(b1,.cells (cE0 p0x0)),(b2,.cells [I p2x0.From,I p2x0.To])]⟩) h ?_ ?_
  · exact ImpX.lq [1,0] J J J
  · intro n4 z1 σ' J1 hmk h hJ1 hA1
    obtain rfl := hmk
    replace h : Q_TuneOf_b1 p0x0 p1x0 p2x0 p3x0 n4 = some z1 := h
    unfold Q_TuneOf_b1 at h
    refine tSR<|ARun.qv (q_lss J J) J<|rN<|tS<|ATodo.cond_d J (fun hc=>?_) (fun hc=>?_)
    · refine have h := iteT hc h; tK<|tS<|ATodo.block<|tSR<|rM J J<|rA J J<|rN<|tSR<|ARun.qv (q_load_ptr_all J J .p0 J) J<|n_alloc J J J J fun b5=>n_store_ptr J J J J .p0 J J<|rN<|tS<|tSR<|rF J J J<|rL J J .p1 J J<|ARun.qv (q_not J) J<|rN<|ATodo.cut (fun σ'=>∃ (n6 : Int) (n7 : Int),Q_TuneOf_j1 p0x0 p1x0 p2x0 p3x0 n4 n6 n7 = some z1 ∧ σ' = ⟨52,[(1,lE2 p1x0),(3,I p3x0),(4,.ptr b1 0),(6,.ptr b2 0),(11,.ptr b5 0),(12,I n4)],[(b1,.cells (cE0 p0x0)),(b2,.cells [I p2x0.From,I p2x0.To]),(b5,.cells [.str p0x0.Key,.str p0x0.Metric,I p0x0.Agg,I p0x0.Long,.bool p0x0.Above,I n6,I n7,I p0x0.Hold,I p0x0.Rest,I p0x0.Empty])]⟩) ?_ ?_
      · refine ATodo.cond J (fun hc=>?_) (fun hc=>?_)
        · refine have h := iteT hc h; ATodo.regionT (id := 6) (A := [0,1,0,7,0,16,0,112,15,271,1023,2047]) (H0 := [(b5,.cells (cE0 p0x0))]) (HH := fun β=>[(b5,.cells [.str p0x0.Key,.str p0x0.Metric,I p0x0.Agg,I p0x0.Long,.bool p0x0.Above,I (w64 (p0x0.On - n4)),I p0x0.Off,I p0x0.Hold,I p0x0.Rest,I p0x0.Empty]),(b1,.cells (cE0 p0x0)),(b2,.cells [I p2x0.From,I p2x0.To])]) 10 mixed J (by kernel_rfl) (by kernel_rfl) [⟨none,some 9,[],fun _=>(b5,.cells (cE0 p0x0)),none,[]⟩,⟨some 9,none,[],fun _=>(b5,.cells [.str p0x0.Key,.str p0x0.Metric,I p0x0.Agg,I p0x0.Long,.bool p0x0.Above,I (w64 (p0x0.On - n4)),I p0x0.Off,I p0x0.Hold,I p0x0.Rest,I p0x0.Empty]),none,[]⟩] [] J (by kernel_rfl) J (.cons .p0 .nil) (fun _=>J)<|AT.am 9 J J<|AM.qv (n_field_ptr J J) J<|AM.qv (q_load_ptr J J .p0 J) J<|AM.qv (q_move J) J<|AM.qv (q_subw J J) J<|AM.qv (n_field_ptr J J) J<|AM.qv (q_load_ptr J J .p0 J) J<|AM.qv (q_move J) J<|AM.qv (q_subw J J) J<|AM.qv (n_field_ptr J J) J<|AM.nil<|AT.run0 (Ti := [(b5,.cells (cE0 p0x0))]) (Pi := [(b5,.cells [.str p0x0.Key,.str p0x0.Metric,I p0x0.Agg,I p0x0.Long,.bool p0x0.Above,I (w64 (p0x0.On - n4)),I p0x0.Off,I p0x0.Hold,I p0x0.Rest,I p0x0.Empty])]) (fun _=>J) (fun _=>J) (fun _=>J) J J ?_ ?_
          · exact n_store_ptr J J J J .p0 J J<|ARun.nil ⟨_,J⟩
          exact AT.nilN (fun _=>J) fun β=>rF J J J<|n_store_ptr J J J J .p0 J J<|rN<|ATodo.stop<|ImpX.lq [1,1,0] ⟨w64 (p0x0.On - n4),w64 (p0x0.Off - n4),h,J⟩ J J
        · refine have h := iteFb hc h; ATodo.regionT (id := 7) (A := [0,1,0,7,0,16,0,112,15,271,1023,2047]) (H0 := [(b5,.cells (cE0 p0x0))]) (HH := fun β=>[(b5,.cells [.str p0x0.Key,.str p0x0.Metric,I p0x0.Agg,I p0x0.Long,.bool p0x0.Above,I (w64 (p0x0.On + n4)),I p0x0.Off,I p0x0.Hold,I p0x0.Rest,I p0x0.Empty]),(b1,.cells (cE0 p0x0)),(b2,.cells [I p2x0.From,I p2x0.To])]) 10 mixed J (by kernel_rfl) (by kernel_rfl) [⟨none,some 9,[],fun _=>(b5,.cells (cE0 p0x0)),none,[]⟩,⟨some 9,none,[],fun _=>(b5,.cells [.str p0x0.Key,.str p0x0.Metric,I p0x0.Agg,I p0x0.Long,.bool p0x0.Above,I (w64 (p0x0.On + n4)),I p0x0.Off,I p0x0.Hold,I p0x0.Rest,I p0x0.Empty]),none,[]⟩] [] J (by kernel_rfl) J (.cons .p0 .nil) (fun _=>J)<|AT.am 9 J J<|AM.qv (n_field_ptr J J) J<|AM.qv (q_load_ptr J J .p0 J) J<|AM.qv (q_move J) J<|AM.qv (q_addw J J) J<|AM.qv (n_field_ptr J J) J<|AM.qv (q_load_ptr J J .p0 J) J<|AM.qv (q_move J) J<|AM.qv (q_addw J J) J<|AM.qv (n_field_ptr J J) J<|AM.nil<|AT.run0 (Ti := [(b5,.cells (cE0 p0x0))]) (Pi := [(b5,.cells [.str p0x0.Key,.str p0x0.Metric,I p0x0.Agg,I p0x0.Long,.bool p0x0.Above,I (w64 (p0x0.On + n4)),I p0x0.Off,I p0x0.Hold,I p0x0.Rest,I p0x0.Empty])]) (fun _=>J) (fun _=>J) (fun _=>J) J J ?_ ?_
          · exact n_store_ptr J J J J .p0 J J<|ARun.nil ⟨_,J⟩
          exact AT.nilN (fun _=>J) fun β=>rF J J J<|n_store_ptr J J J J .p0 J J<|rN<|ATodo.stop<|ImpX.lq [1,1,0] ⟨w64 (p0x0.On + n4),w64 (p0x0.Off + n4),h,J⟩ J J
      · rintro σ' ⟨n6, n7, h, rfl⟩
        unfold Q_TuneOf_j1 at h
        refine tS<|tSR<|ARun.qv (q_load_ptr_all J J .p2 J) J<|n_buildSliceL (xs := ([(⟨p0x0.Key,p0x0.Metric,p0x0.Agg,p0x0.Long,p0x0.Above,n6,n7,p0x0.Hold,p0x0.Rest,p0x0.Empty⟩ : Rule)]).map Rule.av) J J J J J J<|bndE h fun v8 e1 h=>r_callp J (Q_RulesFault_c e1) (CoL.refl _) J<|ARun.qv (q_neq J J) J<|rN<|ATodo.cond_d J (fun hc=>?_) (fun hc=>?_)
        · refine have h := iteT hc h; tSR<|rA J J<|rA J J<|rN<|ATodo.ret<|have h := outL h hA1; ?_
          obtain rfl := Option.some.inj h
          exact ImpX.here ⟨_,.cons (.tmp _ _ J) (.cons (.tmp _ _ J) .nil),J⟩
        · refine have h := iteF hc h; tK<|tSR<|ARun.qv (q_load_ptr_all J J .p2 J) J<|rM J J<|ARun.qv (q_load_ptr_all J J .p1 J) J<|bndE h fun v9 e2 h=>r_callp J (Q_BegunIn_c e2) (CoL.refl _) J<|rM J J<|ARun.qv (q_leq J J) J<|rN<|ATodo.cond_d J (fun hc=>?_) (fun hc=>?_)
          · refine have h := iteT hc h; tSR<|rF J J J<|rL J J .p2 J J<|rA J J<|rA J J<|rN<|ATodo.ret<|have h := outL h hA1; ?_
            obtain rfl := Option.some.inj h
            exact ImpX.here ⟨_,.cons (.tmp _ _ J) (.cons (.tmp _ _ J) .nil),J⟩
          · refine have h := iteF hc h; tK<|ATodo.blk<|tR<|ARun.qv (q_addw J J) J<|rM J J<|rN<|ATodo.stop<|?_
            obtain rfl := Option.some.inj h
            exact hJ1 _ _ J<|ImpX.lq [0,0] J J J
    · refine have h := iteF hc h; ATodo.exit J<|have h := outL h hA1; tSR<|rA J J<|rA J J<|rN<|ATodo.ret<|?_
      obtain rfl := Option.some.inj h
      exact ImpX.here ⟨_,.cons (.tmp _ _ J) (.cons (.tmp _ _ J) .nil),J⟩

theorem rule_fault_c [GI : GTab] {p0x0 : List Rule} {p1x0 : List Sample} {p2x0 : Window} {r : Int} (h : rule_fault p0x0 p1x0 p2x0 = some r) : Pu Tryz.prog 72 [lE3 p0x0,lE2 p1x0,Window.av p2x0] (I r) := by
  unfold rule_fault at h
  refine ACall.bodyN Tryz.func72 J Tryz.ntmps72 Tryz.results72 J J ?_
  refine tSR<|n_box J J J J fun b1=>rA J J<|rN<|tSR<|rM J J<|bndE h fun v2 e1 h=>r_callp J (rule_CheckRules_c e1) (CoL.refl _) J<|rM J J<|bndE h fun v3 e2 h=>r_callp J (rule_CheckSamples_c e2) (CoL.refl _) J<|n_buildSliceL (xs := ([v2,v3] : List Int).map I) J J J J J J<|bndE h fun v4 e3 h=>r_callp J (base_First_c e3) (CoL.refl _) J<|rA J J<|rN<|tS<|tS<|ATodo.cut (fun σ'=>∃ (c5 : Bool),rule_fault_j1 v4 c5 = some r ∧ σ' = ⟨22,[(7,I v4),(20,.bool c5)],[]⟩) ?_ ?_
  · refine tR<|rM J J<|ARun.qv (q_eql J J) J<|rM J J<|ARun.guard_dt J J J (fun hc=>?_) (fun hc=>?_)
    · rw [andTd hc] at h
      exact ARun.qv (q_load_ptr_all J J .p0 J) J<|rY J J J<|r_callp J (base_Window_c J) (CoL.refl _) J<|rY J J J<|ARun.qv (q_not J) J<|rT J J J<|rN<|ATodo.stop<|ImpX.lq [] ⟨!(base_Window p2x0),h,J⟩ J J
    · rw [andFd hc] at h
      exact rG J J J J<|rG J J J J<|rE J J J<|rN<|ATodo.stop<|ImpX.lq [] ⟨false,h,J⟩ J J
  · rintro σ' ⟨c5, h, rfl⟩
    unfold rule_fault_j1 at h
    refine ATodo.cut (fun σ'=>∃ (n6 : Int),rule_fault_j2 n6 = some r ∧ σ' = ⟨22,[(7,I n6)],[]⟩) ?_ ?_
    · refine ATodo.cond J (fun hc=>?_) (fun hc=>?_)
      · exact have h := iteT hc h; tR<|rA J J<|rN<|ATodo.stop<|ImpX.lq [] ⟨(1 : Int),h,J⟩ J J
      · exact have h := iteFb hc h; tK<|ATodo.stop<|ImpX.lq [] ⟨v4,h,J⟩ J J
    · rintro σ' ⟨n6, h, rfl⟩
      unfold rule_fault_j2 at h
      refine tSR<|rM J J<|rA J J<|rN<|ATodo.ret<|?_
      obtain rfl := Option.some.inj h
      exact ImpX.here ⟨_,.cons (.tmp _ _ J) .nil,J⟩

theorem rule_cut_c [GI : GTab] {p0x0 : List Spell} {p1x0 : Window} {r : (List Spell)} (h : rule_cut p0x0 p1x0 = some r) : ACall Tryz.prog 73 [lE6 p0x0,Window.av p1x0] [] (T1 (fun d_0=>[(d_0,aE6 r)]) (fun d_0=>.sl 4 d_0 0 r.length)) := by
  unfold rule_cut at h
  refine ACall.lessH ?_
  refine ACall.bodyN Tryz.func73 J Tryz.ntmps73 Tryz.results73 J J ?_
  refine tSR<|n_box J J J J fun b1=>rA J J<|rN<|tSR<|rA J J<|rN<|tS<|tSR<|rM J J<|ARun.qv (t_len J) J<|rM J J<|rN<|ATodo.block<|ATodo.loopI (fun x : (List Spell) × Int=>rule_cut_b1 p0x0 p1x0 x.1 x.2) (fun x σ'=>∃ (b5 : Bk),σ' = ⟨37,[(3,.ptr b1 0),(5,.sl 4 b5 0 x.1.length),(8,lE6 p0x0),(9,I (p0x0.length : Int)),(10,I x.2)],[(b1,.cells [I p1x0.From,I p1x0.To]),(b5,aE6 x.1)]⟩) h ?_ ?_
  · exact ImpX.arr (s := 5) 4 J fun b8=>ImpX.lq [1,0] ⟨b8,J⟩ J J
  · intro x z1 σ' J1 hmk h hJ1 hA1
    obtain ⟨l6, n7⟩ := x
    obtain ⟨b5, rfl⟩ := hmk
    replace h : rule_cut_b1 p0x0 p1x0 l6 n7 = some z1 := h
    unfold rule_cut_b1 at h
    refine tSR<|ARun.qv (q_lss J J) J<|rN<|tS<|ATodo.cond_d J (fun hc=>?_) (fun hc=>?_)
    · refine have h := iteT hc h; tK<|tS<|ATodo.block<|tSR<|bndE h fun v9 e1 h=>ARun.qv (t_index J J J e1 J J) J<|ARun.qv (q_load_rptr_agg J J J) J<|n_alloc J J J J fun b10=>n_store_ptr J J J J .p0 J J<|rN<|tS<|ATodo.regionT (id := 5) (A := [0,1,0,4,15,0,32,0,128,480,127,1151,4095,8191]) (H0 := [(b10,.cells [.str v9.Device,.str v9.Rule,I v9.From,I v9.To])]) (HH := fun β=>[(b10,.cells [.str v9.Device,.str v9.Rule,I (max v9.From p1x0.From),I v9.To]),(b1,.cells [I p1x0.From,I p1x0.To]),(b5,aE6 l6)]) 12 mixed J (by kernel_rfl) (by kernel_rfl) [⟨none,some 11,[1,6],fun _=>(b10,.cells [.str v9.Device,.str v9.Rule,I v9.From,I v9.To]),none,[]⟩,⟨some 11,none,[],fun _=>(b10,.cells [.str v9.Device,.str v9.Rule,I (max v9.From p1x0.From),I v9.To]),none,[]⟩] [] J (by kernel_rfl) J (.cons .p0 .nil) (fun _=>J)<|AT.am 1 J J<|AM.qv (n_field_ptr J J) J<|AM.nil<|AT.rd (Rs := [(b10,.cells [.str v9.Device,.str v9.Rule,I v9.From,I v9.To])]) (fun _=>J) J (fun _=>J) (fun _=>J) (q_load_ptr J J .p0 J) J<|AT.am 4 J J<|AM.qv (n_field_ptr J J) J<|AM.qv (q_load_ptr J J .p0 J) J<|AM.qv (q_max J J) J<|AM.qv (n_field_ptr J J) J<|AM.nil<|AT.rd (Rs := [(b10,.cells [.str v9.Device,.str v9.Rule,I v9.From,I v9.To])]) (fun _=>J) J (fun _=>J) (fun _=>J) (q_load_ptr J J .p0 J) J<|AT.am 4 J J<|AM.qv (n_field_ptr J J) J<|AM.qv (q_load_ptr J J .p0 J) J<|AM.qv (q_min J J) J<|AM.qv (n_field_ptr J J) J<|AM.nil<|AT.run0 (Ti := [(b10,.cells [.str v9.Device,.str v9.Rule,I v9.From,I v9.To])]) (Pi := [(b10,.cells [.str v9.Device,.str v9.Rule,I (max v9.From p1x0.From),I v9.To])]) (fun _=>J) (fun _=>J) (fun _=>J) J J ?_ ?_
      · exact n_store_ptr J J J J .p0 J J<|ARun.nil ⟨_,J⟩
      refine AT.nilN (fun _=>J) fun β=>rF J J J<|n_store_ptr J J J J .p0 J J<|rN<|tSR<|rF J J J<|rL J J .p0 J J<|rF J J J<|rL J J .p0 J J<|ARun.qv (q_lss J J) J<|rN<|ATodo.cut (fun σ'=>∃ (b11 : Bk) (l12 : List Spell),rule_cut_j1 n7 l12 = some z1 ∧ σ' = ⟨37,[(3,.ptr b1 0),(5,.sl 4 b11 0 l12.length),(8,lE6 p0x0),(9,I (p0x0.length : Int)),(10,I n7)],[(b1,.cells [I p1x0.From,I p1x0.To]),(b11,aE6 l12)]⟩) ?_ ?_
      · refine ATodo.cond_d J (fun hc=>?_) (fun hc=>?_)
        · exact have h := iteT hc h; tR<|rM J J<|ARun.qv (q_load_ptr_all J J .p0 J) J<|n_buildSliceL (xs := ([(⟨v9.Device,v9.Rule,max v9.From p1x0.From,min v9.To p1x0.To⟩ : Spell)]).map Spell.av) J J J J J J<|bndE h fun l13 e2 h=>t_append (g := Spell.av) J J J J J J J J (.list _) e2 (fun _=>.p2) J fun b14=>rA J J<|rN<|ATodo.stop<|ImpX.lq [1,1] ⟨b14,l13,h,J⟩ J J
        · exact have h := iteF hc h; tK<|ATodo.stop<|ImpX.lq [1,1] ⟨b5,l6,h,J⟩ J J
      · rintro σ' ⟨b11, l12, h, rfl⟩
        unfold rule_cut_j1 at h
        refine ATodo.blk<|tR<|ARun.qv (q_addw J J) J<|rM J J<|rN<|ATodo.stop<|?_
        obtain rfl := Option.some.inj h
        exact hJ1 _ _ J<|ImpX.lq [0,0] ⟨b11,J⟩ J J
    · refine have h := iteF hc h; ATodo.exit J<|have h := outL h hA1; tSR<|rM J J<|rA J J<|rN<|ATodo.ret<|?_
      obtain rfl := Option.some.inj h
      exact ImpX.here ⟨_,.cons (.tmp _ _ J) .nil,_,.cons .p1 .nil,⟨b5,J,J⟩⟩

theorem rule_byFrom_c [GI : GTab] {p0x0 : Spell} {p1x0 : Spell} {r : Int} (h : rule_byFrom p0x0 p1x0 = some r) : Pu Tryz.prog 76 [Spell.av p0x0,Spell.av p1x0] (I r) := by
  unfold rule_byFrom at h
  refine ACall.bodyN Tryz.func76 J Tryz.ntmps76 Tryz.results76 J J ?_
  refine tSR<|n_box J J J J fun b1=>n_box J J J J fun b2=>rA J J<|rN<|tS<|ATodo.regionM (id := 1) (A := [0,1,0,4,15,0,32,0,128,511,0,1024,0,4096,16383,32767,65535,131071]) 18 mixed J (by kernel_rfl) (by kernel_rfl)<|AM.qv (n_field_ptr J J) J<|AM.qv (q_load_ptr J J .p1 J) J<|AM.qv (n_field_ptr J J) J<|AM.qv (q_load_ptr J J .p0 J) J<|AM.callp J (cmp_Compare_int_c J) (CoL.refl _) J<|AM.qv (n_field_ptr J J) J<|AM.qv (q_load_ptr J J .p1 J) J<|AM.qv (n_field_ptr J J) J<|AM.qv (q_load_ptr J J .p0 J) J<|AM.callp J (strings_Compare_c J) (CoL.refl _) J<|AM.qv (n_field_ptr J J) J<|AM.qv (q_load_ptr J J .p1 J) J<|AM.qv (n_field_ptr J J) J<|AM.qv (q_load_ptr J J .p0 J) J<|AM.callp J (strings_Compare_c J) (CoL.refl _) J<|AM.buildSliceL (xs := ([(cmp_Compare_int p0x0.From p1x0.From),(Lib.compareBytes p0x0.Device p1x0.Device),(Lib.compareBytes p0x0.Rule p1x0.Rule)] : List Int).map I) J J J J J J<|bndE h fun v3 e1 h=>AM.callp J (cmp_Or_int_c e1) (CoL.refl _) J<|AM.qv (q_assign J) J<|AM.nil<|rN<|ATodo.ret<|?_
  obtain rfl := Option.some.inj h
  exact ImpX.here ⟨_,.cons (.tmp _ _ J) .nil,J⟩

theorem slices_SortFunc_Spell_Spell_k : SortK Tryz.prog 75 4 := ⟨fun enc hk h1 cf hO g cb blk off cap d w eg hc hH hb hs=>AnyQ.slices_SortFunc_eq Tryz.sortF75 4 Tryz.isAgg58 Tryz.sizeOf58 enc hk h1 cf hO g cb blk off cap d w eg hc hH hb hs,fun p cap fv w=>AnyF.slices_SortFunc_none Tryz.sortF75 p cap fv w⟩
theorem slices_SortFunc_Spell_Spell_c [GI : GTab] {b_0 : Bk} {p0x0 : List Spell} {fnb : Spell → Spell → Option Int} {fnb_F : FuncId} [IsFn Tryz.prog fnb_F] {fnb_C : List AV} (fnb_h : ∀ {y0 y1 : _} {u : Int},fnb y0 y1 = some u → @Pu strongT Tryz.prog fnb_F (Spell.av y0 :: Spell.av y1 :: fnb_C) (I u)) {r : (List Spell)} (h : slices_SortFunc_Spell_Spell p0x0 fnb = some r) : ACall Tryz.prog 75 [.sl 4 b_0 0 p0x0.length,.func (.func fnb_F) fnb_C] [(b_0,.arr 4 (p0x0.map Spell.av))] (T0 [(b_0,.arr 4 (r.map Spell.av))] (.tup [])) :=
  sort_acall (fn := fnb) slices_SortFunc_Spell_Spell_k J @fnb_h (fun _=>J) h

theorem rule_Spells_c [GI : GTab] {p0x0 : List Rule} {p1x0 : List Sample} {p2x0 : Window} {r : (List Spell) × Int} (h : rule_Spells p0x0 p1x0 p2x0 = some r) : ACall Tryz.prog 16 [lE3 p0x0,lE2 p1x0,Window.av p2x0] [] (T1 (fun d_0=>[(d_0,aE6 r.1)]) (fun d_0=>.tup [.sl 4 d_0 0 r.1.length,I r.2])) := by
  unfold rule_Spells at h
  refine ACall.lessH ?_
  refine ACall.bodyN Tryz.func16 J Tryz.ntmps16 Tryz.results16 J J ?_
  refine tSR<|n_box J J J J fun b1=>rA J J<|rA J J<|rN<|tS<|tSR<|rM J J<|rM J J<|ARun.qv (q_load_ptr_all J J .p0 J) J<|bndE h fun v2 e1 h=>r_callp J (rule_fault_c e1) (CoL.refl _) J<|rA J J<|rN<|tSR<|rM J J<|ARun.qv (q_neq J J) J<|rN<|ATodo.cond_d J (fun hc=>?_) (fun hc=>?_)
  · refine have h := iteT hc h; tSR<|rM J J<|rA J J<|rA J J<|rN<|ATodo.ret<|?_
    obtain rfl := Option.some.inj h
    exact ImpX.arr (s := 6) 4 J fun b3=>ImpX.here ⟨_,.cons (.tmp _ _ J) (.cons (.tmp _ _ J) .nil),_,.cons .p0 .nil,⟨b3,J,J⟩⟩
  · refine have h := iteF hc h; tK<|tSR<|rA J J<|rN<|tS<|tSR<|rM J J<|ARun.qv (t_len J) J<|rM J J<|rN<|ATodo.block<|ATodo.loopI (fun x : (List Spell) × Int=>rule_Spells_b1 p0x0 p1x0 p2x0 x.1 x.2) (fun x σ'=>∃ (b7 : Bk),σ' = ⟨36,[(0,lE3 p0x0),(1,lE2 p1x0),(5,.ptr b1 0),(9,.sl 4 b7 0 x.1.length),(19,I (p0x0.length : Int)),(20,I x.2)],[(b1,.cells [I p2x0.From,I p2x0.To]),(b7,aE6 x.1)]⟩) h ?_ ?_
    · exact ImpX.arr (s := 9) 4 J fun b10=>ImpX.lq [1,0] ⟨b10,J⟩ J J
    · intro x z1 σ' J1 hmk h hJ1 hA1
      obtain ⟨l8, n9⟩ := x
      obtain ⟨b7, rfl⟩ := hmk
      replace h : rule_Spells_b1 p0x0 p1x0 p2x0 l8 n9 = some z1 := h
      unfold rule_Spells_b1 at h
      refine tSR<|ARun.qv (q_lss J J) J<|rN<|tS<|ATodo.cond_d J (fun hc=>?_) (fun hc=>?_)
      · refine have h := iteT hc h; tK<|tS<|ATodo.block<|tSR<|rM J J<|rA J J<|rN<|bndE h fun v11 e2 h=>bndE h fun v12 e3 h=>bndE h fun v14 e4 h=>ATodo.regionT (id := 8) (A := [0,0,0,6,0,30,0,126,255,511]) (H0 := []) (HH := fun β=>[((β 7),aE6 v14),(b1,.cells [I p2x0.From,I p2x0.To]),(b7,aE6 l8)]) 8 mixed J (by kernel_rfl) (by kernel_rfl) [⟨some 5,some 7,[],fun b=>(b,aE6 v12),none,[]⟩,⟨some 7,none,[],fun b=>(b,aE6 v14),none,[]⟩] [5,7] J (by kernel_rfl) J .nil (fun _=>J)<|AT.am 5 J J<|AM.qv (q_move J) J<|AM.qv (q_move J) J<|AM.qv (q_move J) J<|AM.qv (t_index J J J e2 J J) J<|AM.qv (q_move J) J<|AM.nil<|AT.runD (V := fun b=>.sl 4 b 0 v12.length) (Ti := []) (Pi := fun b=>[(b,aE6 v12)]) (fun _=>J) (fun _=>J) (fun _ _=>J) J (fun _=>J) J J J ?_ ?_
        · exact t_call1 J (rule_whole_c e3) (CoL.refl _) .nil (fun _=>J) J fun b13=>ARun.nil ⟨b13,_,J,J⟩
        refine AT.am 1 J J<|AM.qv (q_load_ptr_all J J .p0 J) J<|AM.nil<|AT.runE (V := fun b=>.sl 4 b 0 v14.length) (Ti := fun β=>[((β 5),aE6 v12)]) (Pi := fun b=>[(b,aE6 v14)]) (fun _=>J) (fun _=>J) (fun _ _=>J) (fun _=>J) (fun _=>J) J J J (fun β=>?_) ?_
        · generalize β 5 = b13
          exact t_callL1 J (rule_cut_c e4) .nil (.cons (CoB.arrT .p0) (.cons (.co (.refl _)) .nil)) (fun _=>J) (fun _=>J) (fun _=>(.cons (NoS.arrT (fun _=>J)) .nil)) J fun b15=>ARun.ghost<|ImpX.drop .p1<|ImpX.here<|ARun.nil ⟨b15,_,J,J⟩
        refine AT.nilN (fun _=>J) fun β=>?_
        generalize β 5 = b13
        generalize β 7 = b15
        clear β
        refine bndE h fun l16 e5 h=>t_append (g := Spell.av) J J J J J J J J (bound_src (.inl .p0) J) e5 (fun _=>.p2) J fun b17=>rA J J<|rN<|ATodo.blk<|tR<|ARun.qv (q_addw J J) J<|rM J J<|rN<|ATodo.stop<|?_
        obtain rfl := Option.some.inj h
        exact hJ1 _ _ J<|ImpX.lq [1,1] ⟨b17,J⟩ J J
      · refine have h := iteF hc h; ATodo.exit J<|have h := outL h hA1; ?_
        unfold rule_Spells_k1 at h
        refine tSR<|rM J J<|bndE h fun v18 e6 h=>t_call0 J (slices_SortFunc_Spell_Spell_c (fun e=>rule_byFrom_c (GI := strongT) e) (lenOk_f e6)) (CoL.refl _) (.cons .p1 .nil) J J<|ARun.ghost<|ImpX.eqs (s := 9) (av' := .sl 4 b7 0 v18.length) J (congrArg (AV.sl 4 b7 0) (lenOk_l e6))<|ImpX.here<|ARun.ghost<|ImpX.eqs (s := 33) (av' := .sl 4 b7 0 v18.length) J (congrArg (AV.sl 4 b7 0) (lenOk_l e6))<|ImpX.here<|rN<|tSR<|rM J J<|rA J J<|rA J J<|rN<|ATodo.ret<|?_
        obtain rfl := Option.some.inj h
        exact ImpX.here ⟨_,.cons (.tmp _ _ J) (.cons (.tmp _ _ J) .nil),_,.cons .p0 .nil,⟨b7,J,J⟩⟩

theorem slices_Equal_Spell_Spell_c [GI : GTab] {p0x0 : List Spell} {p1x0 : List Spell} {r : Bool} (h : slices_Equal_Spell_Spell p0x0 p1x0 = some r) : Pu Tryz.prog 27 [lE6 p0x0,lE6 p1x0] (.bool r) := by
  unfold slices_Equal_Spell_Spell at h
  refine ACall.bodyN Tryz.func27 J Tryz.ntmps27 Tryz.results27 J J ?_
  refine tSR<|rA J J<|rN<|tS<|tSR<|rM J J<|ARun.qv (t_len J) J<|rM J J<|ARun.qv (t_len J) J<|ARun.qv (q_neq J J) J<|rN<|ATodo.cond_d J (fun hc=>?_) (fun hc=>?_)
  · refine have h := iteT hc h; tSR<|rA J J<|rN<|ATodo.ret<|?_
    obtain rfl := Option.some.inj h
    exact ImpX.here ⟨_,.cons (.tmp _ _ J) .nil,J⟩
  · refine have h := iteF hc h; tK<|tS<|tSR<|rM J J<|ARun.qv (t_len J) J<|rM J J<|rN<|ATodo.block<|ATodo.loopI (fun x : Int=>slices_Equal_Spell_Spell_b1 p0x0 p1x0 x) (fun x σ'=>σ' = ⟨26,[(0,lE6 p0x0),(1,lE6 p1x0),(12,I (p0x0.length : Int)),(13,I x)],[]⟩) h ?_ ?_
    · exact ImpX.lq [] J J J
    · intro n2 z1 σ' J1 hmk h hJ1 hA1
      obtain rfl := hmk
      replace h : slices_Equal_Spell_Spell_b1 p0x0 p1x0 n2 = some z1 := h
      unfold slices_Equal_Spell_Spell_b1 at h
      refine tSR<|ARun.qv (q_lss J J) J<|rN<|tS<|ATodo.cond_d J (fun hc=>?_) (fun hc=>?_)
      · refine have h := iteT hc h; tK<|tS<|ATodo.block<|tSR<|rM J J<|rA J J<|rN<|tS<|ATodo.regionM (id := 6) (A := [0,0,3,7,0,0,48,112,255]) 9 mixed J (by kernel_rfl) (by kernel_rfl)<|AM.qv (q_move J) J<|AM.qv (q_move J) J<|bndE h fun v3 e1 h=>AM.qv (t_index J J J e1 J J) J<|AM.qv (q_load_rptr_agg J J J) J<|AM.qv (q_move J) J<|AM.qv (q_move J) J<|bndE h fun v4 e2 h=>AM.qv (t_index J J J e2 J J) J<|AM.qv (q_load_rptr_agg J J J) J<|AM.qv (t_tne (g := Spell.av) (X := v3) (Y := v4) J J J J J) J<|AM.nil<|rN<|ATodo.cond_d J (fun hc=>?_) (fun hc=>?_)
        · refine have h := iteT hc h; tSR<|rA J J<|rN<|ATodo.ret<|have h := outL h hA1; ?_
          obtain rfl := Option.some.inj h
          exact ImpX.here ⟨_,.cons (.tmp _ _ J) .nil,J⟩
        · refine have h := iteF hc h; tK<|ATodo.blk<|tR<|ARun.qv (q_addw J J) J<|rM J J<|rN<|ATodo.stop<|?_
          obtain rfl := Option.some.inj h
          exact hJ1 _ _ J<|ImpX.lq [] J J J
      · refine have h := iteF hc h; ATodo.exit J<|have h := outL h hA1; tSR<|rA J J<|rN<|ATodo.ret<|?_
        obtain rfl := Option.some.inj h
        exact ImpX.here ⟨_,.cons (.tmp _ _ J) .nil,J⟩

theorem L_ruled_c [GI : GTab] {r : Bool} (h : L_ruled = some r) : Pu Tryz.prog 26 [] (.bool r) := by
  unfold L_ruled at h
  refine ACall.bodyN Tryz.func26 J Tryz.ntmps26 Tryz.results26 J J ?_
  refine tSR<|rA J J<|rN<|tSR<|ARun.qv (n_build J J J J J) J<|n_alloc J J J J fun b1=>n_store_ptr J J J J .p0 J J<|rN<|tSR<|ARun.qv (q_load_ptr_all J J .p0 J) J<|n_buildSliceL (xs := ([(⟨([114] : Str),([116] : Str),(1 : Int),(10 : Int),true,(1 : Int),(1 : Int),(0 : Int),(0 : Int),(0 : Int)⟩ : Rule)]).map Rule.av) J J J J J J<|ARun.qv (n_build J J J J J) J<|n_buildSliceL (xs := ([(⟨([100] : Str),([116] : Str),(0 : Int),(1 : Int)⟩ : Sample)]).map Sample.av) J J J J J J<|ARun.qv (n_build J J J J J) J<|bndE h fun v2 e1 h=>t_call1 J (rule_Spells_c e1) (CoL.refl _) .nil (fun _=>J) J fun b3=>rM J J<|rX J J J<|rX J J J<|rA J J<|rA J J<|rN<|tS<|ATodo.cut (fun σ'=>∃ (c4 : Bool),L_ruled_j1 c4 = some r ∧ σ' = ⟨22,[(0,.bool c4)],[]⟩) ?_ ?_
  · refine tR<|rM J J<|ARun.qv (q_eql J J) J<|rM J J<|ARun.guard_dt J J J (fun hc=>?_) (fun hc=>?_)
    · exact have h := iteT hc h; rM J J<|rY J J J<|ARun.qv (n_build J J J J J) J<|rY J J J<|n_buildSliceL (xs := ([(⟨([100] : Str),([114] : Str),(0 : Int),(5 : Int)⟩ : Spell)]).map Spell.av) J J J J J J<|rY J J J<|bndE h fun v5 e2 h=>r_callpB J (slices_Equal_Spell_Spell_c e2) (.cons (CoB.arrT .p0) (.cons (.co (.refl _)) .nil)) J J<|rT J J J<|rA J J<|rN<|ATodo.stop<|ImpX.lq [] ⟨v5,h,J⟩ J J
    · exact have h := iteF hc h; rG J J J J<|rG J J J J<|rG J J J J<|rE J J J<|rA J J<|rN<|ATodo.stop<|ImpX.lq [] ⟨false,h,J⟩ J J
  · rintro σ' ⟨c4, h, rfl⟩
    unfold L_ruled_j1 at h
    refine ATodo.ret<|?_
    obtain rfl := Option.some.inj h
    exact ImpX.here ⟨_,.cons (.tmp _ _ J) .nil,J⟩

theorem L_RulesTuned_c {p0x0 : List Int} {r : Bool} (h : L_RulesTuned p0x0 = some r) : Pu Tryz.prog 4 [lE0 p0x0] (.bool r) := by
  unfold L_RulesTuned at h
  refine ACall.bodyN Tryz.func4 J Tryz.ntmps4 Tryz.results4 J J ?_
  refine tSR<|rA J J<|rN<|tSR<|rM J J<|ARun.qv (n_build J J J J J) J<|n_box J J J J fun b1=>rA J J<|rN<|tSR<|rM J J<|bndE h fun v2 e1 h=>t_call0 J (L_oneRule_c e1) (CoL.refl _) (.cons .p0 .nil) J J<|rM J J<|rM J J<|bndE h fun v3 e2 h=>t_call0 J (Stream_Range_c e2) (CoL.refl _) (.cons .p0 .nil) J J<|bndE h fun v4 e3 h=>t_call1 J (Stream_Readings_c e3) (CoL.refl _) (.cons .p0 .nil) (fun _=>J) J fun b5=>rM J J<|bndE h fun v6 e4 h=>t_call0 J (Stream_Span_c e4) (CoL.refl _) (.cons .p0 .nil) J J<|rM J J<|n_buildSliceL (xs := ([(0 : Int),(0 : Int),(1 : Int),(2 : Int),(-1 : Int),(5001 : Int)]).map I) J J J J J J<|bndE h fun v7 e5 h=>t_call0 J (Stream_Pick_c e5) (CoL.refl _) (.cons .p0 .nil) J J<|n_alloc J J J J fun b8=>n_alloc J J J J fun b9=>n_store_ptr J J J J .p1 J J<|rA J J<|n_store_ptr J J J J .p0 J J<|rA J J<|rN<|tSR<|ARun.qv (q_load_ptr_all J J .p1 J) J<|rM J J<|ARun.qv (q_load_ptr_all J J .p0 J) J<|rM J J<|bndE h fun v10 e6 h=>r_callpB J (rule_Tune_c e6) (.cons (.co (.refl _)) (.cons (CoB.arrT .p3) (.cons (.co (.refl _)) (.cons (.co (.refl _)) .nil)))) J J<|rM J J<|rX J J J<|rX J J J<|rA J J<|rA J J<|rN<|tSR<|ARun.qv (q_load_ptr_all J J .p1 J) J<|rM J J<|bndE h fun v11 e7 h=>r_callpB J (rule_Idle_c e7) (.cons (.co (.refl _)) (.cons (CoB.arrT .p3) .nil)) J J<|rM J J<|rX J J J<|rX J J J<|rA J J<|rA J J<|rN<|tSR<|ARun.qv (q_load_ptr_all J J .p1 J) J<|n_buildSliceL (xs := ([v2.1] : List Rule).map Rule.av) J J J J J J<|bndE h fun v12 e8 h=>r_callp J (Q_RulesFault_c e8) (CoL.refl _) J<|rM J J<|bndE h fun v13 e9 h=>r_callpB J (Q_SamplesFault_c e9) (.cons (CoB.arrT .p3) .nil) J J<|n_buildSliceL (xs := ([v12,v13] : List Int).map I) J J J J J J<|bndE h fun v14 e10 h=>r_callp J (cmp_Or_Errno_c e10) (CoL.refl _) J<|rA J J<|rN<|tSR<|rA J J<|rN<|tS<|tSR<|rM J J<|ARun.qv (t_len_sl J) J<|rM J J<|rN<|ATodo.block<|ATodo.loopI (fun x : Int × Int=>L_RulesTuned_b1 v2 v4 v6 v7 v10 v11 v14 x.1 x.2) (fun x σ'=>σ' = ⟨119,[(4,.ptr b8 0),(5,.sl 4 b5 0 v4.1.length),(6,.ptr b9 0),(7,I v7.1),(8,I v10.1),(9,I v10.2),(10,I v11.1),(11,I v11.2),(12,I v14),(13,I x.1),(53,.sl 4 b5 0 v4.1.length),(54,I (v4.1.length : Int)),(55,I x.2)],[(b8,.cells (cE0 v2.1)),(b5,aE2 v4.1),(b9,.cells [I v6.1.From,I v6.1.To])]⟩) h ?_ ?_
  · exact ImpX.lq [1,2,0] J J J
  · intro x z1 σ' J1 hmk h hJ1 hA1
    obtain ⟨n17, n18⟩ := x
    obtain rfl := hmk
    replace h : L_RulesTuned_b1 v2 v4 v6 v7 v10 v11 v14 n17 n18 = some z1 := h
    unfold L_RulesTuned_b1 at h
    refine tSR<|ARun.qv (q_lss J J) J<|rN<|tS<|ATodo.cond_d J (fun hc=>?_) (fun hc=>?_)
    · refine have h := iteT hc h; tK<|tS<|ATodo.block<|tSR<|bndE h fun v19 e11 h=>ARun.qv (t_index_sl J J J e11) J<|ARun.qv (t_load_aptr_agg (g := Sample.av) J J (.inl .p1) J e11 J) J<|n_alloc J J J J fun b20=>n_store_ptr J J J J .p0 J J<|rN<|tSR<|rF J J J<|rL J J .p0 J J<|rF J J J<|rL J J .p1 J J<|ARun.qv (q_sne J J) J<|rN<|ATodo.cut (fun σ'=>∃ (n21 : Int),L_RulesTuned_j1 n18 n21 = some z1 ∧ σ' = ⟨119,[(4,.ptr b8 0),(5,.sl 4 b5 0 v4.1.length),(6,.ptr b9 0),(7,I v7.1),(8,I v10.1),(9,I v10.2),(10,I v11.1),(11,I v11.2),(12,I v14),(13,I n21),(53,.sl 4 b5 0 v4.1.length),(54,I (v4.1.length : Int)),(55,I n18)],[(b8,.cells (cE0 v2.1)),(b5,aE2 v4.1),(b9,.cells [I v6.1.From,I v6.1.To])]⟩) ?_ ?_
      · refine ATodo.cond_d J (fun hc=>?_) (fun hc=>?_)
        · exact have h := iteT hc h; tR<|rM J J<|ARun.qv (q_addw J J) J<|rA J J<|rN<|ATodo.stop<|ImpX.lq [1,1,1] ⟨w64 (n17 + (1 : Int)),h,J⟩ J J
        · exact have h := iteF hc h; tK<|ATodo.stop<|ImpX.lq [1,1,1] ⟨n17,h,J⟩ J J
      · rintro σ' ⟨n21, h, rfl⟩
        unfold L_RulesTuned_j1 at h
        refine ATodo.blk<|tR<|ARun.qv (q_addw J J) J<|rM J J<|rN<|ATodo.stop<|?_
        obtain rfl := Option.some.inj h
        exact hJ1 _ _ J<|ImpX.lq [0,0,0] J J J
    · refine have h := iteF hc h; ATodo.exit J<|have h := outL h hA1; tS<|tS<|ATodo.cut (fun σ'=>∃ (c22 : Bool),L_RulesTuned_j2 v2 v4 v6 v7 v10 v14 c22 = some r ∧ σ' = ⟨119,[(4,.ptr b8 0),(5,.sl 4 b5 0 v4.1.length),(6,.ptr b9 0),(7,I v7.1),(8,I v10.1),(9,I v10.2),(12,I v14),(78,.bool c22)],[(b8,.cells (cE0 v2.1)),(b5,aE2 v4.1),(b9,.cells [I v6.1.From,I v6.1.To])]⟩) ?_ ?_
      · refine tR<|rM J J<|rM J J<|ARun.qv (q_neq J J) J<|rM J J<|ARun.guard_df J J J (fun hc=>?_) (fun hc=>?_)
        · rw [orFd hc] at h
          refine rM J J<|rY J J J<|ARun.qv (q_eql J J) J<|rY J J J<|rM J J<|ARun.guard_dt J J J (fun hc=>?_) (fun hc=>?_)
          · rw [andTd hc] at h
            exact rM J J<|rY J J J<|rM J J<|rY J J J<|ARun.qv (q_neq J J) J<|rY J J J<|rT J J J<|rE J J J<|rN<|ATodo.stop<|ImpX.lq [0,0,0] ⟨decide (v11.1 ≠ n17),h,J⟩ J J
          · rw [andFd hc] at h
            exact rG J J J J<|rG J J J J<|rY J J J<|rE J J J<|rE J J J<|rN<|ATodo.stop<|ImpX.lq [0,0,0] ⟨false,h,J⟩ J J
        · rw [orTd hc] at h
          exact rG J J J J<|rG J J J J<|ARun.guard_und J J J<|ARun.guard_und J J J<|ARun.guard_und J J J<|rG J J J J<|rT J J J<|rN<|ATodo.stop<|ImpX.lq [0,0,0] ⟨true,h,J⟩ J J
      · rintro σ' ⟨c22, h, rfl⟩
        unfold L_RulesTuned_j2 at h
        refine ATodo.cond J (fun hc=>?_) (fun hc=>?_)
        · refine have h := iteT hc h; tSR<|rA J J<|rN<|ATodo.ret<|?_
          obtain rfl := Option.some.inj h
          exact ImpX.here ⟨_,.cons (.tmp _ _ J) .nil,J⟩
        · refine have h := iteFb hc h; tK<|tS<|ATodo.cut (fun σ'=>∃ (n23 : Int),L_RulesTuned_j3 v2 v4 v6 v7 v10 n23 = some r ∧ σ' = ⟨119,[(4,.ptr b8 0),(5,.sl 4 b5 0 v4.1.length),(6,.ptr b9 0),(7,I v7.1),(8,I v10.1),(9,I v10.2),(12,I n23)],[(b8,.cells (cE0 v2.1)),(b5,aE2 v4.1),(b9,.cells [I v6.1.From,I v6.1.To])]⟩) ?_ ?_
          · refine ATodo.regionM (id := 15) (A := [0,0,2,6,14,0,62,0,128,510,1022,2046,4094,8190,16383,32767,65535]) 17 mixed J (by kernel_rfl) (by kernel_rfl)<|AM.qv (q_move J) J<|AM.qv (q_move J) J<|AM.qv (t_len_sl J) J<|AM.qv (q_gtr J J) J<|AM.callp J (L_when_c J) (CoL.refl _) J<|AM.qv (q_load_ptr_all J J .p2 J) J<|AM.callp J (Q_WindowFault_c J) (CoL.refl _) J<|AM.qv (q_move J) J<|AM.qv (q_lss J J) J<|AM.qv (q_move J) J<|AM.guard_df J J J (fun hc=>?_) (fun hc=>?_)
            · exact have h := iteF hc h; AM.qv (q_move J) J<|AM.guard_yes J J J<|AM.qv (q_gtr J J) J<|AM.qv (q_pick_f J J) J<|AM.callp J (L_when_c J) (CoL.refl _) J<|AM.buildSliceL (xs := ([v14,(L_when (decide ((300 : Int) < (v4.1.length : Int))) (2 : Int)),(Q_WindowFault v6.1),(L_when (decide ((5000 : Int) < v7.1)) (1 : Int))]).map I) J J J J J J<|bndE h fun v24 e12 h=>AM.callp J (cmp_Or_Errno_c e12) (CoL.refl _) J<|AM.qv (q_assign J) J<|AM.nil<|rN<|ATodo.stop<|ImpX.lq [0,0,0] ⟨v24,h,J⟩ J J
            · exact have h := iteT hc h; AM.guard_no J J J J<|AM.qv (q_pick_t J J) J<|AM.callp J (L_when_c J) (CoL.refl _) J<|AM.buildSliceL (xs := ([v14,(L_when (decide ((300 : Int) < (v4.1.length : Int))) (2 : Int)),(Q_WindowFault v6.1),(L_when true (1 : Int))]).map I) J J J J J J<|bndE h fun v25 e13 h=>AM.callp J (cmp_Or_Errno_c e13) (CoL.refl _) J<|AM.qv (q_assign J) J<|AM.nil<|rN<|ATodo.stop<|ImpX.lq [0,0,0] ⟨v25,h,J⟩ J J
          · rintro σ' ⟨n23, h, rfl⟩
            unfold L_RulesTuned_j3 at h
            refine tSR<|rA J J<|rN<|tS<|tSR<|rM J J<|ARun.qv (q_eql J J) J<|rN<|ATodo.cut (fun σ'=>∃ (n26 : Int) (n27 : Int),L_RulesTuned_j4 v10 n26 n27 = some r ∧ σ' = ⟨119,[(8,I v10.1),(9,I v10.2),(12,I n26),(16,I n27)],[]⟩) ?_ ?_
            · refine ATodo.cond_d J (fun hc=>?_) (fun hc=>?_)
              · exact have h := iteT hc h; tSR<|rA J J<|rN<|tSR<|ARun.qv (q_load_ptr_all J J .p0 J) J<|rM J J<|ARun.qv (q_load_ptr_all J J .p2 J) J<|rM J J<|bndE h fun v28 e14 h=>r_callpB J (Q_TuneOf_c e14) (.cons (.co (.refl _)) (.cons (CoB.arrT .p1) (.cons (.co (.refl _)) (.cons (.co (.refl _)) .nil)))) J J<|rM J J<|rX J J J<|rX J J J<|rA J J<|rA J J<|rN<|tR<|rM J J<|ARun.qv (q_not J) J<|r_callp J (L_when_c J) (CoL.refl _) J<|rA J J<|rN<|ATodo.stop<|ImpX.lq [] ⟨(L_when (!v28.2) (8 : Int)),v28.1,h,J⟩ J J
              · exact have h := iteF hc h; tK<|ATodo.stop<|ImpX.lq [] ⟨n23,(0 : Int),h,J⟩ J J
            · rintro σ' ⟨n26, n27, h, rfl⟩
              unfold L_RulesTuned_j4 at h
              refine tS<|ATodo.cut (fun σ'=>∃ (c29 : Bool),L_RulesTuned_j5 c29 = some r ∧ σ' = ⟨119,[(2,.bool c29)],[]⟩) ?_ ?_
              · refine tR<|rM J J<|rM J J<|ARun.qv (q_eql J J) J<|rM J J<|ARun.guard_dt J J J (fun hc=>?_) (fun hc=>?_)
                · refine have h := iteT hc h; rM J J<|rY J J J<|rM J J<|rY J J J<|ARun.qv (q_eql J J) J<|rT J J J<|rM J J<|ARun.guard_dt J J J (fun hc=>?_) (fun hc=>?_)
                  · exact have h := iteT hc h; bndE h fun v30 e15 h=>r_callp J (L_ruled_c e15) (CoL.refl _) J<|rT J J J<|rA J J<|rN<|ATodo.stop<|ImpX.lq [] ⟨v30,h,J⟩ J J
                  · exact have h := iteF hc h; rE J J J<|rA J J<|rN<|ATodo.stop<|ImpX.lq [] ⟨false,h,J⟩ J J
                · exact have h := iteF hc h; rG J J J J<|rG J J J J<|rE J J J<|rM J J<|rG J J J J<|rE J J J<|rA J J<|rN<|ATodo.stop<|ImpX.lq [] ⟨false,h,J⟩ J J
              · rintro σ' ⟨c29, h, rfl⟩
                unfold L_RulesTuned_j5 at h
                refine ATodo.ret<|?_
                obtain rfl := Option.some.inj h
                exact ImpX.here ⟨_,.cons (.tmp _ _ J) .nil,J⟩

end Go.Proofs.YtppnalkmokajgaaGreatDoor

