/- The code computes the plain functions: proofs written by shal.py. -/
import Derived.Test.YtpibecbdhjbanaaGreatDoorWbeW1
set_option maxHeartbeats 4000000
set_option maxRecDepth 100000
set_option linter.unusedVariables false
set_option linter.unusedSimpArgs false
namespace Go.Proofs.YtpibecbdhjbanaaGreatDoor
open Go Go.Eng Go.Proofs Go.Beacon
attribute [local irreducible] ARun ATodo AQ QV ACall ImpX AWp AM
theorem campaign_state_begin_c [GI : GTab] {b_0 : Bk} {b_0x1 : Bk} {b_0x2 : Bk} {b_0x3 : Bk} {b_0x4 : Bk} {b_0x5 : Bk} {b_0x6 : Bk} {p0x0 : Campaign_state} {p1x0 : Int} {r : Campaign_state} (h : campaign_state_begin p0x0 p1x0 = some r) : ACall Tryz.prog 94 [.ptr b_0 0,I p1x0] [(b_0,.cells [.rptr [.str p0x0.c_.Key,I p0x0.c_.Target.Major,I p0x0.c_.Target.Minor,I p0x0.c_.Target.Patch,I p0x0.c_.At,lE2 p0x0.c_.Waves,I p0x0.c_.Hours.From,I p0x0.c_.Hours.To,I p0x0.c_.Room],.mref b_0x1,.mref b_0x2,.sl 1 b_0x3 0 p0x0.open_.length,.sl 1 b_0x4 0 p0x0.ends_.length,.sl 1 b_0x5 0 p0x0.fails_.length,.sl 1 b_0x6 0 p0x0.begins_.length,I p0x0.stopped_,I p0x0.next_]),(b_0x3,aE0 p0x0.open_),(b_0x4,aE0 p0x0.ends_),(b_0x5,aE0 p0x0.fails_),(b_0x6,aE0 p0x0.begins_)] (T4 (fun c_0x3 c_0x4 c_0x5 c_0x6=>[(b_0,.cells [.rptr [.str p0x0.c_.Key,I p0x0.c_.Target.Major,I p0x0.c_.Target.Minor,I p0x0.c_.Target.Patch,I p0x0.c_.At,lE2 p0x0.c_.Waves,I p0x0.c_.Hours.From,I p0x0.c_.Hours.To,I p0x0.c_.Room],.mref b_0x1,.mref b_0x2,.sl 1 c_0x3 0 r.open_.length,.sl 1 c_0x4 0 r.ends_.length,.sl 1 c_0x5 0 r.fails_.length,.sl 1 c_0x6 0 r.begins_.length,I r.stopped_,I r.next_]),(c_0x3,aE0 r.open_),(c_0x4,aE0 r.ends_),(c_0x5,aE0 r.fails_),(c_0x6,aE0 r.begins_)]) (fun c_0x3 c_0x4 c_0x5 c_0x6=>.tup [])) := by
  unfold campaign_state_begin at h
  refine ACall.lessH ?_
  refine ACall.bodyN Tryz.func94 J Tryz.ntmps94 Tryz.results94 J J ?_
  refine ATodo.block<|ATodo.loopI (fun x : (List Int) × Int=>campaign_state_begin_b1 p0x0 p1x0 x.1 x.2) (fun x σ'=>∃ (b4 : Bk),σ' = ⟨161,[(0,.ptr b_0 0),(1,I p1x0)],[(b_0,.cells [.rptr [.str p0x0.c_.Key,I p0x0.c_.Target.Major,I p0x0.c_.Target.Minor,I p0x0.c_.Target.Patch,I p0x0.c_.At,lE2 p0x0.c_.Waves,I p0x0.c_.Hours.From,I p0x0.c_.Hours.To,I p0x0.c_.Room],.mref b_0x1,.mref b_0x2,.sl 1 b_0x3 0 p0x0.open_.length,.sl 1 b_0x4 0 p0x0.ends_.length,.sl 1 b_0x5 0 p0x0.fails_.length,.sl 1 b4 0 x.1.length,I p0x0.stopped_,I x.2]),(b_0x3,aE0 p0x0.open_),(b_0x4,aE0 p0x0.ends_),(b_0x5,aE0 p0x0.fails_),(b4,aE0 x.1)]⟩) h ?_ ?_
  · exact ImpX.lq [0,0,0,0,0] ⟨b_0x6,J⟩ J J
  · intro x z1 σ' J1 hmk h hJ1 hA1
    obtain ⟨l5, n6⟩ := x
    obtain ⟨b4, rfl⟩ := hmk
    replace h : campaign_state_begin_b1 p0x0 p1x0 l5 n6 = some z1 := h
    unfold campaign_state_begin_b1 at h
    refine ATodo.block<|tSR<|rM J J<|ARun.qv (q_nilCheck_ptr J) J<|rF J J J<|rL J J .p0 J J<|ARun.qv (t_len_sl J) J<|rA J J<|rN<|tS<|tS<|ATodo.cut (fun σ'=>∃ (c7 : Bool),campaign_state_begin_j1 p0x0 p1x0 l5 n6 c7 = some z1 ∧ σ' = ⟨161,[(0,.ptr b_0 0),(1,I p1x0),(4,I (l5.length : Int)),(54,.bool c7)],[(b_0,.cells [.rptr [.str p0x0.c_.Key,I p0x0.c_.Target.Major,I p0x0.c_.Target.Minor,I p0x0.c_.Target.Patch,I p0x0.c_.At,lE2 p0x0.c_.Waves,I p0x0.c_.Hours.From,I p0x0.c_.Hours.To,I p0x0.c_.Room],.mref b_0x1,.mref b_0x2,.sl 1 b_0x3 0 p0x0.open_.length,.sl 1 b_0x4 0 p0x0.ends_.length,.sl 1 b_0x5 0 p0x0.fails_.length,.sl 1 b4 0 l5.length,I p0x0.stopped_,I n6]),(b_0x3,aE0 p0x0.open_),(b_0x4,aE0 p0x0.ends_),(b_0x5,aE0 p0x0.fails_),(b4,aE0 l5)]⟩) ?_ ?_
    · refine tR<|rM J J<|ARun.qv (q_nilCheck_ptr J) J<|rF J J J<|rL J J .p0 J J<|ARun.qv (q_lss J J) J<|rM J J<|ARun.guard_dt J J J (fun hc=>?_) (fun hc=>?_)
      · refine have h := iteT hc h; rM J J<|rY J J J<|ARun.qv (q_gtr J J) J<|rT J J J<|rM J J<|ARun.guard_dt J J J (fun hc=>?_) (fun hc=>?_)
        · refine have h := iteT hc h; rM J J<|rY J J J<|rM J J<|rY J J J<|ARun.qv (q_nilCheck_ptr J) J<|rY J J J<|rF J J J<|rY J J J<|rL J J .p0 J J<|rY J J J<|ARun.qv (q_nilCheck_rptr J) J<|rY J J J<|ARun.qv (n_field_rptr J J) J<|rY J J J<|ARun.qv (q_load_rptr J J J) J<|rY J J J<|ARun.qv (t_len J) J<|rY J J J<|ARun.qv (q_lss J J) J<|rT J J J<|rM J J<|ARun.guard_dt J J J (fun hc=>?_) (fun hc=>?_)
          · refine have h := iteT hc h; rM J J<|rY J J J<|ARun.qv (q_nilCheck_ptr J) J<|rY J J J<|rF J J J<|rY J J J<|rL J J .p0 J J<|rY J J J<|rM J J<|rY J J J<|ARun.qv (q_subw J J) J<|rY J J J<|bndE h fun v8 e1 h=>ARun.qv (t_index_sl J J J e1) J<|rY J J J<|ARun.qv (t_load_aptr (g := I) J J (.inl .p1) e1 J) J<|rY J J J<|ARun.qv (q_eql J J) J<|rT J J J<|rM J J<|ARun.guard_dt J J J (fun hc=>?_) (fun hc=>?_)
            · exact have h := iteT hc h; rM J J<|rY J J J<|rM J J<|rY J J J<|ARun.qv (q_nilCheck_ptr J) J<|rY J J J<|rF J J J<|rY J J J<|rL J J .p0 J J<|rY J J J<|rM J J<|rY J J J<|ARun.qv (q_subw J J) J<|rY J J J<|bndE h fun v9 e2 h=>ARun.qv (t_index_sl J J J e2) J<|rY J J J<|ARun.qv (t_load_aptr (g := I) J J (.inl .p4) e2 J) J<|rY J J J<|ARun.qv (q_geq J J) J<|rT J J J<|rN<|ATodo.stop<|ImpX.lq [0,0,0,0,0] ⟨decide (v9 ≤ p1x0),h,J⟩ J J
            · exact have h := iteF hc h; rG J J J J<|rG J J J J<|rG J J J J<|rG J J J J<|rG J J J J<|rG J J J J<|rG J J J J<|rG J J J J<|rG J J J J<|rE J J J<|rN<|ATodo.stop<|ImpX.lq [0,0,0,0,0] ⟨false,h,J⟩ J J
          · exact have h := iteF hc h; rG J J J J<|rG J J J J<|rG J J J J<|rG J J J J<|rG J J J J<|rG J J J J<|rG J J J J<|rG J J J J<|rE J J J<|rM J J<|rG J J J J<|rG J J J J<|rG J J J J<|rG J J J J<|rG J J J J<|rG J J J J<|rG J J J J<|rG J J J J<|rG J J J J<|rG J J J J<|rE J J J<|rN<|ATodo.stop<|ImpX.lq [0,0,0,0,0] ⟨false,h,J⟩ J J
        · exact have h := iteF hc h; rG J J J J<|rG J J J J<|rG J J J J<|rG J J J J<|rG J J J J<|rG J J J J<|rG J J J J<|rG J J J J<|rG J J J J<|rE J J J<|rM J J<|rG J J J J<|rG J J J J<|rG J J J J<|rG J J J J<|rG J J J J<|rG J J J J<|rG J J J J<|rG J J J J<|rG J J J J<|rE J J J<|rM J J<|rG J J J J<|rG J J J J<|rG J J J J<|rG J J J J<|rG J J J J<|rG J J J J<|rG J J J J<|rG J J J J<|rG J J J J<|rG J J J J<|rE J J J<|rN<|ATodo.stop<|ImpX.lq [0,0,0,0,0] ⟨false,h,J⟩ J J
      · exact have h := iteF hc h; rG J J J J<|rE J J J<|rM J J<|rG J J J J<|rG J J J J<|rG J J J J<|rG J J J J<|rG J J J J<|rG J J J J<|rG J J J J<|rG J J J J<|rG J J J J<|rG J J J J<|rE J J J<|rM J J<|rG J J J J<|rG J J J J<|rG J J J J<|rG J J J J<|rG J J J J<|rG J J J J<|rG J J J J<|rG J J J J<|rG J J J J<|rE J J J<|rM J J<|rG J J J J<|rG J J J J<|rG J J J J<|rG J J J J<|rG J J J J<|rG J J J J<|rG J J J J<|rG J J J J<|rG J J J J<|rG J J J J<|rE J J J<|rN<|ATodo.stop<|ImpX.lq [0,0,0,0,0] ⟨false,h,J⟩ J J
    · rintro σ' ⟨c7, h, rfl⟩
      unfold campaign_state_begin_j1 at h
      refine ATodo.cut (fun σ'=>∃ (n10 : Int),campaign_state_begin_j2 p0x0 p1x0 l5 n10 = some z1 ∧ σ' = ⟨161,[(0,.ptr b_0 0),(1,I p1x0),(4,I (l5.length : Int))],[(b_0,.cells [.rptr [.str p0x0.c_.Key,I p0x0.c_.Target.Major,I p0x0.c_.Target.Minor,I p0x0.c_.Target.Patch,I p0x0.c_.At,lE2 p0x0.c_.Waves,I p0x0.c_.Hours.From,I p0x0.c_.Hours.To,I p0x0.c_.Room],.mref b_0x1,.mref b_0x2,.sl 1 b_0x3 0 p0x0.open_.length,.sl 1 b_0x4 0 p0x0.ends_.length,.sl 1 b_0x5 0 p0x0.fails_.length,.sl 1 b4 0 l5.length,I p0x0.stopped_,I n10]),(b_0x3,aE0 p0x0.open_),(b_0x4,aE0 p0x0.ends_),(b_0x5,aE0 p0x0.fails_),(b4,aE0 l5)]⟩) ?_ ?_
      · refine ATodo.cond J (fun hc=>?_) (fun hc=>?_)
        · exact have h := iteT hc h; tR<|rM J J<|rM J J<|rM J J<|ARun.qv (q_nilCheck_ptr J) J<|rF J J J<|rL J J .p0 J J<|ARun.qv (q_nilCheck_rptr J) J<|ARun.qv (n_field_rptr J J) J<|ARun.qv (q_load_rptr J J J) J<|rM J J<|bndE h fun v11 e3 h=>ARun.qv (t_index J J J e3 J J) J<|ARun.qv (n_field_rptr J J) J<|ARun.qv (q_load_rptr J J J) J<|ARun.qv (q_addw J J) J<|ARun.qv (q_nilCheck_ptr J) J<|rF J J J<|n_store_ptr J J J J .p0 J J<|rN<|ATodo.stop<|ImpX.lq [0,0,0,0,0] ⟨w64 (p1x0 + v11.Wait),h,J⟩ J J
        · exact have h := iteFb hc h; tK<|ATodo.stop<|ImpX.lq [0,0,0,0,0] ⟨n6,h,J⟩ J J
      · rintro σ' ⟨n10, h, rfl⟩
        unfold campaign_state_begin_j2 at h
        refine tS<|tS<|ATodo.cut (fun σ'=>∃ (c12 : Bool),campaign_state_begin_j3 p0x0 l5 n10 c12 = some z1 ∧ σ' = ⟨161,[(0,.ptr b_0 0),(1,I p1x0),(4,I (l5.length : Int)),(105,.bool c12)],[(b_0,.cells [.rptr [.str p0x0.c_.Key,I p0x0.c_.Target.Major,I p0x0.c_.Target.Minor,I p0x0.c_.Target.Patch,I p0x0.c_.At,lE2 p0x0.c_.Waves,I p0x0.c_.Hours.From,I p0x0.c_.Hours.To,I p0x0.c_.Room],.mref b_0x1,.mref b_0x2,.sl 1 b_0x3 0 p0x0.open_.length,.sl 1 b_0x4 0 p0x0.ends_.length,.sl 1 b_0x5 0 p0x0.fails_.length,.sl 1 b4 0 l5.length,I p0x0.stopped_,I n10]),(b_0x3,aE0 p0x0.open_),(b_0x4,aE0 p0x0.ends_),(b_0x5,aE0 p0x0.fails_),(b4,aE0 l5)]⟩) ?_ ?_
        · refine ATodo.regionM (id := 3) (A := [0,1,3,7,15,31,63,127,255,511,63,2047,4095,8191,16383,32767,65535,131071,262143,524287,1048575,2097151,4194303,8388607,16777215,33554431,67108863,134217727,16777215,285212671,822083583,1895825407,4294967295,8589934591,17179869183]) 35 mixed J (by kernel_rfl) (by kernel_rfl)<|AM.qv (q_move J) J<|AM.qv (q_nilCheck_ptr J) J<|AM.qv (n_field_ptr J J) J<|AM.qv (q_load_ptr J J .p0 J) J<|AM.qv (q_lss J J) J<|AM.qv (q_move J) J<|AM.guard_df J J J (fun hc=>?_) (fun hc=>?_)
          · rw [orFd hc] at h
            refine AM.qv (q_move J) J<|AM.guard_yes J J J<|AM.qv (q_nilCheck_ptr J) J<|AM.guard_yes J J J<|AM.qv (n_field_ptr J J) J<|AM.guard_yes J J J<|AM.qv (q_load_ptr J J .p0 J) J<|AM.guard_yes J J J<|AM.qv (q_move J) J<|AM.guard_yes J J J<|AM.qv (q_gtr J J) J<|AM.qv (q_pick_f J J) J<|AM.qv (q_move J) J<|AM.guard_df J J J (fun hc=>?_) (fun hc=>?_)
            · rw [orFd hc] at h
              refine AM.qv (q_move J) J<|AM.guard_yes J J J<|AM.qv (q_gtr J J) J<|AM.guard_yes J J J<|AM.qv (q_move J) J<|AM.guard_dt J J J (fun hc=>?_) (fun hc=>?_)
              · rw [andTd hc] at h
                refine AM.qv (q_move J) J<|AM.guard_yes J J J<|AM.qv (q_nilCheck_ptr J) J<|AM.guard_yes J J J<|AM.qv (n_field_ptr J J) J<|AM.guard_yes J J J<|AM.qv (q_load_ptr J J .p0 J) J<|AM.guard_yes J J J<|AM.qv (q_geq J J) J<|AM.guard_yes J J J<|AM.qv (q_pick_t J J) J<|AM.guard_yes J J J<|AM.qv (q_move J) J<|AM.guard_dt J J J (fun hc=>?_) (fun hc=>?_)
                · rw [andTd hc] at h
                  exact AM.qv (q_move J) J<|AM.guard_yes J J J<|AM.qv (q_nilCheck_ptr J) J<|AM.guard_yes J J J<|AM.qv (n_field_ptr J J) J<|AM.guard_yes J J J<|AM.qv (q_load_ptr J J .p0 J) J<|AM.guard_yes J J J<|AM.qv (q_move J) J<|AM.guard_yes J J J<|AM.qv (q_nilCheck_ptr J) J<|AM.guard_yes J J J<|AM.qv (n_field_ptr J J) J<|AM.guard_yes J J J<|AM.qv (q_load_ptr J J .p0 J) J<|AM.guard_yes J J J<|AM.qv (q_leq J J) J<|AM.guard_yes J J J<|AM.qv (q_pick_t J J) J<|AM.qv (q_pick_f J J) J<|AM.nil<|rN<|ATodo.stop<|ImpX.lq [0,0,0,0,0] ⟨decide (p0x0.stopped_ ≤ n10),h,J⟩ J J
                · rw [andFd hc] at h
                  exact AM.guard_no J J J J<|AM.guard_no J J J J<|AM.guard_no J J J J<|AM.guard_no J J J J<|AM.guard_no J J J J<|AM.guard_no J J J J<|AM.guard_no J J J J<|AM.guard_no J J J J<|AM.guard_yes J J J<|AM.qv (q_pick_f J J) J<|AM.qv (q_pick_f J J) J<|AM.nil<|rN<|ATodo.stop<|ImpX.lq [0,0,0,0,0] ⟨false,h,J⟩ J J
              · rw [andFd hc] at h
                exact AM.guard_no J J J J<|AM.guard_no J J J J<|AM.guard_no J J J J<|AM.guard_no J J J J<|AM.guard_yes J J J<|AM.qv (q_pick_f J J) J<|AM.guard_yes J J J<|AM.qv (q_move J) J<|AM.guard_no J J J J<|AM.guard_no J J J J<|AM.guard_no J J J J<|AM.guard_no J J J J<|AM.guard_no J J J J<|AM.guard_no J J J J<|AM.guard_no J J J J<|AM.guard_no J J J J<|AM.guard_no J J J J<|AM.guard_yes J J J<|AM.qv (q_pick_f J J) J<|AM.qv (q_pick_f J J) J<|AM.nil<|rN<|ATodo.stop<|ImpX.lq [0,0,0,0,0] ⟨false,h,J⟩ J J
            · rw [orTd hc] at h
              exact AM.guard_no J J J J<|AM.guard_no J J J J<|AM.guard_und J J J<|AM.guard_und J J J<|AM.guard_und J J J<|AM.guard_und J J J<|AM.guard_und J J J<|AM.guard_no J J J J<|AM.guard_no J J J J<|AM.guard_und J J J<|AM.guard_und J J J<|AM.guard_und J J J<|AM.guard_und J J J<|AM.guard_und J J J<|AM.guard_und J J J<|AM.guard_und J J J<|AM.guard_und J J J<|AM.guard_und J J J<|AM.guard_no J J J J<|AM.qv (q_pick_t J J) J<|AM.nil<|rN<|ATodo.stop<|ImpX.lq [0,0,0,0,0] ⟨true,h,J⟩ J J
          · rw [orTd hc] at h
            exact AM.guard_no J J J J<|AM.guard_no J J J J<|AM.guard_no J J J J<|AM.guard_no J J J J<|AM.guard_no J J J J<|AM.qv (q_pick_t J J) J<|AM.qv (q_move J) J<|AM.guard_no J J J J<|AM.guard_no J J J J<|AM.guard_no J J J J<|AM.guard_und J J J<|AM.guard_und J J J<|AM.guard_und J J J<|AM.guard_und J J J<|AM.guard_und J J J<|AM.guard_no J J J J<|AM.guard_no J J J J<|AM.guard_und J J J<|AM.guard_und J J J<|AM.guard_und J J J<|AM.guard_und J J J<|AM.guard_und J J J<|AM.guard_und J J J<|AM.guard_und J J J<|AM.guard_und J J J<|AM.guard_und J J J<|AM.guard_no J J J J<|AM.qv (q_pick_t J J) J<|AM.nil<|rN<|ATodo.stop<|ImpX.lq [0,0,0,0,0] ⟨true,h,J⟩ J J
        · rintro σ' ⟨c12, h, rfl⟩
          unfold campaign_state_begin_j3 at h
          refine ATodo.cond J (fun hc=>?_) (fun hc=>?_)
          · refine have h := iteT hc h; ATodo.ret<|have h := outL h hA1; ?_
            obtain rfl := Option.some.inj h
            exact ImpX.here ⟨_,.nil,_,.cons .p0 (.cons .p0 (.cons .p0 (.cons .p0 (.cons .p0 .nil)))),⟨b_0x3,b_0x4,b_0x5,b4,J,J⟩⟩
          · refine have h := iteFb hc h; tK<|tSR<|rM J J<|ARun.qv (q_nilCheck_ptr J) J<|rF J J J<|rL J J .p0 J J<|rA J J<|rN<|tSR<|rM J J<|rM J J<|rM J J<|ARun.qv (q_nilCheck_ptr J) J<|rF J J J<|rL J J .p0 J J<|rM J J<|n_buildSliceL (xs := ([n10] : List Int).map I) J J J J J J<|bndE h fun l13 e4 h=>t_append (g := I) J J J J J J J J (.list _) e4 (fun _=>.p4) J fun b14=>ARun.qv (q_nilCheck_ptr J) J<|rF J J J<|n_store_ptr J J J J .p0 J J<|ARun.qv (q_nilCheck_ptr J) J<|rF J J J<|n_store_ptr J J J J .p0 J J<|rN<|tS<|ATodo.cut (fun σ'=>∃ (c15 : Bool),campaign_state_begin_j4 p0x0 l5 n10 l13 c15 = some z1 ∧ σ' = ⟨161,[(0,.ptr b_0 0),(1,I p1x0),(4,I (l5.length : Int)),(5,I n10),(143,.bool c15)],[(b_0,.cells [.rptr [.str p0x0.c_.Key,I p0x0.c_.Target.Major,I p0x0.c_.Target.Minor,I p0x0.c_.Target.Patch,I p0x0.c_.At,lE2 p0x0.c_.Waves,I p0x0.c_.Hours.From,I p0x0.c_.Hours.To,I p0x0.c_.Room],.mref b_0x1,.mref b_0x2,.sl 1 b_0x3 0 p0x0.open_.length,.sl 1 b_0x4 0 p0x0.ends_.length,.sl 1 b_0x5 0 p0x0.fails_.length,.sl 1 b14 0 l13.length,I p0x0.stopped_,I (-1 : Int)]),(b_0x3,aE0 p0x0.open_),(b_0x4,aE0 p0x0.ends_),(b_0x5,aE0 p0x0.fails_),(b14,aE0 l13)]⟩) ?_ ?_
            · refine tR<|rM J J<|ARun.qv (q_addw J J) J<|rM J J<|ARun.qv (q_nilCheck_ptr J) J<|rF J J J<|rL J J .p0 J J<|ARun.qv (q_nilCheck_rptr J) J<|ARun.qv (n_field_rptr J J) J<|ARun.qv (q_load_rptr J J J) J<|ARun.qv (t_len J) J<|ARun.qv (q_lss J J) J<|rM J J<|ARun.guard_dt J J J (fun hc=>?_) (fun hc=>?_)
              · exact have h := iteT hc h; rM J J<|rY J J J<|ARun.qv (q_nilCheck_ptr J) J<|rY J J J<|rF J J J<|rY J J J<|rL J J .p0 J J<|rY J J J<|rM J J<|rY J J J<|bndE h fun v16 e5 h=>ARun.qv (t_index_sl J J J e5) J<|rY J J J<|ARun.qv (t_load_aptr (g := I) J J (.inl .p1) e5 J) J<|rY J J J<|ARun.qv (q_eql J J) J<|rT J J J<|rN<|ATodo.stop<|ImpX.lq [0,0,0,0,0] ⟨decide (v16 = (0 : Int)),h,J⟩ J J
              · exact have h := iteF hc h; rG J J J J<|rG J J J J<|rG J J J J<|rG J J J J<|rG J J J J<|rG J J J J<|rG J J J J<|rE J J J<|rN<|ATodo.stop<|ImpX.lq [0,0,0,0,0] ⟨false,h,J⟩ J J
            · rintro σ' ⟨c15, h, rfl⟩
              unfold campaign_state_begin_j4 at h
              refine ATodo.cut (fun σ'=>∃ (n17 : Int),campaign_state_begin_j5 l13 n17 = some z1 ∧ σ' = ⟨161,[(0,.ptr b_0 0),(1,I p1x0)],[(b_0,.cells [.rptr [.str p0x0.c_.Key,I p0x0.c_.Target.Major,I p0x0.c_.Target.Minor,I p0x0.c_.Target.Patch,I p0x0.c_.At,lE2 p0x0.c_.Waves,I p0x0.c_.Hours.From,I p0x0.c_.Hours.To,I p0x0.c_.Room],.mref b_0x1,.mref b_0x2,.sl 1 b_0x3 0 p0x0.open_.length,.sl 1 b_0x4 0 p0x0.ends_.length,.sl 1 b_0x5 0 p0x0.fails_.length,.sl 1 b14 0 l13.length,I p0x0.stopped_,I n17]),(b_0x3,aE0 p0x0.open_),(b_0x4,aE0 p0x0.ends_),(b_0x5,aE0 p0x0.fails_),(b14,aE0 l13)]⟩) ?_ ?_
              · refine ATodo.cond J (fun hc=>?_) (fun hc=>?_)
                · exact have h := iteT hc h; tR<|rM J J<|rM J J<|rM J J<|ARun.qv (q_nilCheck_ptr J) J<|rF J J J<|rL J J .p0 J J<|ARun.qv (q_nilCheck_rptr J) J<|ARun.qv (n_field_rptr J J) J<|ARun.qv (q_load_rptr J J J) J<|rM J J<|ARun.qv (q_addw J J) J<|bndE h fun v18 e6 h=>ARun.qv (t_index J J J e6 J J) J<|ARun.qv (n_field_rptr J J) J<|ARun.qv (q_load_rptr J J J) J<|ARun.qv (q_addw J J) J<|ARun.qv (q_nilCheck_ptr J) J<|rF J J J<|n_store_ptr J J J J .p0 J J<|rN<|ATodo.stop<|ImpX.lq [0,0,0,0,0] ⟨w64 (n10 + v18.Wait),h,J⟩ J J
                · exact have h := iteFb hc h; tK<|ATodo.stop<|ImpX.lq [0,0,0,0,0] ⟨(-1 : Int),h,J⟩ J J
              · rintro σ' ⟨n17, h, rfl⟩
                unfold campaign_state_begin_j5 at h
                refine ATodo.blk<|ATodo.stop<|?_
                obtain rfl := Option.some.inj h
                exact hJ1 _ _ J<|ImpX.lq [0,0,0,0,0] ⟨b14,J⟩ J J

theorem campaign_state_out_c [GI : GTab] {b_0x1 : Bk} {b_0x2 : Bk} {p0x0 : Campaign_state} {p1x0 : Campaign_course} {r : Bool} (h : campaign_state_out p0x0 p1x0 = r) : Pu Tryz.prog 122 [.rptr [.rptr [.str p0x0.c_.Key,I p0x0.c_.Target.Major,I p0x0.c_.Target.Minor,I p0x0.c_.Target.Patch,I p0x0.c_.At,lE2 p0x0.c_.Waves,I p0x0.c_.Hours.From,I p0x0.c_.Hours.To,I p0x0.c_.Room],.mref b_0x1,.mref b_0x2,lE0 p0x0.open_,lE0 p0x0.ends_,lE0 p0x0.fails_,lE0 p0x0.begins_,I p0x0.stopped_,I p0x0.next_],.rptr [I p1x0.Standing.Kind,I p1x0.Standing.Since,I p1x0.Standing.Version.Major,I p1x0.Standing.Version.Minor,I p1x0.Standing.Version.Patch,I p1x0.Standing.Fails,I p1x0.offered_.Major,I p1x0.offered_.Minor,I p1x0.offered_.Patch]] (.bool r) := by
  unfold campaign_state_out at h
  refine ACall.bodyN Tryz.func122 J Tryz.ntmps122 Tryz.results122 J J ?_
  refine tSR<|rA J J<|rN<|tS<|ATodo.cut (fun σ'=>∃ (c1 : Bool),campaign_state_out_j1 c1 = r ∧ σ' = ⟨25,[(4,.bool c1)],[]⟩) ?_ ?_
  · refine tR<|rM J J<|rM J J<|r_callp J (campaign_state_ready_c J) (CoL.refl _) J<|ARun.qv (q_not J) J<|rM J J<|ARun.guard J J J (fun hc=>?_) (fun hc=>?_)
    · rw [andTb hc] at h
      refine rM J J<|rY J J J<|ARun.qv (q_nilCheck_rptr J) J<|rY J J J<|ARun.qv (n_field_rptr J J) J<|rY J J J<|ARun.qv (n_field_rptr J J) J<|rY J J J<|ARun.qv (q_load_rptr J J J) J<|rY J J J<|ARun.qv (q_geq J J) J<|rY J J J<|rM J J<|ARun.guard_df J J J (fun hc=>?_) (fun hc=>?_)
      · rw [orFd hc] at h
        exact rM J J<|rY J J J<|ARun.qv (q_nilCheck_rptr J) J<|rY J J J<|ARun.qv (n_field_rptr J J) J<|rY J J J<|ARun.qv (n_field_rptr J J) J<|rY J J J<|ARun.qv (q_load_rptr J J J) J<|rY J J J<|ARun.qv (q_eql J J) J<|rY J J J<|rE J J J<|rT J J J<|rA J J<|rN<|ATodo.stop<|ImpX.lq [] ⟨decide (p1x0.Standing.Kind = (5 : Int)),h,J⟩ J J
      · rw [orTd hc] at h
        exact rG J J J J<|rG J J J J<|rG J J J J<|rG J J J J<|rG J J J J<|rY J J J<|rT J J J<|rT J J J<|rA J J<|rN<|ATodo.stop<|ImpX.lq [] ⟨true,h,J⟩ J J
    · rw [andFb hc] at h
      exact rG J J J J<|rG J J J J<|rG J J J J<|rG J J J J<|rG J J J J<|rG J J J J<|ARun.guard_und J J J<|ARun.guard_und J J J<|ARun.guard_und J J J<|ARun.guard_und J J J<|ARun.guard_und J J J<|ARun.guard_und J J J<|rG J J J J<|rE J J J<|rA J J<|rN<|ATodo.stop<|ImpX.lq [] ⟨false,h,J⟩ J J
  · rintro σ' ⟨c1, h, rfl⟩
    unfold campaign_state_out_j1 at h
    refine ATodo.ret<|?_
    obtain rfl := h
    exact ImpX.here ⟨_,.cons (.tmp _ _ J) .nil,J⟩

theorem campaign_course_follow_c [GI : GTab] {b_0 : Bk} {p0x0 : Campaign_course} {p1x0 : MarkS} {r : Bool × Campaign_course} (h : campaign_course_follow p0x0 p1x0 = r) : ACall Tryz.prog 61 [.ptr b_0 0,MarkS.av p1x0] [(b_0,.cells [I p0x0.Standing.Kind,I p0x0.Standing.Since,I p0x0.Standing.Version.Major,I p0x0.Standing.Version.Minor,I p0x0.Standing.Version.Patch,I p0x0.Standing.Fails,I p0x0.offered_.Major,I p0x0.offered_.Minor,I p0x0.offered_.Patch])] (T0 ([(b_0,.cells [I r.2.Standing.Kind,I r.2.Standing.Since,I r.2.Standing.Version.Major,I r.2.Standing.Version.Minor,I r.2.Standing.Version.Patch,I r.2.Standing.Fails,I r.2.offered_.Major,I r.2.offered_.Minor,I r.2.offered_.Patch])]) (.bool r.1)) := by
  unfold campaign_course_follow at h
  refine ACall.lessH ?_
  refine ACall.bodyN Tryz.func61 J Tryz.ntmps61 Tryz.results61 J J ?_
  refine tSR<|n_box J J J J fun b1=>rA J J<|rN<|tS<|ATodo.regionM (id := 1) (A := [0,1,0,4,12,28,63,127]) 8 mixed J (by kernel_rfl) (by kernel_rfl)<|AM.qv (n_field_ptr J J) J<|AM.qv (n_load_ptr_part J J .p0 J J) J<|AM.qv (q_move J) J<|AM.qv (q_nilCheck_ptr J) J<|AM.qv (n_field_ptr J J) J<|AM.qv (n_load_ptr_part J J .p1 J J) J<|AM.qv (t_teq (g := Version.av) (X := p1x0.Version) (Y := p0x0.offered_) J J J J J) J<|AM.qv (q_assign J) J<|AM.nil<|rN<|tSR<|rA J J<|rN<|tS<|tSR<|rF J J J<|rL J J .p0 J J<|rN<|ATodo.block<|tSR<|ARun.qv (q_eql J J) J<|rA J J<|rN<|ATodo.cut (fun σ'=>∃ (c2 : Bool),campaign_course_follow_j1 p0x0 p1x0 c2 = r ∧ σ' = ⟨101,[(0,.ptr b_0 0),(3,.ptr b1 0),(6,.bool c2)],[(b_0,.cells [I p0x0.Standing.Kind,I p0x0.Standing.Since,I p0x0.Standing.Version.Major,I p0x0.Standing.Version.Minor,I p0x0.Standing.Version.Patch,I p0x0.Standing.Fails,I p0x0.offered_.Major,I p0x0.offered_.Minor,I p0x0.offered_.Patch]),(b1,.cells (cE4 p1x0))]⟩) ?_ ?_
  · refine ATodo.cond_d J (fun hc=>?_) (fun hc=>?_)
    · refine have h := iteT hc h; ATodo.cut (fun σ'=>∃ (c3 : Bool),campaign_course_follow_j2 p0x0 p1x0 c3 = r ∧ σ' = ⟨101,[(0,.ptr b_0 0),(3,.ptr b1 0),(6,.bool c3)],[(b_0,.cells [I p0x0.Standing.Kind,I p0x0.Standing.Since,I p0x0.Standing.Version.Major,I p0x0.Standing.Version.Minor,I p0x0.Standing.Version.Patch,I p0x0.Standing.Fails,I p0x0.offered_.Major,I p0x0.offered_.Minor,I p0x0.offered_.Patch]),(b1,.cells (cE4 p1x0))]⟩) ?_ ?_
      · refine tR<|rM J J<|ARun.qv (q_nilCheck_ptr J) J<|rF J J J<|rF J J J<|rL J J .p1 J J<|ARun.qv (q_eql J J) J<|rM J J<|ARun.guard_df J J J (fun hc=>?_) (fun hc=>?_)
        · rw [orFd hc] at h
          refine rM J J<|rY J J J<|ARun.qv (q_nilCheck_ptr J) J<|rY J J J<|rF J J J<|rY J J J<|rF J J J<|rY J J J<|rL J J .p1 J J<|rY J J J<|ARun.qv (q_eql J J) J<|rE J J J<|rM J J<|ARun.guard_df J J J (fun hc=>?_) (fun hc=>?_)
          · rw [orFd hc] at h
            exact rM J J<|rY J J J<|ARun.qv (q_nilCheck_ptr J) J<|rY J J J<|rF J J J<|rY J J J<|rF J J J<|rY J J J<|rL J J .p1 J J<|rY J J J<|ARun.qv (q_eql J J) J<|rE J J J<|rA J J<|rN<|ATodo.stop<|ImpX.lq [1,0] ⟨decide (p0x0.Standing.Kind = (4 : Int)),h,J⟩ J J
          · rw [orTd hc] at h
            exact rG J J J J<|rG J J J J<|rG J J J J<|rG J J J J<|rG J J J J<|rT J J J<|rA J J<|rN<|ATodo.stop<|ImpX.lq [1,0] ⟨true,h,J⟩ J J
        · rw [orTd hc] at h
          exact rG J J J J<|rG J J J J<|rG J J J J<|rG J J J J<|rG J J J J<|rT J J J<|rM J J<|rG J J J J<|rG J J J J<|rG J J J J<|rG J J J J<|rG J J J J<|rG J J J J<|rT J J J<|rA J J<|rN<|ATodo.stop<|ImpX.lq [1,0] ⟨true,h,J⟩ J J
      · rintro σ' ⟨c3, h, rfl⟩
        unfold campaign_course_follow_j2 at h
        exact ATodo.stop<|ImpX.lq [0,0] ⟨c3,h,J⟩ J J
    · refine have h := iteF hc h; tS<|tSR<|ARun.qv (q_eql J J) J<|rA J J<|rN<|ATodo.cut (fun σ'=>∃ (c4 : Bool),campaign_course_follow_j3 p0x0 p1x0 c4 = r ∧ σ' = ⟨101,[(0,.ptr b_0 0),(3,.ptr b1 0),(5,.bool (decide (p1x0.Version = p0x0.offered_))),(49,.bool c4)],[(b_0,.cells [I p0x0.Standing.Kind,I p0x0.Standing.Since,I p0x0.Standing.Version.Major,I p0x0.Standing.Version.Minor,I p0x0.Standing.Version.Patch,I p0x0.Standing.Fails,I p0x0.offered_.Major,I p0x0.offered_.Minor,I p0x0.offered_.Patch]),(b1,.cells (cE4 p1x0))]⟩) ?_ ?_
      · refine ATodo.cond_d J (fun hc=>?_) (fun hc=>?_)
        · exact have h := iteT hc h; tK<|ATodo.stop<|ImpX.lq [1,0] ⟨decide (p1x0.Kind = (2 : Int)),h,J⟩ J J
        · exact have h := iteF hc h; tR<|ARun.qv (q_eql J J) J<|rA J J<|rN<|ATodo.stop<|ImpX.lq [1,0] ⟨decide (p1x0.Kind = (5 : Int)),h,J⟩ J J
      · rintro σ' ⟨c4, h, rfl⟩
        unfold campaign_course_follow_j3 at h
        refine ATodo.cut (fun σ'=>∃ (c5 : Bool),campaign_course_follow_j4 p0x0 p1x0 c5 = r ∧ σ' = ⟨101,[(0,.ptr b_0 0),(3,.ptr b1 0),(6,.bool c5)],[(b_0,.cells [I p0x0.Standing.Kind,I p0x0.Standing.Since,I p0x0.Standing.Version.Major,I p0x0.Standing.Version.Minor,I p0x0.Standing.Version.Patch,I p0x0.Standing.Fails,I p0x0.offered_.Major,I p0x0.offered_.Minor,I p0x0.offered_.Patch]),(b1,.cells (cE4 p1x0))]⟩) ?_ ?_
        · refine ATodo.cond J (fun hc=>?_) (fun hc=>?_)
          · refine have h := iteT hc h; ATodo.cut (fun σ'=>∃ (c6 : Bool),campaign_course_follow_j5 p0x0 p1x0 c6 = r ∧ σ' = ⟨101,[(0,.ptr b_0 0),(3,.ptr b1 0),(6,.bool c6)],[(b_0,.cells [I p0x0.Standing.Kind,I p0x0.Standing.Since,I p0x0.Standing.Version.Major,I p0x0.Standing.Version.Minor,I p0x0.Standing.Version.Patch,I p0x0.Standing.Fails,I p0x0.offered_.Major,I p0x0.offered_.Minor,I p0x0.offered_.Patch]),(b1,.cells (cE4 p1x0))]⟩) ?_ ?_
            · refine tR<|rM J J<|ARun.qv (q_nilCheck_ptr J) J<|rF J J J<|rF J J J<|rL J J .p0 J J<|ARun.qv (q_eql J J) J<|rM J J<|ARun.guard_dt J J J (fun hc=>?_) (fun hc=>?_)
              · rw [andTd hc] at h
                exact rM J J<|rT J J J<|rA J J<|rN<|ATodo.stop<|ImpX.lq [0,0] ⟨decide (p1x0.Version = p0x0.offered_),h,J⟩ J J
              · rw [andFd hc] at h
                exact rE J J J<|rA J J<|rN<|ATodo.stop<|ImpX.lq [0,0] ⟨false,h,J⟩ J J
            · rintro σ' ⟨c6, h, rfl⟩
              unfold campaign_course_follow_j5 at h
              exact ATodo.stop<|ImpX.lq [0,0] ⟨c6,h,J⟩ J J
          · refine have h := iteFb hc h; ATodo.cut (fun σ'=>∃ (c7 : Bool),campaign_course_follow_j6 p0x0 p1x0 c7 = r ∧ σ' = ⟨101,[(0,.ptr b_0 0),(3,.ptr b1 0),(6,.bool c7)],[(b_0,.cells [I p0x0.Standing.Kind,I p0x0.Standing.Since,I p0x0.Standing.Version.Major,I p0x0.Standing.Version.Minor,I p0x0.Standing.Version.Patch,I p0x0.Standing.Fails,I p0x0.offered_.Major,I p0x0.offered_.Minor,I p0x0.offered_.Patch]),(b1,.cells (cE4 p1x0))]⟩) ?_ ?_
            · refine tR<|rM J J<|ARun.qv (q_nilCheck_ptr J) J<|rF J J J<|rF J J J<|rL J J .p0 J J<|ARun.qv (q_eql J J) J<|rM J J<|ARun.guard_dt J J J (fun hc=>?_) (fun hc=>?_)
              · rw [andTd hc] at h
                exact rM J J<|rT J J J<|rA J J<|rN<|ATodo.stop<|ImpX.lq [0,0] ⟨decide (p1x0.Version = p0x0.offered_),h,J⟩ J J
              · rw [andFd hc] at h
                exact rE J J J<|rA J J<|rN<|ATodo.stop<|ImpX.lq [0,0] ⟨false,h,J⟩ J J
            · rintro σ' ⟨c7, h, rfl⟩
              unfold campaign_course_follow_j6 at h
              exact ATodo.stop<|ImpX.lq [0,0] ⟨c7,h,J⟩ J J
        · rintro σ' ⟨c5, h, rfl⟩
          unfold campaign_course_follow_j4 at h
          exact ATodo.stop<|ImpX.lq [0,0] ⟨c5,h,J⟩ J J
  · rintro σ' ⟨c2, h, rfl⟩
    unfold campaign_course_follow_j1 at h
    refine ATodo.blk<|tS<|tSR<|rM J J<|ARun.qv (q_not J) J<|rN<|ATodo.cond J (fun hc=>?_) (fun hc=>?_)
    · refine have h := iteT hc h; tSR<|rA J J<|rN<|ATodo.ret<|?_
      obtain rfl := h
      exact ImpX.here ⟨_,.cons (.tmp _ _ J) .nil,_,.cons .p0 .nil,⟨J,J⟩⟩
    · refine have h := iteFb hc h; tK<|tS<|ATodo.regionT (id := 12) (A := [0,0,0,0,8,0,32,0,128,25,537,1561,3609,7803,15995,32379,65147,131071,262143,524287]) (H0 := [(b_0,.cells [I p0x0.Standing.Kind,I p0x0.Standing.Since,I p0x0.Standing.Version.Major,I p0x0.Standing.Version.Minor,I p0x0.Standing.Version.Patch,I p0x0.Standing.Fails,I p0x0.offered_.Major,I p0x0.offered_.Minor,I p0x0.offered_.Patch])]) (HH := fun β=>[(b_0,.cells [I p1x0.Kind,I p1x0.At,I p0x0.Standing.Version.Major,I p0x0.Standing.Version.Minor,I p0x0.Standing.Version.Patch,I p0x0.Standing.Fails,I p0x0.offered_.Major,I p0x0.offered_.Minor,I p0x0.offered_.Patch]),(b1,.cells (cE4 p1x0))]) 17 mixed J (by kernel_rfl) (by kernel_rfl) [⟨none,some 12,[],fun _=>(b_0,.cells [I p0x0.Standing.Kind,I p0x0.Standing.Since,I p0x0.Standing.Version.Major,I p0x0.Standing.Version.Minor,I p0x0.Standing.Version.Patch,I p0x0.Standing.Fails,I p0x0.offered_.Major,I p0x0.offered_.Minor,I p0x0.offered_.Patch]),none,[]⟩,⟨some 12,some 16,[],fun _=>(b_0,.cells [I p1x0.Kind,I p0x0.Standing.Since,I p0x0.Standing.Version.Major,I p0x0.Standing.Version.Minor,I p0x0.Standing.Version.Patch,I p0x0.Standing.Fails,I p0x0.offered_.Major,I p0x0.offered_.Minor,I p0x0.offered_.Patch]),none,[]⟩,⟨some 16,none,[],fun _=>(b_0,.cells [I p1x0.Kind,I p1x0.At,I p0x0.Standing.Version.Major,I p0x0.Standing.Version.Minor,I p0x0.Standing.Version.Patch,I p0x0.Standing.Fails,I p0x0.offered_.Major,I p0x0.offered_.Minor,I p0x0.offered_.Patch]),none,[]⟩] [] J (by kernel_rfl) J (.cons .p0 .nil) (fun _=>J)<|AT.am 12 J J<|AM.qv (q_move J) J<|AM.qv (q_move J) J<|AM.qv (q_move J) J<|AM.qv (n_field_ptr J J) J<|AM.qv (q_load_ptr J J .p0 J) J<|AM.qv (n_field_ptr J J) J<|AM.qv (q_load_ptr J J .p0 J) J<|AM.qv (n_field_ptr J J) J<|AM.qv (n_load_ptr_part J J .p0 J J) J<|AM.qv (q_nilCheck_ptr J) J<|AM.qv (n_field_ptr J J) J<|AM.qv (n_field_ptr J J) J<|AM.nil<|AT.run0 (Ti := [(b_0,.cells [I p0x0.Standing.Kind,I p0x0.Standing.Since,I p0x0.Standing.Version.Major,I p0x0.Standing.Version.Minor,I p0x0.Standing.Version.Patch,I p0x0.Standing.Fails,I p0x0.offered_.Major,I p0x0.offered_.Minor,I p0x0.offered_.Patch])]) (Pi := [(b_0,.cells [I p1x0.Kind,I p0x0.Standing.Since,I p0x0.Standing.Version.Major,I p0x0.Standing.Version.Minor,I p0x0.Standing.Version.Patch,I p0x0.Standing.Fails,I p0x0.offered_.Major,I p0x0.offered_.Minor,I p0x0.offered_.Patch])]) (fun _=>J) (fun _=>J) (fun _=>J) J J ?_ ?_
      · exact n_store_ptr J J J J .p0 J J<|ARun.nil ⟨_,J⟩
      refine AT.am 3 J J<|AM.qv (q_nilCheck_ptr J) J<|AM.qv (n_field_ptr J J) J<|AM.qv (n_field_ptr J J) J<|AM.nil<|AT.run0 (Ti := [(b_0,.cells [I p1x0.Kind,I p0x0.Standing.Since,I p0x0.Standing.Version.Major,I p0x0.Standing.Version.Minor,I p0x0.Standing.Version.Patch,I p0x0.Standing.Fails,I p0x0.offered_.Major,I p0x0.offered_.Minor,I p0x0.offered_.Patch])]) (Pi := [(b_0,.cells [I p1x0.Kind,I p1x0.At,I p0x0.Standing.Version.Major,I p0x0.Standing.Version.Minor,I p0x0.Standing.Version.Patch,I p0x0.Standing.Fails,I p0x0.offered_.Major,I p0x0.offered_.Minor,I p0x0.offered_.Patch])]) (fun _=>J) (fun _=>J) (fun _=>J) J J ?_ ?_
      · exact n_store_ptr J J J J .p0 J J<|ARun.nil ⟨_,J⟩
      refine AT.nilN (fun _=>J) fun β=>ARun.qv (q_nilCheck_ptr J) J<|rF J J J<|n_store_ptr J J J J .p0 J J<|rN<|tS<|tSR<|rF J J J<|rL J J .p1 J J<|rN<|ATodo.block<|tSR<|ARun.qv (q_eql J J) J<|rA J J<|rN<|ATodo.cut (fun σ'=>∃ (n8 : Int) (n9 : Int) (n10 : Int) (n11 : Int),campaign_course_follow_j7 p1x0 n8 n9 n10 n11 = r ∧ σ' = ⟨101,[],[(b_0,.cells [I p1x0.Kind,I p1x0.At,I n8,I n9,I n10,I n11,I p1x0.Version.Major,I p1x0.Version.Minor,I p1x0.Version.Patch])]⟩) ?_ ?_
      · refine ATodo.cond_d J (fun hc=>?_) (fun hc=>?_)
        · exact have h := iteT hc h; tR<|rM J J<|rF J J J<|ARun.qv (n_load_ptr_part J J .p1 J J) J<|ARun.qv (q_nilCheck_ptr J) J<|rF J J J<|rF J J J<|n_store_ptr J J J J .p0 J J<|rN<|ATodo.stop<|ImpX.lq [0] ⟨p1x0.Version.Major,p1x0.Version.Minor,p1x0.Version.Patch,p0x0.Standing.Fails,h,J⟩ J J
        · refine have h := iteF hc h; tSR<|ARun.qv (q_eql J J) J<|rA J J<|rN<|ATodo.cut (fun σ'=>∃ (n12 : Int),campaign_course_follow_j8 p0x0 p1x0 n12 = r ∧ σ' = ⟨101,[],[(b_0,.cells [I p1x0.Kind,I p1x0.At,I p0x0.Standing.Version.Major,I p0x0.Standing.Version.Minor,I p0x0.Standing.Version.Patch,I n12,I p1x0.Version.Major,I p1x0.Version.Minor,I p1x0.Version.Patch])]⟩) ?_ ?_
          · refine ATodo.cond_d J (fun hc=>?_) (fun hc=>?_)
            · exact have h := iteT hc h; tR<|rM J J<|ARun.qv (q_nilCheck_ptr J) J<|rF J J J<|rF J J J<|rL J J .p0 J J<|ARun.qv (q_addw J J) J<|ARun.qv (q_nilCheck_ptr J) J<|rF J J J<|rF J J J<|n_store_ptr J J J J .p0 J J<|rN<|ATodo.stop<|ImpX.lq [0] ⟨w64 (p0x0.Standing.Fails + (1 : Int)),h,J⟩ J J
            · exact have h := iteF hc h; tK<|ATodo.stop<|ImpX.lq [0] ⟨p0x0.Standing.Fails,h,J⟩ J J
          · rintro σ' ⟨n12, h, rfl⟩
            unfold campaign_course_follow_j8 at h
            exact ATodo.stop<|ImpX.lq [0] ⟨p0x0.Standing.Version.Major,p0x0.Standing.Version.Minor,p0x0.Standing.Version.Patch,n12,h,J⟩ J J
      · rintro σ' ⟨n8, n9, n10, n11, h, rfl⟩
        unfold campaign_course_follow_j7 at h
        refine ATodo.blk<|tSR<|rA J J<|rN<|ATodo.ret<|?_
        obtain rfl := h
        exact ImpX.here ⟨_,.cons (.tmp _ _ J) .nil,_,.cons .p0 .nil,⟨J,J⟩⟩

theorem campaign_state_mark_c [GI : GTab] {b_0 : Bk} {b_0x9 : Bk} {b_0x9o : Nat → Bk} {b_0x9s : Nat → Nat → Bk} {b_0x1 : Bk} {b_0x2 : Bk} {b_0x3 : Bk} {b_0x4 : Bk} {b_0x5 : Bk} {b_0x6 : Bk} {p0x0 : Campaign_state} {p1x0 : MarkS} {r : Campaign_state} (h : campaign_state_mark p0x0 p1x0 = some r) : ACall Tryz.prog 96 [.ptr b_0 0,MarkS.av p1x0] [(b_0,.cells [.rptr [.str p0x0.c_.Key,I p0x0.c_.Target.Major,I p0x0.c_.Target.Minor,I p0x0.c_.Target.Patch,I p0x0.c_.At,lE2 p0x0.c_.Waves,I p0x0.c_.Hours.From,I p0x0.c_.Hours.To,I p0x0.c_.Room],.mref b_0x1,.mref b_0x2,.sl 1 b_0x3 0 p0x0.open_.length,.sl 1 b_0x4 0 p0x0.ends_.length,.sl 1 b_0x5 0 p0x0.fails_.length,.sl 1 b_0x6 0 p0x0.begins_.length,I p0x0.stopped_,I p0x0.next_]),(b_0x1,.mp (p0x0.of_.map (fun e=>(AV.str e.1,(pA b_0x9o) e.2)))),(b_0x2,mE6 p0x0.wave_),(b_0x3,aE0 p0x0.open_),(b_0x4,aE0 p0x0.ends_),(b_0x5,aE0 p0x0.fails_),(b_0x6,aE0 p0x0.begins_),(b_0x9,.pool (araE kE0 b_0x9o b_0x9s p0x0.ar0))] (T5 (fun c_0x3 c_0x4 c_0x5 c_0x6 c_0x9s=>[(b_0,.cells [.rptr [.str p0x0.c_.Key,I p0x0.c_.Target.Major,I p0x0.c_.Target.Minor,I p0x0.c_.Target.Patch,I p0x0.c_.At,lE2 p0x0.c_.Waves,I p0x0.c_.Hours.From,I p0x0.c_.Hours.To,I p0x0.c_.Room],.mref b_0x1,.mref b_0x2,.sl 1 c_0x3 0 r.open_.length,.sl 1 c_0x4 0 r.ends_.length,.sl 1 c_0x5 0 r.fails_.length,.sl 1 c_0x6 0 r.begins_.length,I r.stopped_,I r.next_]),(b_0x1,.mp (r.of_.map (fun e=>(AV.str e.1,(pA b_0x9o) e.2)))),(b_0x2,mE6 r.wave_),(c_0x3,aE0 r.open_),(c_0x4,aE0 r.ends_),(c_0x5,aE0 r.fails_),(c_0x6,aE0 r.begins_),(b_0x9,.pool (araE kE0 b_0x9o c_0x9s r.ar0))]) (fun c_0x3 c_0x4 c_0x5 c_0x6 c_0x9s=>.tup [])) := by
  unfold campaign_state_mark at h
  refine ACall.lessH ?_
  refine ACall.bodyN Tryz.func96 J Tryz.ntmps96 Tryz.results96 J J ?_
  refine tSR<|n_box J J J J fun b1=>rN<|tS<|ATodo.regionM (id := 1) (A := [0,1,3,7,0,16,63,127,255,255,511,2047]) 12 mixed J (by kernel_rfl) (by kernel_rfl)<|AM.qv (q_move J) J<|AM.qv (q_nilCheck_ptr J) J<|AM.qv (n_field_ptr J J) J<|AM.qv (q_load_ptr J J .p1 J) J<|AM.qv (n_field_ptr J J) J<|AM.qv (q_load_ptr J J .p0 J) J<|optE h (fun e1 h=>?_) (fun n2 e1 h=>?_)
  · refine AM.qv (t_lookupB0 (gk := AV.str) (gv := (pA b_0x9o)) (M := p0x0.of_) (key := p1x0.Device) J J .p2 J e1) J<|AM.qv (q_move J) J<|AM.qv (q_extract J J) J<|AM.qv (q_extract J J) J<|AM.qv (q_assign J) J<|AM.qv (q_assign J) J<|AM.nil<|rN<|tS<|tS<|ATodo.cut (fun σ'=>∃ (c3 : Bool),campaign_state_mark_j1 p0x0 p1x0 c3 = some r ∧ σ' = ⟨165,[(0,.ptr b_0 0),(3,.ptr b1 0),(4,.raw (.pointer none)),(33,.bool c3)],[(b_0,.cells [.rptr [.str p0x0.c_.Key,I p0x0.c_.Target.Major,I p0x0.c_.Target.Minor,I p0x0.c_.Target.Patch,I p0x0.c_.At,lE2 p0x0.c_.Waves,I p0x0.c_.Hours.From,I p0x0.c_.Hours.To,I p0x0.c_.Room],.mref b_0x1,.mref b_0x2,.sl 1 b_0x3 0 p0x0.open_.length,.sl 1 b_0x4 0 p0x0.ends_.length,.sl 1 b_0x5 0 p0x0.fails_.length,.sl 1 b_0x6 0 p0x0.begins_.length,I p0x0.stopped_,I p0x0.next_]),(b_0x1,.mp (p0x0.of_.map (fun e=>(AV.str e.1,(pA b_0x9o) e.2)))),(b_0x9,.pool (araE kE0 b_0x9o b_0x9s p0x0.ar0)),(b_0x2,mE6 p0x0.wave_),(b_0x3,aE0 p0x0.open_),(b_0x4,aE0 p0x0.ends_),(b_0x5,aE0 p0x0.fails_),(b_0x6,aE0 p0x0.begins_),(b1,.cells (cE4 p1x0))]⟩) ?_ ?_
    · refine ATodo.regionM (id := 2) (A := [0,1,3,7,15,7,39,103,231,487,999,2023,4095,8191]) 14 mixed J (by kernel_rfl) (by kernel_rfl)<|AM.qv (q_move J) J<|AM.qv (q_not J) J<|AM.qv (q_move J) J<|AM.guard J J J (fun hc=>?_) (fun hc=>?_)
      · rw [orFb hc] at h
        exact AM.qv (n_field_ptr J J) J<|AM.guard_yes J J J<|AM.qv (q_load_ptr J J .p0 J) J<|AM.guard_yes J J J<|AM.qv (q_move J) J<|AM.guard_yes J J J<|AM.qv (q_nilCheck_ptr J) J<|AM.guard_yes J J J<|AM.qv (n_field_ptr J J) J<|AM.guard_yes J J J<|AM.qv (q_load_ptr J J .p1 J) J<|AM.guard_yes J J J<|AM.qv (q_nilCheck_rptr J) J<|AM.guard_yes J J J<|AM.qv (n_field_rptr J J) J<|AM.guard_yes J J J<|AM.qv (q_load_rptr J J J) J<|AM.guard_yes J J J<|AM.qv (q_lss J J) J<|AM.qv (q_pick_f J J) J<|AM.nil<|rN<|ATodo.stop<|ImpX.lq [1,1,6,1,1,1,1,1,0] ⟨decide (p1x0.At < p0x0.c_.At),h,J⟩ J J
      · rw [orTb hc] at h
        exact AM.guard_no J J J J<|AM.guard_no J J J J<|AM.guard_no J J J J<|AM.guard_no J J J J<|AM.guard_no J J J J<|AM.guard_no J J J J<|AM.guard_no J J J J<|AM.guard_no J J J J<|AM.guard_no J J J J<|AM.qv (q_pick_t J J) J<|AM.nil<|rN<|ATodo.stop<|ImpX.lq [1,1,6,1,1,1,1,1,0] ⟨true,h,J⟩ J J
    · rintro σ' ⟨c3, h, rfl⟩
      unfold campaign_state_mark_j1 at h
      refine ATodo.cond J (fun hc=>?_) (fun hc=>?_)
      · refine have h := iteT hc h; ATodo.ret<|?_
        obtain rfl := Option.some.inj h
        exact ImpX.here ⟨_,.nil,_,.cons .p0 (.cons .p0 (.cons .p1 (.cons .p1 (.cons .p1 (.cons .p1 (.cons .p1 (.cons .p0 .nil))))))),⟨b_0x3,b_0x4,b_0x5,b_0x6,b_0x9s,J,J⟩⟩
      · refine have h := iteFb hc h; tK<|tS<|ATodo.regionM (id := 3) (A := [0,1,3,7,0,16,63,127]) 8 mixed J (by kernel_rfl) (by kernel_rfl)<|AM.qv (q_move J) J<|AM.qv (q_nilCheck_ptr J) J<|AM.qv (n_field_ptr J J) J<|AM.qv (q_load_ptr J J .p0 J) J<|AM.qv (n_field_ptr J J) J<|AM.qv (q_load_ptr J J (.next .p7) J) J<|bndE h fun v4 e2 h=>AM.qv (t_lookup (gk := AV.str) (gv := I) (M := p0x0.wave_) (key := p1x0.Device) (Z := (0 : Int)) J J .p3 J J J e2 J) J<|AM.qv (q_assign J) J<|AM.nil<|rN<|tSR<|rM J J<|rM J J<|?_
        cases h
  · refine AM.qv (t_lookupB1 (gk := AV.str) (gv := (pA b_0x9o)) (M := p0x0.of_) (key := p1x0.Device) J J .p2 e1) J<|AM.qv (q_move J) J<|AM.qv (q_extract J J) J<|AM.qv (q_extract J J) J<|AM.qv (q_assign J) J<|AM.qv (q_assign J) J<|AM.nil<|rN<|tS<|tS<|ATodo.cut (fun σ'=>∃ (c5 : Bool),campaign_state_mark_j2 p0x0 p1x0 n2 c5 = some r ∧ σ' = ⟨165,[(0,.ptr b_0 0),(3,.ptr b1 0),(4,.ptr (b_0x9o n2.toNat) 0),(33,.bool c5)],[(b_0,.cells [.rptr [.str p0x0.c_.Key,I p0x0.c_.Target.Major,I p0x0.c_.Target.Minor,I p0x0.c_.Target.Patch,I p0x0.c_.At,lE2 p0x0.c_.Waves,I p0x0.c_.Hours.From,I p0x0.c_.Hours.To,I p0x0.c_.Room],.mref b_0x1,.mref b_0x2,.sl 1 b_0x3 0 p0x0.open_.length,.sl 1 b_0x4 0 p0x0.ends_.length,.sl 1 b_0x5 0 p0x0.fails_.length,.sl 1 b_0x6 0 p0x0.begins_.length,I p0x0.stopped_,I p0x0.next_]),(b_0x1,.mp (p0x0.of_.map (fun e=>(AV.str e.1,(pA b_0x9o) e.2)))),(b_0x9,.pool (araE kE0 b_0x9o b_0x9s p0x0.ar0)),(b_0x2,mE6 p0x0.wave_),(b_0x3,aE0 p0x0.open_),(b_0x4,aE0 p0x0.ends_),(b_0x5,aE0 p0x0.fails_),(b_0x6,aE0 p0x0.begins_),(b1,.cells (cE4 p1x0))]⟩) ?_ ?_
    · refine ATodo.regionM (id := 2) (A := [0,1,3,7,15,7,39,103,231,487,999,2023,4095,8191]) 14 mixed J (by kernel_rfl) (by kernel_rfl)<|AM.qv (q_move J) J<|AM.qv (q_not J) J<|AM.qv (q_move J) J<|AM.guard J J J (fun hc=>?_) (fun hc=>?_)
      · rw [orFb hc] at h
        exact AM.qv (n_field_ptr J J) J<|AM.guard_yes J J J<|AM.qv (q_load_ptr J J .p0 J) J<|AM.guard_yes J J J<|AM.qv (q_move J) J<|AM.guard_yes J J J<|AM.qv (q_nilCheck_ptr J) J<|AM.guard_yes J J J<|AM.qv (n_field_ptr J J) J<|AM.guard_yes J J J<|AM.qv (q_load_ptr J J .p1 J) J<|AM.guard_yes J J J<|AM.qv (q_nilCheck_rptr J) J<|AM.guard_yes J J J<|AM.qv (n_field_rptr J J) J<|AM.guard_yes J J J<|AM.qv (q_load_rptr J J J) J<|AM.guard_yes J J J<|AM.qv (q_lss J J) J<|AM.qv (q_pick_f J J) J<|AM.nil<|rN<|ATodo.stop<|ImpX.lq [1,1,6,1,1,1,1,1,0] ⟨decide (p1x0.At < p0x0.c_.At),h,J⟩ J J
      · rw [orTb hc] at h
        exact AM.guard_no J J J J<|AM.guard_no J J J J<|AM.guard_no J J J J<|AM.guard_no J J J J<|AM.guard_no J J J J<|AM.guard_no J J J J<|AM.guard_no J J J J<|AM.guard_no J J J J<|AM.guard_no J J J J<|AM.qv (q_pick_t J J) J<|AM.nil<|rN<|ATodo.stop<|ImpX.lq [1,1,6,1,1,1,1,1,0] ⟨true,h,J⟩ J J
    · rintro σ' ⟨c5, h, rfl⟩
      unfold campaign_state_mark_j2 at h
      refine ATodo.cond J (fun hc=>?_) (fun hc=>?_)
      · refine have h := iteT hc h; ATodo.ret<|?_
        obtain rfl := Option.some.inj h
        exact ImpX.here ⟨_,.nil,_,.cons .p0 (.cons .p0 (.cons .p1 (.cons .p1 (.cons .p1 (.cons .p1 (.cons .p1 (.cons .p0 .nil))))))),⟨b_0x3,b_0x4,b_0x5,b_0x6,b_0x9s,J,J⟩⟩
      · refine have h := iteFb hc h; tK<|tS<|ATodo.regionM (id := 3) (A := [0,1,3,7,0,16,63,127]) 8 mixed J (by kernel_rfl) (by kernel_rfl)<|AM.qv (q_move J) J<|AM.qv (q_nilCheck_ptr J) J<|AM.qv (n_field_ptr J J) J<|AM.qv (q_load_ptr J J .p0 J) J<|AM.qv (n_field_ptr J J) J<|AM.qv (q_load_ptr J J (.next .p7) J) J<|bndE h fun v6 e3 h=>AM.qv (t_lookup (gk := AV.str) (gv := I) (M := p0x0.wave_) (key := p1x0.Device) (Z := (0 : Int)) J J .p3 J J J e3 J) J<|AM.qv (q_assign J) J<|AM.nil<|rN<|tS<|ATodo.cut (fun σ'=>∃ (c7 : Bool),campaign_state_mark_j3 p0x0 p1x0 n2 v6 c7 = some r ∧ σ' = ⟨165,[(0,.ptr b_0 0),(3,.ptr b1 0),(4,.ptr (b_0x9o n2.toNat) 0),(6,I v6),(7,.bool c7)],[(b_0,.cells [.rptr [.str p0x0.c_.Key,I p0x0.c_.Target.Major,I p0x0.c_.Target.Minor,I p0x0.c_.Target.Patch,I p0x0.c_.At,lE2 p0x0.c_.Waves,I p0x0.c_.Hours.From,I p0x0.c_.Hours.To,I p0x0.c_.Room],.mref b_0x1,.mref b_0x2,.sl 1 b_0x3 0 p0x0.open_.length,.sl 1 b_0x4 0 p0x0.ends_.length,.sl 1 b_0x5 0 p0x0.fails_.length,.sl 1 b_0x6 0 p0x0.begins_.length,I p0x0.stopped_,I p0x0.next_]),(b_0x1,.mp (p0x0.of_.map (fun e=>(AV.str e.1,(pA b_0x9o) e.2)))),(b_0x9,.pool (araE kE0 b_0x9o b_0x9s p0x0.ar0)),(b_0x2,mE6 p0x0.wave_),(b_0x3,aE0 p0x0.open_),(b_0x4,aE0 p0x0.ends_),(b_0x5,aE0 p0x0.fails_),(b_0x6,aE0 p0x0.begins_),(b1,.cells (cE4 p1x0))]⟩) ?_ ?_
        · refine tR<|rM J J<|rM J J<|bndE h fun v8 e4 h=>r_callpB J (campaign_state_ready_c J) (.cons (.boxL _ _ _ .p0 (.cons (.co (.refl _)) (.cons (.co (.refl _)) (.cons (.co (.refl _)) (.cons (CoB.arrT .p4) (.cons (CoB.arrT .p5) (.cons (CoB.arrT .p6) (.cons (CoB.arrT .p7) (.cons (.co (.refl _)) (.cons (.co (.refl _)) .nil)))))))))) (.cons (CoB.araP' (bp := b_0x9) (kb := kE0) (bs := b_0x9s) (M := p0x0.ar0) KB0 e4 .p2) .nil)) J J<|rM J J<|ARun.guard J J J (fun hc=>?_) (fun hc=>?_)
          · rw [orFb hc] at h
            exact rM J J<|rY J J J<|rM J J<|rY J J J<|r_callpB J (campaign_state_out_c J) (.cons (.boxL _ _ _ .p0 (.cons (.co (.refl _)) (.cons (.co (.refl _)) (.cons (.co (.refl _)) (.cons (CoB.arrT .p4) (.cons (CoB.arrT .p5) (.cons (CoB.arrT .p6) (.cons (CoB.arrT .p7) (.cons (.co (.refl _)) (.cons (.co (.refl _)) .nil)))))))))) (.cons (CoB.araP' (bp := b_0x9) (kb := kE0) (bs := b_0x9s) (M := p0x0.ar0) KB0 e4 .p2) .nil)) J J<|rE J J J<|rA J J<|rN<|ATodo.stop<|ImpX.lq [0,0,0,0,0,0,0,0,0] ⟨(campaign_state_out p0x0 v8),h,J⟩ J J
          · rw [orTb hc] at h
            exact rG J J J J<|rG J J J J<|rT J J J<|rA J J<|rN<|ATodo.stop<|ImpX.lq [0,0,0,0,0,0,0,0,0] ⟨true,h,J⟩ J J
        · rintro σ' ⟨c7, h, rfl⟩
          unfold campaign_state_mark_j3 at h
          refine tS<|tSR<|rM J J<|ARun.qv (q_load_ptr_all J J (.next .p7) J) J<|bndE h fun v9 e5 h=>ARun.ghost<|ImpX.araTakeN (kb := kE0) e5 .p2 J<|ImpX.here<|t_call0 J (campaign_course_follow_c J) (CoL.refl _) (.cons .p0 .nil) J J<|ARun.qv (q_not J) J<|ARun.ghost<|ImpX.araPutN (kb := kE0) (v' := ((campaign_course_follow v9 p1x0).2)) (s := nbk []) e5 (.cons .p0 .nil) J (fun _=>.p2) fun bs10=>ImpX.here<|rN<|ATodo.cond J (fun hc=>?_) (fun hc=>?_)
          · refine have h := iteT hc h; ATodo.ret<|?_
            obtain rfl := Option.some.inj h
            exact ImpX.here ⟨_,.nil,_,.cons .p0 (.cons .p0 (.cons .p1 (.cons .p1 (.cons .p1 (.cons .p1 (.cons .p1 (.cons .p0 .nil))))))),⟨b_0x3,b_0x4,b_0x5,b_0x6,bs10,J,J⟩⟩
          · refine have h := iteFb hc h; tK<|tS<|tS<|ATodo.cut (fun σ'=>∃ (c11 : Bool),campaign_state_mark_j4 p0x0 p1x0 n2 v6 c7 v9 c11 = some r ∧ σ' = ⟨165,[(0,.ptr b_0 0),(3,.ptr b1 0),(6,I v6),(7,.bool c7),(8,.bool c11)],[(b_0,.cells [.rptr [.str p0x0.c_.Key,I p0x0.c_.Target.Major,I p0x0.c_.Target.Minor,I p0x0.c_.Target.Patch,I p0x0.c_.At,lE2 p0x0.c_.Waves,I p0x0.c_.Hours.From,I p0x0.c_.Hours.To,I p0x0.c_.Room],.mref b_0x1,.mref b_0x2,.sl 1 b_0x3 0 p0x0.open_.length,.sl 1 b_0x4 0 p0x0.ends_.length,.sl 1 b_0x5 0 p0x0.fails_.length,.sl 1 b_0x6 0 p0x0.begins_.length,I p0x0.stopped_,I p0x0.next_]),(b_0x1,.mp (p0x0.of_.map (fun e=>(AV.str e.1,(pA b_0x9o) e.2)))),(b_0x9,.pool (araE kE0 b_0x9o bs10 (p0x0.ar0.set n2.toNat ((campaign_course_follow v9 p1x0).2)))),(b_0x2,mE6 p0x0.wave_),(b_0x3,aE0 p0x0.open_),(b_0x4,aE0 p0x0.ends_),(b_0x5,aE0 p0x0.fails_),(b_0x6,aE0 p0x0.begins_),(b1,.cells (cE4 p1x0))]⟩) ?_ ?_
            · refine tR<|rM J J<|rM J J<|r_callpB J (campaign_state_ready_c (J : campaign_state_ready (⟨p0x0.c_,p0x0.of_,p0x0.wave_,p0x0.open_,p0x0.ends_,p0x0.fails_,p0x0.begins_,p0x0.stopped_,p0x0.next_,p0x0.ar0.set n2.toNat ((campaign_course_follow v9 p1x0).2)⟩ : Campaign_state) ((campaign_course_follow v9 p1x0).2) = _)) (.cons (.boxL _ _ _ .p0 (.cons (.co (.refl _)) (.cons (.co (.refl _)) (.cons (.co (.refl _)) (.cons (CoB.arrT .p4) (.cons (CoB.arrT .p5) (.cons (CoB.arrT .p6) (.cons (CoB.arrT .p7) (.cons (.co (.refl _)) (.cons (.co (.refl _)) .nil)))))))))) (.cons (CoB.araP' (bp := b_0x9) (kb := kE0) (bs := bs10) (M := (p0x0.ar0.set n2.toNat ((campaign_course_follow v9 p1x0).2))) KB0 (idx_set_self (v := ((campaign_course_follow v9 p1x0).2)) e5) .p2) .nil)) J J<|rM J J<|ARun.guard J J J (fun hc=>?_) (fun hc=>?_)
              · rw [orFb hc] at h
                exact rM J J<|rY J J J<|rM J J<|rY J J J<|r_callpB J (campaign_state_out_c (J : campaign_state_out (⟨p0x0.c_,p0x0.of_,p0x0.wave_,p0x0.open_,p0x0.ends_,p0x0.fails_,p0x0.begins_,p0x0.stopped_,p0x0.next_,p0x0.ar0.set n2.toNat ((campaign_course_follow v9 p1x0).2)⟩ : Campaign_state) ((campaign_course_follow v9 p1x0).2) = _)) (.cons (.boxL _ _ _ .p0 (.cons (.co (.refl _)) (.cons (.co (.refl _)) (.cons (.co (.refl _)) (.cons (CoB.arrT .p4) (.cons (CoB.arrT .p5) (.cons (CoB.arrT .p6) (.cons (CoB.arrT .p7) (.cons (.co (.refl _)) (.cons (.co (.refl _)) .nil)))))))))) (.cons (CoB.araP' (bp := b_0x9) (kb := kE0) (bs := bs10) (M := (p0x0.ar0.set n2.toNat ((campaign_course_follow v9 p1x0).2))) KB0 (idx_set_self (v := ((campaign_course_follow v9 p1x0).2)) e5) .p2) .nil)) J J<|rE J J J<|rA J J<|rN<|ATodo.stop<|ImpX.lq [0,0,0,0,0,0,0,0,0] ⟨(campaign_state_out (⟨p0x0.c_,p0x0.of_,p0x0.wave_,p0x0.open_,p0x0.ends_,p0x0.fails_,p0x0.begins_,p0x0.stopped_,p0x0.next_,p0x0.ar0.set n2.toNat ((campaign_course_follow v9 p1x0).2)⟩ : Campaign_state) ((campaign_course_follow v9 p1x0).2)),h,J⟩ J J
              · rw [orTb hc] at h
                exact rG J J J J<|rG J J J J<|rT J J J<|rA J J<|rN<|ATodo.stop<|ImpX.lq [0,0,0,0,0,0,0,0,0] ⟨true,h,J⟩ J J
            · rintro σ' ⟨c11, h, rfl⟩
              unfold campaign_state_mark_j4 at h
              refine tSR<|rM J J<|rM J J<|ARun.qv (q_bne J J) J<|rN<|ATodo.cut (fun σ'=>∃ (l12 : List Int),campaign_state_mark_j5 p0x0 p1x0 n2 v6 v9 l12 = some r ∧ σ' = ⟨165,[(0,.ptr b_0 0),(3,.ptr b1 0),(6,I v6)],[(b_0,.cells [.rptr [.str p0x0.c_.Key,I p0x0.c_.Target.Major,I p0x0.c_.Target.Minor,I p0x0.c_.Target.Patch,I p0x0.c_.At,lE2 p0x0.c_.Waves,I p0x0.c_.Hours.From,I p0x0.c_.Hours.To,I p0x0.c_.Room],.mref b_0x1,.mref b_0x2,.sl 1 b_0x3 0 l12.length,.sl 1 b_0x4 0 p0x0.ends_.length,.sl 1 b_0x5 0 p0x0.fails_.length,.sl 1 b_0x6 0 p0x0.begins_.length,I p0x0.stopped_,I p0x0.next_]),(b_0x1,.mp (p0x0.of_.map (fun e=>(AV.str e.1,(pA b_0x9o) e.2)))),(b_0x9,.pool (araE kE0 b_0x9o bs10 (p0x0.ar0.set n2.toNat ((campaign_course_follow v9 p1x0).2)))),(b_0x2,mE6 p0x0.wave_),(b_0x3,aE0 l12),(b_0x4,aE0 p0x0.ends_),(b_0x5,aE0 p0x0.fails_),(b_0x6,aE0 p0x0.begins_),(b1,.cells (cE4 p1x0))]⟩) ?_ ?_
              · refine ATodo.cond J (fun hc=>?_) (fun hc=>?_)
                · refine have h := iteT hc h; tSR<|rM J J<|rN<|ATodo.cut (fun σ'=>∃ (l13 : List Int),campaign_state_mark_j6 p0x0 p1x0 n2 v6 v9 l13 = some r ∧ σ' = ⟨165,[(0,.ptr b_0 0),(3,.ptr b1 0),(6,I v6)],[(b_0,.cells [.rptr [.str p0x0.c_.Key,I p0x0.c_.Target.Major,I p0x0.c_.Target.Minor,I p0x0.c_.Target.Patch,I p0x0.c_.At,lE2 p0x0.c_.Waves,I p0x0.c_.Hours.From,I p0x0.c_.Hours.To,I p0x0.c_.Room],.mref b_0x1,.mref b_0x2,.sl 1 b_0x3 0 l13.length,.sl 1 b_0x4 0 p0x0.ends_.length,.sl 1 b_0x5 0 p0x0.fails_.length,.sl 1 b_0x6 0 p0x0.begins_.length,I p0x0.stopped_,I p0x0.next_]),(b_0x1,.mp (p0x0.of_.map (fun e=>(AV.str e.1,(pA b_0x9o) e.2)))),(b_0x9,.pool (araE kE0 b_0x9o bs10 (p0x0.ar0.set n2.toNat ((campaign_course_follow v9 p1x0).2)))),(b_0x2,mE6 p0x0.wave_),(b_0x3,aE0 l13),(b_0x4,aE0 p0x0.ends_),(b_0x5,aE0 p0x0.fails_),(b_0x6,aE0 p0x0.begins_),(b1,.cells (cE4 p1x0))]⟩) ?_ ?_
                  · refine ATodo.cond J (fun hc=>?_) (fun hc=>?_)
                    · exact have h := iteT hc h; tR<|rM J J<|ARun.qv (q_nilCheck_ptr J) J<|rF J J J<|rL J J .p0 J J<|rM J J<|bndE h fun v14 e6 h=>ARun.qv (t_index_sl J J J e6) J<|ARun.qv (t_load_aptr (g := I) J J (.inl .p4) e6 J) J<|ARun.qv (q_subw J J) J<|bndE h fun v15 e7 h=>ARun.qv (t_index_sl J J J e7) J<|t_store_aptr1 (g := I) (el' := w64 (v14 - (1 : Int))) J J J J e7 J .p4 J<|ARun.ghost<|ImpX.eqs (s := 68) (av' := .sl 1 b_0x3 0 (p0x0.open_.set v6.toNat (w64 (v14 - (1 : Int)))).length) J (by rw [List.length_set])<|ImpX.here<|ARun.ghost<|ImpX.eqBox (j := 3) (av' := .sl 1 b_0x3 0 (p0x0.open_.set v6.toNat (w64 (v14 - (1 : Int)))).length) .p0 J (by rw [List.length_set]) J<|ImpX.here<|rN<|ATodo.stop<|ImpX.lq [0,0,0,0,0,0,0,0,0] ⟨p0x0.open_.set v6.toNat (w64 (v14 - (1 : Int))),h,J⟩ J J
                    · exact have h := iteFb hc h; tR<|rM J J<|ARun.qv (q_nilCheck_ptr J) J<|rF J J J<|rL J J .p0 J J<|rM J J<|bndE h fun v16 e8 h=>ARun.qv (t_index_sl J J J e8) J<|ARun.qv (t_load_aptr (g := I) J J (.inl .p4) e8 J) J<|ARun.qv (q_addw J J) J<|bndE h fun v17 e9 h=>ARun.qv (t_index_sl J J J e9) J<|t_store_aptr1 (g := I) (el' := w64 (v16 + (1 : Int))) J J J J e9 J .p4 J<|ARun.ghost<|ImpX.eqs (s := 77) (av' := .sl 1 b_0x3 0 (p0x0.open_.set v6.toNat (w64 (v16 + (1 : Int)))).length) J (by rw [List.length_set])<|ImpX.here<|ARun.ghost<|ImpX.eqBox (j := 3) (av' := .sl 1 b_0x3 0 (p0x0.open_.set v6.toNat (w64 (v16 + (1 : Int)))).length) .p0 J (by rw [List.length_set]) J<|ImpX.here<|rN<|ATodo.stop<|ImpX.lq [0,0,0,0,0,0,0,0,0] ⟨p0x0.open_.set v6.toNat (w64 (v16 + (1 : Int))),h,J⟩ J J
                  · rintro σ' ⟨l13, h, rfl⟩
                    unfold campaign_state_mark_j6 at h
                    exact ATodo.stop<|ImpX.lq [0,0,0,0,0,0,0,0,0] ⟨l13,h,J⟩ J J
                · exact have h := iteFb hc h; tK<|ATodo.stop<|ImpX.lq [0,0,0,0,0,0,0,0,0] ⟨p0x0.open_,h,J⟩ J J
              · rintro σ' ⟨l12, h, rfl⟩
                unfold campaign_state_mark_j5 at h
                refine tS<|tS<|ATodo.cut (fun σ'=>∃ (c18 : Bool),campaign_state_mark_j7 p0x0 p1x0 n2 v6 v9 l12 c18 = some r ∧ σ' = ⟨165,[(0,.ptr b_0 0),(3,.ptr b1 0),(6,I v6),(90,.bool c18)],[(b_0,.cells [.rptr [.str p0x0.c_.Key,I p0x0.c_.Target.Major,I p0x0.c_.Target.Minor,I p0x0.c_.Target.Patch,I p0x0.c_.At,lE2 p0x0.c_.Waves,I p0x0.c_.Hours.From,I p0x0.c_.Hours.To,I p0x0.c_.Room],.mref b_0x1,.mref b_0x2,.sl 1 b_0x3 0 l12.length,.sl 1 b_0x4 0 p0x0.ends_.length,.sl 1 b_0x5 0 p0x0.fails_.length,.sl 1 b_0x6 0 p0x0.begins_.length,I p0x0.stopped_,I p0x0.next_]),(b_0x1,.mp (p0x0.of_.map (fun e=>(AV.str e.1,(pA b_0x9o) e.2)))),(b_0x9,.pool (araE kE0 b_0x9o bs10 (p0x0.ar0.set n2.toNat ((campaign_course_follow v9 p1x0).2)))),(b_0x2,mE6 p0x0.wave_),(b_0x3,aE0 l12),(b_0x4,aE0 p0x0.ends_),(b_0x5,aE0 p0x0.fails_),(b_0x6,aE0 p0x0.begins_),(b1,.cells (cE4 p1x0))]⟩) ?_ ?_
                · refine tR<|rF J J J<|rL J J (.next .p7) J J<|ARun.qv (q_neq J J) J<|rM J J<|ARun.guard_dt J J J (fun hc=>?_) (fun hc=>?_)
                  · rw [andTd hc] at h
                    exact rF J J J<|rY J J J<|rL J J (.next .p7) J J<|rY J J J<|ARun.qv (q_neq J J) J<|rT J J J<|rN<|ATodo.stop<|ImpX.lq [0,0,0,0,0,0,0,0,0] ⟨decide (p1x0.Kind ≠ (4 : Int)),h,J⟩ J J
                  · rw [andFd hc] at h
                    exact rG J J J J<|rG J J J J<|rE J J J<|rN<|ATodo.stop<|ImpX.lq [0,0,0,0,0,0,0,0,0] ⟨false,h,J⟩ J J
                · rintro σ' ⟨c18, h, rfl⟩
                  unfold campaign_state_mark_j7 at h
                  refine ATodo.cond J (fun hc=>?_) (fun hc=>?_)
                  · refine have h := iteT hc h; ATodo.ret<|?_
                    obtain rfl := Option.some.inj h
                    exact ImpX.here ⟨_,.nil,_,.cons .p0 (.cons .p0 (.cons .p1 (.cons .p1 (.cons .p1 (.cons .p1 (.cons .p1 (.cons .p0 .nil))))))),⟨b_0x3,b_0x4,b_0x5,b_0x6,bs10,J,J⟩⟩
                  · refine have h := iteFb hc h; tK<|tSR<|rM J J<|ARun.qv (q_nilCheck_ptr J) J<|rF J J J<|rL J J .p0 J J<|rM J J<|bndE h fun v19 e10 h=>ARun.qv (t_index_sl J J J e10) J<|ARun.qv (t_load_aptr (g := I) J J (.inl .p5) e10 J) J<|ARun.qv (q_addw J J) J<|bndE h fun v20 e11 h=>ARun.qv (t_index_sl J J J e11) J<|t_store_aptr1 (g := I) (el' := w64 (v19 + (1 : Int))) J J J J e11 J .p5 J<|ARun.ghost<|ImpX.eqs (s := 94) (av' := .sl 1 b_0x4 0 (p0x0.ends_.set v6.toNat (w64 (v19 + (1 : Int)))).length) J (by rw [List.length_set])<|ImpX.here<|ARun.ghost<|ImpX.eqBox (j := 4) (av' := .sl 1 b_0x4 0 (p0x0.ends_.set v6.toNat (w64 (v19 + (1 : Int)))).length) .p0 J (by rw [List.length_set]) J<|ImpX.here<|rN<|tS<|tSR<|rF J J J<|rL J J (.next .p7) J J<|ARun.qv (q_eql J J) J<|rN<|ATodo.cut (fun σ'=>∃ (l21 : List Int),campaign_state_mark_j8 p0x0 p1x0 n2 v6 v9 l12 v19 l21 = some r ∧ σ' = ⟨165,[(0,.ptr b_0 0),(3,.ptr b1 0),(6,I v6)],[(b_0,.cells [.rptr [.str p0x0.c_.Key,I p0x0.c_.Target.Major,I p0x0.c_.Target.Minor,I p0x0.c_.Target.Patch,I p0x0.c_.At,lE2 p0x0.c_.Waves,I p0x0.c_.Hours.From,I p0x0.c_.Hours.To,I p0x0.c_.Room],.mref b_0x1,.mref b_0x2,.sl 1 b_0x3 0 l12.length,.sl 1 b_0x4 0 (p0x0.ends_.set v6.toNat (w64 (v19 + (1 : Int)))).length,.sl 1 b_0x5 0 l21.length,.sl 1 b_0x6 0 p0x0.begins_.length,I p0x0.stopped_,I p0x0.next_]),(b_0x1,.mp (p0x0.of_.map (fun e=>(AV.str e.1,(pA b_0x9o) e.2)))),(b_0x9,.pool (araE kE0 b_0x9o bs10 (p0x0.ar0.set n2.toNat ((campaign_course_follow v9 p1x0).2)))),(b_0x2,mE6 p0x0.wave_),(b_0x3,aE0 l12),(b_0x4,aE0 (p0x0.ends_.set v6.toNat (w64 (v19 + (1 : Int))))),(b_0x5,aE0 l21),(b_0x6,aE0 p0x0.begins_),(b1,.cells (cE4 p1x0))]⟩) ?_ ?_
                    · refine ATodo.cond_d J (fun hc=>?_) (fun hc=>?_)
                      · exact have h := iteT hc h; tR<|rM J J<|ARun.qv (q_nilCheck_ptr J) J<|rF J J J<|rL J J .p0 J J<|rM J J<|bndE h fun v22 e12 h=>ARun.qv (t_index_sl J J J e12) J<|ARun.qv (t_load_aptr (g := I) J J (.inl .p6) e12 J) J<|ARun.qv (q_addw J J) J<|bndE h fun v23 e13 h=>ARun.qv (t_index_sl J J J e13) J<|t_store_aptr1 (g := I) (el' := w64 (v22 + (1 : Int))) J J J J e13 J .p6 J<|ARun.ghost<|ImpX.eqs (s := 106) (av' := .sl 1 b_0x5 0 (p0x0.fails_.set v6.toNat (w64 (v22 + (1 : Int)))).length) J (by rw [List.length_set])<|ImpX.here<|ARun.ghost<|ImpX.eqBox (j := 5) (av' := .sl 1 b_0x5 0 (p0x0.fails_.set v6.toNat (w64 (v22 + (1 : Int)))).length) .p0 J (by rw [List.length_set]) J<|ImpX.here<|rN<|ATodo.stop<|ImpX.lq [0,0,0,0,0,0,0,0,0] ⟨p0x0.fails_.set v6.toNat (w64 (v22 + (1 : Int))),h,J⟩ J J
                      · exact have h := iteF hc h; tK<|ATodo.stop<|ImpX.lq [0,0,0,0,0,0,0,0,0] ⟨p0x0.fails_,h,J⟩ J J
                    · rintro σ' ⟨l21, h, rfl⟩
                      unfold campaign_state_mark_j8 at h
                      refine tSR<|rM J J<|ARun.qv (q_nilCheck_ptr J) J<|rF J J J<|rL J J .p0 J J<|ARun.qv (q_nilCheck_rptr J) J<|ARun.qv (n_field_rptr J J) J<|ARun.qv (q_load_rptr J J J) J<|rM J J<|bndE h fun v24 e14 h=>ARun.qv (t_index J J J e14 J J) J<|ARun.qv (q_load_rptr_agg J J J) J<|n_alloc J J J J fun b25=>n_store_ptr J J J J .p0 J J<|rN<|tS<|ATodo.cut (fun σ'=>∃ (c26 : Bool),campaign_state_mark_j9 p0x0 p1x0 n2 v6 v9 l12 v19 l21 c26 = some r ∧ σ' = ⟨165,[(0,.ptr b_0 0),(3,.ptr b1 0),(159,.bool c26)],[(b_0,.cells [.rptr [.str p0x0.c_.Key,I p0x0.c_.Target.Major,I p0x0.c_.Target.Minor,I p0x0.c_.Target.Patch,I p0x0.c_.At,lE2 p0x0.c_.Waves,I p0x0.c_.Hours.From,I p0x0.c_.Hours.To,I p0x0.c_.Room],.mref b_0x1,.mref b_0x2,.sl 1 b_0x3 0 l12.length,.sl 1 b_0x4 0 (p0x0.ends_.set v6.toNat (w64 (v19 + (1 : Int)))).length,.sl 1 b_0x5 0 l21.length,.sl 1 b_0x6 0 p0x0.begins_.length,I p0x0.stopped_,I p0x0.next_]),(b_0x1,.mp (p0x0.of_.map (fun e=>(AV.str e.1,(pA b_0x9o) e.2)))),(b_0x9,.pool (araE kE0 b_0x9o bs10 (p0x0.ar0.set n2.toNat ((campaign_course_follow v9 p1x0).2)))),(b_0x2,mE6 p0x0.wave_),(b_0x3,aE0 l12),(b_0x4,aE0 (p0x0.ends_.set v6.toNat (w64 (v19 + (1 : Int))))),(b_0x5,aE0 l21),(b_0x6,aE0 p0x0.begins_),(b1,.cells (cE4 p1x0))]⟩) ?_ ?_
                      · refine ATodo.regionM (id := 16) (A := [0,1,3,7,15,31,63,127,255,511,63,2047,4095,63,8255,32767,65535,131071,262143,524287,1048575,2097151,262143,8388607,16777215,33554431,262143,67371007,262143,268697599,805568511,1879310335,262143,8321761279,16911695871,34292891647,68719476735,137438953471]) 38 mixed J (by kernel_rfl) (by kernel_rfl)<|AM.qv (q_move J) J<|AM.qv (q_nilCheck_ptr J) J<|AM.qv (n_field_ptr J J) J<|AM.qv (q_load_ptr J J .p1 J) J<|AM.qv (q_lss J J) J<|AM.qv (q_move J) J<|AM.guard_dt J J J (fun hc=>?_) (fun hc=>?_)
                        · refine have h := iteT hc h; AM.qv (q_move J) J<|AM.guard_yes J J J<|AM.qv (q_nilCheck_ptr J) J<|AM.guard_yes J J J<|AM.qv (n_field_ptr J J) J<|AM.guard_yes J J J<|AM.qv (q_load_ptr J J .p1 J) J<|AM.guard_yes J J J<|AM.qv (q_move J) J<|AM.guard_yes J J J<|bndE h fun v27 e15 h=>AM.qv (t_index_sl J J J e15) J<|AM.guard_yes J J J<|AM.qv (t_load_aptr (g := I) J J (.inl .p6) e15 J) J<|AM.guard_yes J J J<|AM.qv (n_field_ptr J J) J<|AM.guard_yes J J J<|AM.qv (q_load_ptr J J .p0 J) J<|AM.guard_yes J J J<|AM.qv (q_geq J J) J<|AM.qv (q_pick_t J J) J<|AM.qv (q_move J) J<|AM.guard_dt J J J (fun hc=>?_) (fun hc=>?_)
                          · exact have h := iteT hc h; AM.qv (q_move J) J<|AM.guard_yes J J J<|AM.qv (q_nilCheck_ptr J) J<|AM.guard_yes J J J<|AM.qv (n_field_ptr J J) J<|AM.guard_yes J J J<|AM.qv (q_load_ptr J J .p1 J) J<|AM.guard_yes J J J<|AM.qv (q_move J) J<|AM.guard_yes J J J<|bndE h fun v28 e16 h=>AM.qv (t_index_sl J J J e16) J<|AM.guard_yes J J J<|AM.qv (t_load_aptr (g := I) J J (.inl .p7) e16 J) J<|AM.guard_yes J J J<|AM.qv (q_mulw J J) J<|AM.guard_yes J J J<|AM.qv (n_field_ptr J J) J<|AM.guard_yes J J J<|AM.qv (q_load_ptr J J .p0 J) J<|AM.guard_yes J J J<|AM.qv (q_move J) J<|AM.guard_yes J J J<|AM.qv (q_nilCheck_ptr J) J<|AM.guard_yes J J J<|AM.qv (n_field_ptr J J) J<|AM.guard_yes J J J<|AM.qv (q_load_ptr J J .p1 J) J<|AM.guard_yes J J J<|AM.qv (q_move J) J<|AM.guard_yes J J J<|bndE h fun v29 e17 h=>AM.qv (t_index_sl J J J e17) J<|AM.guard_yes J J J<|AM.qv (t_load_aptr (g := I) J J (.inl .p6) e17 J) J<|AM.guard_yes J J J<|AM.qv (q_mulw J J) J<|AM.guard_yes J J J<|AM.qv (q_gtr J J) J<|AM.qv (q_pick_t J J) J<|AM.nil<|rN<|ATodo.stop<|ImpX.lq [1,1,1,1,1,1,1,1,1] ⟨decide ((w64 (v24.Fails * v29)) < (w64 ((1000 : Int) * v28))),h,J⟩ J J
                          · exact have h := iteF hc h; AM.guard_no J J J J<|AM.guard_no J J J J<|AM.guard_no J J J J<|AM.guard_no J J J J<|AM.guard_no J J J J<|AM.guard_no J J J J<|AM.guard_no J J J J<|AM.guard_no J J J J<|AM.guard_no J J J J<|AM.guard_no J J J J<|AM.guard_no J J J J<|AM.guard_no J J J J<|AM.guard_no J J J J<|AM.guard_no J J J J<|AM.guard_no J J J J<|AM.guard_no J J J J<|AM.guard_no J J J J<|AM.guard_no J J J J<|AM.qv (q_pick_f J J) J<|AM.nil<|rN<|ATodo.stop<|ImpX.lq [1,1,1,1,1,1,1,1,1] ⟨false,h,J⟩ J J
                        · exact have h := iteF hc h; AM.guard_no J J J J<|AM.guard_no J J J J<|AM.guard_no J J J J<|AM.guard_no J J J J<|AM.guard_no J J J J<|AM.guard_no J J J J<|AM.guard_no J J J J<|AM.guard_no J J J J<|AM.guard_no J J J J<|AM.qv (q_pick_f J J) J<|AM.qv (q_move J) J<|AM.guard_no J J J J<|AM.guard_no J J J J<|AM.guard_no J J J J<|AM.guard_no J J J J<|AM.guard_no J J J J<|AM.guard_no J J J J<|AM.guard_no J J J J<|AM.guard_no J J J J<|AM.guard_no J J J J<|AM.guard_no J J J J<|AM.guard_no J J J J<|AM.guard_no J J J J<|AM.guard_no J J J J<|AM.guard_no J J J J<|AM.guard_no J J J J<|AM.guard_no J J J J<|AM.guard_no J J J J<|AM.guard_no J J J J<|AM.guard_no J J J J<|AM.qv (q_pick_f J J) J<|AM.nil<|rN<|ATodo.stop<|ImpX.lq [1,1,1,1,1,1,1,1,1] ⟨false,h,J⟩ J J
                      · rintro σ' ⟨c26, h, rfl⟩
                        unfold campaign_state_mark_j9 at h
                        refine ATodo.cut (fun σ'=>∃ (n30 : Int),campaign_state_mark_j10 p0x0 p1x0 n2 v6 v9 l12 v19 l21 n30 = some r ∧ σ' = ⟨165,[],[(b_0,.cells [.rptr [.str p0x0.c_.Key,I p0x0.c_.Target.Major,I p0x0.c_.Target.Minor,I p0x0.c_.Target.Patch,I p0x0.c_.At,lE2 p0x0.c_.Waves,I p0x0.c_.Hours.From,I p0x0.c_.Hours.To,I p0x0.c_.Room],.mref b_0x1,.mref b_0x2,.sl 1 b_0x3 0 l12.length,.sl 1 b_0x4 0 (p0x0.ends_.set v6.toNat (w64 (v19 + (1 : Int)))).length,.sl 1 b_0x5 0 l21.length,.sl 1 b_0x6 0 p0x0.begins_.length,I n30,I p0x0.next_]),(b_0x1,.mp (p0x0.of_.map (fun e=>(AV.str e.1,(pA b_0x9o) e.2)))),(b_0x9,.pool (araE kE0 b_0x9o bs10 (p0x0.ar0.set n2.toNat ((campaign_course_follow v9 p1x0).2)))),(b_0x2,mE6 p0x0.wave_),(b_0x3,aE0 l12),(b_0x4,aE0 (p0x0.ends_.set v6.toNat (w64 (v19 + (1 : Int))))),(b_0x5,aE0 l21),(b_0x6,aE0 p0x0.begins_)]⟩) ?_ ?_
                        · refine ATodo.cond J (fun hc=>?_) (fun hc=>?_)
                          · exact have h := iteT hc h; tR<|rM J J<|rF J J J<|rL J J (.next .p7) J J<|ARun.qv (q_nilCheck_ptr J) J<|rF J J J<|n_store_ptr J J J J .p0 J J<|rN<|ATodo.stop<|ImpX.lq [0,0,0,0,0,0,0,0] ⟨p1x0.At,h,J⟩ J J
                          · exact have h := iteFb hc h; tK<|ATodo.stop<|ImpX.lq [0,0,0,0,0,0,0,0] ⟨p0x0.stopped_,h,J⟩ J J
                        · rintro σ' ⟨n30, h, rfl⟩
                          unfold campaign_state_mark_j10 at h
                          refine ATodo.nil<|?_
                          obtain rfl := Option.some.inj h
                          exact ImpX.here ⟨_,.nil,_,.cons .p0 (.cons .p0 (.cons .p1 (.cons .p1 (.cons .p1 (.cons .p1 (.cons .p1 (.cons .p0 .nil))))))),⟨b_0x3,b_0x4,b_0x5,b_0x6,bs10,J,J⟩⟩

theorem campaign_state_until_c [GI : GTab] {b_0 : Bk} {b_0x9 : Bk} {b_0x9o : Nat → Bk} {b_0x9s : Nat → Nat → Bk} {b_0x1 : Bk} {b_0x2 : Bk} {b_0x3 : Bk} {b_0x4 : Bk} {b_0x5 : Bk} {b_0x6 : Bk} {p0x0 : Campaign_state} {p1x0 : List MarkS} {p2x0 : Int} {r : Campaign_state} (h : campaign_state_until p0x0 p1x0 p2x0 = some r) : ACall Tryz.prog 53 [.ptr b_0 0,lE4 p1x0,I p2x0] [(b_0,.cells [.rptr [.str p0x0.c_.Key,I p0x0.c_.Target.Major,I p0x0.c_.Target.Minor,I p0x0.c_.Target.Patch,I p0x0.c_.At,lE2 p0x0.c_.Waves,I p0x0.c_.Hours.From,I p0x0.c_.Hours.To,I p0x0.c_.Room],.mref b_0x1,.mref b_0x2,.sl 1 b_0x3 0 p0x0.open_.length,.sl 1 b_0x4 0 p0x0.ends_.length,.sl 1 b_0x5 0 p0x0.fails_.length,.sl 1 b_0x6 0 p0x0.begins_.length,I p0x0.stopped_,I p0x0.next_]),(b_0x1,.mp (p0x0.of_.map (fun e=>(AV.str e.1,(pA b_0x9o) e.2)))),(b_0x2,mE6 p0x0.wave_),(b_0x3,aE0 p0x0.open_),(b_0x4,aE0 p0x0.ends_),(b_0x5,aE0 p0x0.fails_),(b_0x6,aE0 p0x0.begins_),(b_0x9,.pool (araE kE0 b_0x9o b_0x9s p0x0.ar0))] (T5 (fun c_0x3 c_0x4 c_0x5 c_0x6 c_0x9s=>[(b_0,.cells [.rptr [.str p0x0.c_.Key,I p0x0.c_.Target.Major,I p0x0.c_.Target.Minor,I p0x0.c_.Target.Patch,I p0x0.c_.At,lE2 p0x0.c_.Waves,I p0x0.c_.Hours.From,I p0x0.c_.Hours.To,I p0x0.c_.Room],.mref b_0x1,.mref b_0x2,.sl 1 c_0x3 0 r.open_.length,.sl 1 c_0x4 0 r.ends_.length,.sl 1 c_0x5 0 r.fails_.length,.sl 1 c_0x6 0 r.begins_.length,I r.stopped_,I r.next_]),(b_0x1,.mp (r.of_.map (fun e=>(AV.str e.1,(pA b_0x9o) e.2)))),(b_0x2,mE6 r.wave_),(c_0x3,aE0 r.open_),(c_0x4,aE0 r.ends_),(c_0x5,aE0 r.fails_),(c_0x6,aE0 r.begins_),(b_0x9,.pool (araE kE0 b_0x9o c_0x9s r.ar0))]) (fun c_0x3 c_0x4 c_0x5 c_0x6 c_0x9s=>.tup [])) := by
  unfold campaign_state_until at h
  refine ACall.lessH ?_
  refine ACall.bodyN Tryz.func53 J Tryz.ntmps53 Tryz.results53 J J ?_
  refine tS<|tSR<|rA J J<|rN<|ATodo.block<|ATodo.loopI (fun x : (List (Str × Int)) × (List Campaign_course) × (List (Str × Int)) × (List Int) × (List Int) × (List Int) × (List Int) × Int × Int × Int=>campaign_state_until_b1 p0x0 p1x0 p2x0 x.1 x.2.1 x.2.2.1 x.2.2.2.1 x.2.2.2.2.1 x.2.2.2.2.2.1 x.2.2.2.2.2.2.1 x.2.2.2.2.2.2.2.1 x.2.2.2.2.2.2.2.2.1 x.2.2.2.2.2.2.2.2.2) (fun x σ'=>∃ (bs18 : Nat → Nat → Bk) (b20 : Bk) (b22 : Bk) (b24 : Bk) (b26 : Bk),σ' = ⟨57,[(0,.ptr b_0 0),(1,lE4 p1x0),(2,I p2x0),(6,I x.2.2.2.2.2.2.2.2.2)],[(b_0,.cells [.rptr [.str p0x0.c_.Key,I p0x0.c_.Target.Major,I p0x0.c_.Target.Minor,I p0x0.c_.Target.Patch,I p0x0.c_.At,lE2 p0x0.c_.Waves,I p0x0.c_.Hours.From,I p0x0.c_.Hours.To,I p0x0.c_.Room],.mref b_0x1,.mref b_0x2,.sl 1 b20 0 x.2.2.2.1.length,.sl 1 b22 0 x.2.2.2.2.1.length,.sl 1 b24 0 x.2.2.2.2.2.1.length,.sl 1 b26 0 x.2.2.2.2.2.2.1.length,I x.2.2.2.2.2.2.2.1,I x.2.2.2.2.2.2.2.2.1]),(b_0x1,.mp (x.1.map (fun e=>(AV.str e.1,(pA b_0x9o) e.2)))),(b_0x9,.pool (araE kE0 b_0x9o bs18 x.2.1)),(b_0x2,mE6 x.2.2.1),(b20,aE0 x.2.2.2.1),(b22,aE0 x.2.2.2.2.1),(b24,aE0 x.2.2.2.2.2.1),(b26,aE0 x.2.2.2.2.2.2.1)]⟩) h ?_ ?_
  · exact ImpX.lq [0,0,5,0,0,0,0,0] ⟨b_0x9s,b_0x3,b_0x4,b_0x5,b_0x6,J⟩ J J
  · intro x z1 σ' J1 hmk h hJ1 hA1
    obtain ⟨l16, l17, l19, l21, l23, l25, l27, n28, n29, n30⟩ := x
    obtain ⟨bs18, b20, b22, b24, b26, rfl⟩ := hmk
    replace h : campaign_state_until_b1 p0x0 p1x0 p2x0 l16 l17 l19 l21 l23 l25 l27 n28 n29 n30 = some z1 := h
    unfold campaign_state_until_b1 at h
    refine tS<|tS<|ATodo.cut (fun σ'=>∃ (c31 : Bool),campaign_state_until_j1 p0x0 p1x0 p2x0 l16 l17 l19 l21 l23 l25 l27 n28 n29 n30 c31 = some z1 ∧ σ' = ⟨57,[(0,.ptr b_0 0),(1,lE4 p1x0),(2,I p2x0),(6,I n30),(20,.bool c31)],[(b_0,.cells [.rptr [.str p0x0.c_.Key,I p0x0.c_.Target.Major,I p0x0.c_.Target.Minor,I p0x0.c_.Target.Patch,I p0x0.c_.At,lE2 p0x0.c_.Waves,I p0x0.c_.Hours.From,I p0x0.c_.Hours.To,I p0x0.c_.Room],.mref b_0x1,.mref b_0x2,.sl 1 b20 0 l21.length,.sl 1 b22 0 l23.length,.sl 1 b24 0 l25.length,.sl 1 b26 0 l27.length,I n28,I n29]),(b_0x1,.mp (l16.map (fun e=>(AV.str e.1,(pA b_0x9o) e.2)))),(b_0x9,.pool (araE kE0 b_0x9o bs18 l17)),(b_0x2,mE6 l19),(b20,aE0 l21),(b22,aE0 l23),(b24,aE0 l25),(b26,aE0 l27)]⟩) ?_ ?_
    · refine tR<|rM J J<|rM J J<|ARun.qv (t_len J) J<|ARun.qv (q_lss J J) J<|rM J J<|ARun.guard_dt J J J (fun hc=>?_) (fun hc=>?_)
      · exact have h := iteT hc h; rM J J<|rY J J J<|rM J J<|rY J J J<|bndE h fun v32 e1 h=>ARun.qv (t_index J J J e1 J J) J<|rY J J J<|ARun.qv (n_field_rptr J J) J<|rY J J J<|ARun.qv (q_load_rptr J J J) J<|rY J J J<|rM J J<|rY J J J<|ARun.qv (q_leq J J) J<|rT J J J<|rN<|ATodo.stop<|ImpX.lq [0,0,0,0,0,0,0,0] ⟨decide (v32.At ≤ p2x0),h,J⟩ J J
      · exact have h := iteF hc h; rG J J J J<|rG J J J J<|rG J J J J<|rG J J J J<|rG J J J J<|rG J J J J<|rE J J J<|rN<|ATodo.stop<|ImpX.lq [0,0,0,0,0,0,0,0] ⟨false,h,J⟩ J J
    · rintro σ' ⟨c31, h, rfl⟩
      unfold campaign_state_until_j1 at h
      refine ATodo.cond J (fun hc=>?_) (fun hc=>?_)
      · refine have h := iteT hc h; tK<|ATodo.block<|tSR<|rM J J<|rM J J<|bndE h fun v33 e2 h=>ARun.qv (t_index J J J e2 J J) J<|ARun.qv (n_field_rptr J J) J<|ARun.qv (q_load_rptr J J J) J<|rA J J<|rN<|tSR<|rM J J<|rM J J<|ARun.qv (q_subw J J) J<|bndE h fun v34 e3 h=>t_call4 J (campaign_state_begin_c e3) (CoL.refl _) (.cons .p0 (.cons .p3 (.cons .p3 (.cons .p3 (.cons .p3 .nil))))) (fun _ _ _ _=>J) J fun b35 b36 b37 b38=>rN<|tS<|ATodo.block<|ATodo.loopI (fun x : (List (Str × Int)) × (List Campaign_course) × (List (Str × Int)) × (List Int) × (List Int) × (List Int) × (List Int) × Int × Int × Int=>campaign_state_until_b2 p0x0 p1x0 v33 x.1 x.2.1 x.2.2.1 x.2.2.2.1 x.2.2.2.2.1 x.2.2.2.2.2.1 x.2.2.2.2.2.2.1 x.2.2.2.2.2.2.2.1 x.2.2.2.2.2.2.2.2.1 x.2.2.2.2.2.2.2.2.2) (fun x σ'=>∃ (bs56 : Nat → Nat → Bk) (b58 : Bk) (b60 : Bk) (b62 : Bk) (b64 : Bk),σ' = ⟨57,[(0,.ptr b_0 0),(1,lE4 p1x0),(2,I p2x0),(6,I x.2.2.2.2.2.2.2.2.2),(7,I v33.At)],[(b_0,.cells [.rptr [.str p0x0.c_.Key,I p0x0.c_.Target.Major,I p0x0.c_.Target.Minor,I p0x0.c_.Target.Patch,I p0x0.c_.At,lE2 p0x0.c_.Waves,I p0x0.c_.Hours.From,I p0x0.c_.Hours.To,I p0x0.c_.Room],.mref b_0x1,.mref b_0x2,.sl 1 b58 0 x.2.2.2.1.length,.sl 1 b60 0 x.2.2.2.2.1.length,.sl 1 b62 0 x.2.2.2.2.2.1.length,.sl 1 b64 0 x.2.2.2.2.2.2.1.length,I x.2.2.2.2.2.2.2.1,I x.2.2.2.2.2.2.2.2.1]),(b_0x1,.mp (x.1.map (fun e=>(AV.str e.1,(pA b_0x9o) e.2)))),(b_0x9,.pool (araE kE0 b_0x9o bs56 x.2.1)),(b_0x2,mE6 x.2.2.1),(b58,aE0 x.2.2.2.1),(b60,aE0 x.2.2.2.2.1),(b62,aE0 x.2.2.2.2.2.1),(b64,aE0 x.2.2.2.2.2.2.1)]⟩) h ?_ ?_
        · exact ImpX.lq [0,4,4,4,0,0,0,0] ⟨bs18,b35,b36,b37,b38,J⟩ J J
        · intro x z2 σ' J2 hmk h hJ2 hA2
          obtain ⟨l54, l55, l57, l59, l61, l63, l65, n66, n67, n68⟩ := x
          obtain ⟨bs56, b58, b60, b62, b64, rfl⟩ := hmk
          replace h : campaign_state_until_b2 p0x0 p1x0 v33 l54 l55 l57 l59 l61 l63 l65 n66 n67 n68 = some z2 := h
          unfold campaign_state_until_b2 at h
          refine tS<|tS<|ATodo.cut (fun σ'=>∃ (c69 : Bool),campaign_state_until_j2 p0x0 p1x0 v33 l54 l55 l57 l59 l61 l63 l65 n66 n67 n68 c69 = some z2 ∧ σ' = ⟨57,[(0,.ptr b_0 0),(1,lE4 p1x0),(2,I p2x0),(6,I n68),(7,I v33.At),(42,.bool c69)],[(b_0,.cells [.rptr [.str p0x0.c_.Key,I p0x0.c_.Target.Major,I p0x0.c_.Target.Minor,I p0x0.c_.Target.Patch,I p0x0.c_.At,lE2 p0x0.c_.Waves,I p0x0.c_.Hours.From,I p0x0.c_.Hours.To,I p0x0.c_.Room],.mref b_0x1,.mref b_0x2,.sl 1 b58 0 l59.length,.sl 1 b60 0 l61.length,.sl 1 b62 0 l63.length,.sl 1 b64 0 l65.length,I n66,I n67]),(b_0x1,.mp (l54.map (fun e=>(AV.str e.1,(pA b_0x9o) e.2)))),(b_0x9,.pool (araE kE0 b_0x9o bs56 l55)),(b_0x2,mE6 l57),(b58,aE0 l59),(b60,aE0 l61),(b62,aE0 l63),(b64,aE0 l65)]⟩) ?_ ?_
          · refine tR<|rM J J<|rM J J<|ARun.qv (t_len J) J<|ARun.qv (q_lss J J) J<|rM J J<|ARun.guard_dt J J J (fun hc=>?_) (fun hc=>?_)
            · exact have h := iteT hc h; rM J J<|rY J J J<|rM J J<|rY J J J<|bndE h fun v70 e4 h=>ARun.qv (t_index J J J e4 J J) J<|rY J J J<|ARun.qv (n_field_rptr J J) J<|rY J J J<|ARun.qv (q_load_rptr J J J) J<|rY J J J<|rM J J<|rY J J J<|ARun.qv (q_eql J J) J<|rT J J J<|rN<|ATodo.stop<|ImpX.lq [0,0,0,0,0,0,0,0] ⟨decide (v70.At = v33.At),h,J⟩ J J
            · exact have h := iteF hc h; rG J J J J<|rG J J J J<|rG J J J J<|rG J J J J<|rG J J J J<|rG J J J J<|rE J J J<|rN<|ATodo.stop<|ImpX.lq [0,0,0,0,0,0,0,0] ⟨false,h,J⟩ J J
          · rintro σ' ⟨c69, h, rfl⟩
            unfold campaign_state_until_j2 at h
            refine ATodo.cond J (fun hc=>?_) (fun hc=>?_)
            · refine have h := iteT hc h; tK<|tS<|ATodo.block<|tR<|rM J J<|rM J J<|rM J J<|bndE h fun v71 e5 h=>ARun.qv (t_index J J J e5 J J) J<|ARun.qv (q_load_rptr_agg J J J) J<|bndE h fun v72 e6 h=>t_call5 J (campaign_state_mark_c e6) (CoL.refl _) (.cons .p0 (.cons .p0 (.cons .p1 (.cons .p1 (.cons .p1 (.cons .p1 (.cons .p1 (.cons .p0 .nil)))))))) (fun _ _ _ _ _=>J) J fun b73 b74 b75 b76 bs77=>rN<|ATodo.blk<|tR<|rM J J<|ARun.qv (q_addw J J) J<|rA J J<|rN<|ATodo.stop<|?_
              obtain rfl := Option.some.inj h
              exact hJ2 _ _ J<|ImpX.lq [0,0,5,0,0,0,0,0] ⟨bs77,b73,b74,b75,b76,J⟩ J J
            · refine have h := iteFb hc h; ATodo.exit J<|have h := outL h hA2; ?_
              unfold campaign_state_until_k3 at h
              refine tR<|rM J J<|rM J J<|bndE h fun v78 e7 h=>t_call4 J (campaign_state_begin_c e7) (CoL.refl _) (.cons .p0 (.cons .p3 (.cons .p3 (.cons .p3 (.cons .p3 .nil))))) (fun _ _ _ _=>J) J fun b79 b80 b81 b82=>rN<|ATodo.blk<|ATodo.stop<|?_
              obtain rfl := Option.some.inj h
              exact hJ1 _ _ J<|ImpX.lq [0,4,4,4,0,0,0,0] ⟨bs56,b79,b80,b81,b82,J⟩ J J
      · refine have h := iteFb hc h; ATodo.exit J<|have h := outL h hA1; ?_
        unfold campaign_state_until_k4 at h
        refine tR<|rM J J<|rM J J<|bndE h fun v83 e8 h=>t_call4 J (campaign_state_begin_c e8) (CoL.refl _) (.cons .p0 (.cons .p3 (.cons .p3 (.cons .p3 (.cons .p3 .nil))))) (fun _ _ _ _=>J) J fun b84 b85 b86 b87=>rN<|ATodo.nil<|?_
        obtain rfl := Option.some.inj h
        exact ImpX.here ⟨_,.nil,_,.cons .p0 (.cons .p4 (.cons .p5 (.cons .p0 (.cons .p0 (.cons .p0 (.cons .p0 (.cons .p0 .nil))))))),⟨b84,b85,b86,b87,bs18,J,J⟩⟩

theorem campaign_Begins_c [GI : GTab] {p0x0 : Campaign} {p1x0 : List DeviceS} {p2x0 : List MarkS} {p3x0 : Int} {r : (List Int) × Int} (h : campaign_Begins p0x0 p1x0 p2x0 p3x0 = some r) : ACall Tryz.prog 23 [Campaign.av p0x0,lE3 p1x0,lE4 p2x0,I p3x0] [] (T1 (fun d_0=>[(d_0,aE0 r.1)]) (fun d_0=>.tup [.sl 1 d_0 0 r.1.length,I r.2])) := by
  unfold campaign_Begins at h
  refine ACall.lessH ?_
  refine ACall.bodyN Tryz.func23 J Tryz.ntmps23 Tryz.results23 J J ?_
  refine tSR<|n_box J J J J fun b1=>rA J J<|rA J J<|rN<|tS<|tSR<|rM J J<|rM J J<|rM J J<|bndE h fun v2 e1 h=>r_callpB J (campaign_fault_c e1) (.cons (.boxL _ _ _ .p0 (.cons (.co (.refl _)) (.cons (.co (.refl _)) (.cons (.co (.refl _)) (.cons (.co (.refl _)) (.cons (.co (.refl _)) (.cons (.co (.refl _)) (.cons (.co (.refl _)) (.cons (.co (.refl _)) (.cons (.co (.refl _)) .nil)))))))))) (.cons (.co (.refl _)) (.cons (.co (.refl _)) (.cons (.co (.refl _)) .nil)))) J J<|rA J J<|rN<|tSR<|rM J J<|ARun.qv (q_neq J J) J<|rN<|ATodo.cond_d J (fun hc=>?_) (fun hc=>?_)
  · refine have h := iteT hc h; tSR<|rM J J<|rA J J<|rA J J<|rN<|ATodo.ret<|?_
    obtain rfl := Option.some.inj h
    exact ImpX.arr (s := 8) 1 J fun b3=>ImpX.here ⟨_,.cons (.tmp _ _ J) (.cons (.tmp _ _ J) .nil),_,.cons .p0 .nil,⟨b3,J,J⟩⟩
  · refine have h := iteF hc h; tK<|tSR<|rM J J<|ARun.ghost<|ImpX.frzPtrL (ss := [4]) (by simp [lk]) .p0<|ImpX.here<|bndE h fun v4 e2 h=>t_call10 J (campaign_newState_c e2) (CoL.refl _) .nil (fun _ _ _ _ _ _ _ _ _ _=>J) J fun b5 b6 b7 b8 b9 b10 b11 b12 bo13 bs14=>rA J J<|rN<|tSR<|rM J J<|rM J J<|rM J J<|bndE h fun v15 e3 h=>t_call5 J (campaign_state_until_c e3) (CoL.refl _) (.cons .p0 (.cons .p0 (.cons .p0 (.cons .p0 (.cons .p0 (.cons .p0 (.cons .p0 (.cons .p0 .nil)))))))) (fun _ _ _ _ _=>J) J fun b16 b17 b18 b19 bs20=>rN<|tSR<|rM J J<|ARun.qv (q_nilCheck_ptr J) J<|rF J J J<|rL J J .p0 J J<|rA J J<|rA J J<|rN<|ATodo.ret<|?_
    obtain rfl := Option.some.inj h
    exact ImpX.here ⟨_,.cons (.tmp _ _ J) (.cons (.tmp _ _ J) .nil),_,.cons .p6 .nil,⟨b19,J,J⟩⟩

theorem campaign_Stopped_c [GI : GTab] {p0x0 : Campaign} {p1x0 : List DeviceS} {p2x0 : List MarkS} {p3x0 : Int} {r : Int × Int} (h : campaign_Stopped p0x0 p1x0 p2x0 p3x0 = some r) : Pu Tryz.prog 24 [Campaign.av p0x0,lE3 p1x0,lE4 p2x0,I p3x0] (.tup [I r.1,I r.2]) := by
  unfold campaign_Stopped at h
  refine ACall.bodyN Tryz.func24 J Tryz.ntmps24 Tryz.results24 J J ?_
  refine tSR<|n_box J J J J fun b1=>rA J J<|rA J J<|rN<|tS<|tSR<|rM J J<|rM J J<|rM J J<|bndE h fun v2 e1 h=>r_callpB J (campaign_fault_c e1) (.cons (.boxL _ _ _ .p0 (.cons (.co (.refl _)) (.cons (.co (.refl _)) (.cons (.co (.refl _)) (.cons (.co (.refl _)) (.cons (.co (.refl _)) (.cons (.co (.refl _)) (.cons (.co (.refl _)) (.cons (.co (.refl _)) (.cons (.co (.refl _)) .nil)))))))))) (.cons (.co (.refl _)) (.cons (.co (.refl _)) (.cons (.co (.refl _)) .nil)))) J J<|rA J J<|rN<|tSR<|rM J J<|ARun.qv (q_neq J J) J<|rN<|ATodo.cond_d J (fun hc=>?_) (fun hc=>?_)
  · refine have h := iteT hc h; tSR<|rM J J<|rA J J<|rA J J<|rN<|ATodo.ret<|?_
    obtain rfl := Option.some.inj h
    exact ImpX.here ⟨_,.cons (.tmp _ _ J) (.cons (.tmp _ _ J) .nil),J⟩
  · refine have h := iteF hc h; tK<|tSR<|rM J J<|ARun.ghost<|ImpX.frzPtrL (ss := [4]) (by simp [lk]) .p0<|ImpX.here<|bndE h fun v3 e2 h=>t_call10 J (campaign_newState_c e2) (CoL.refl _) .nil (fun _ _ _ _ _ _ _ _ _ _=>J) J fun b4 b5 b6 b7 b8 b9 b10 b11 bo12 bs13=>rA J J<|rN<|tSR<|rM J J<|rM J J<|rM J J<|bndE h fun v14 e3 h=>t_call5 J (campaign_state_until_c e3) (CoL.refl _) (.cons .p0 (.cons .p0 (.cons .p0 (.cons .p0 (.cons .p0 (.cons .p0 (.cons .p0 (.cons .p0 .nil)))))))) (fun _ _ _ _ _=>J) J fun b15 b16 b17 b18 bs19=>rN<|tSR<|rM J J<|ARun.qv (q_nilCheck_ptr J) J<|rF J J J<|rL J J .p0 J J<|rA J J<|rA J J<|rN<|ATodo.ret<|?_
    obtain rfl := Option.some.inj h
    exact ImpX.here ⟨_,.cons (.tmp _ _ J) (.cons (.tmp _ _ J) .nil),J⟩

theorem Q_in_c [GI : GTab] {p0x0 : Int} {p1x0 : Int} {p2x0 : Int} {r : Bool} (h : Q_in p0x0 p1x0 p2x0 = r) : Pu Tryz.prog 59 [I p0x0,I p1x0,I p2x0] (.bool r) := by
  unfold Q_in at h
  refine ACall.bodyN Tryz.func59 J Tryz.ntmps59 Tryz.results59 J J ?_
  refine tSR<|rA J J<|rN<|tS<|ATodo.cut (fun σ'=>∃ (c1 : Bool),Q_in_j1 c1 = r ∧ σ' = ⟨15,[(6,.bool c1)],[]⟩) ?_ ?_
  · refine tR<|rM J J<|rM J J<|ARun.qv (q_leq J J) J<|rM J J<|ARun.guard_dt J J J (fun hc=>?_) (fun hc=>?_)
    · rw [andTd hc] at h
      exact rM J J<|rY J J J<|rM J J<|rY J J J<|ARun.qv (q_leq J J) J<|rT J J J<|rA J J<|rN<|ATodo.stop<|ImpX.lq [] ⟨decide (p0x0 ≤ p2x0),h,J⟩ J J
    · rw [andFd hc] at h
      exact rG J J J J<|rG J J J J<|rE J J J<|rA J J<|rN<|ATodo.stop<|ImpX.lq [] ⟨false,h,J⟩ J J
  · rintro σ' ⟨c1, h, rfl⟩
    unfold Q_in_j1 at h
    refine ATodo.ret<|?_
    obtain rfl := h
    exact ImpX.here ⟨_,.cons (.tmp _ _ J) .nil,J⟩

theorem Q_only_c [GI : GTab] {p0x0 : Str} {p1x0 : Str} {r : Bool} (h : Q_only p0x0 p1x0 = some r) : Pu Tryz.prog 107 [.str p0x0,.str p1x0] (.bool r) := by
  unfold Q_only at h
  refine ACall.bodyN Tryz.func107 J Tryz.ntmps107 Tryz.results107 J J ?_
  refine tSR<|rA J J<|rN<|tS<|tSR<|rM J J<|ARun.qv (q_len_str J) J<|rM J J<|rN<|ATodo.block<|ATodo.loopI (fun x : Int=>Q_only_b1 p0x0 p1x0 x) (fun x σ'=>σ' = ⟨18,[(0,.str p0x0),(1,.str p1x0),(7,I (p0x0.length : Int)),(8,I x)],[]⟩) h ?_ ?_
  · exact ImpX.lq [] J J J
  · intro n2 z1 σ' J1 hmk h hJ1 hA1
    obtain rfl := hmk
    replace h : Q_only_b1 p0x0 p1x0 n2 = some z1 := h
    unfold Q_only_b1 at h
    refine tSR<|ARun.qv (q_lss J J) J<|rN<|tS<|ATodo.cond_d J (fun hc=>?_) (fun hc=>?_)
    · refine have h := iteT hc h; tK<|tS<|ATodo.block<|tSR<|rM J J<|rA J J<|rN<|tSR<|rM J J<|rM J J<|rM J J<|bndE h fun c3 e1 h=>ARun.qv (t_index_str J J e1) J<|r_callp J (strings_IndexByte_c J) (CoL.refl _) J<|ARun.qv (q_lss J J) J<|rN<|ATodo.cond_d J (fun hc=>?_) (fun hc=>?_)
      · refine have h := iteT hc h; tSR<|rA J J<|rN<|ATodo.ret<|have h := outL h hA1; ?_
        obtain rfl := Option.some.inj h
        exact ImpX.here ⟨_,.cons (.tmp _ _ J) .nil,J⟩
      · refine have h := iteF hc h; tK<|ATodo.blk<|tR<|ARun.qv (q_addw J J) J<|rM J J<|rN<|ATodo.stop<|?_
        obtain rfl := Option.some.inj h
        exact hJ1 _ _ J<|ImpX.lq [] J J J
    · refine have h := iteF hc h; ATodo.exit J<|have h := outL h hA1; tSR<|rA J J<|rN<|ATodo.ret<|?_
      obtain rfl := Option.some.inj h
      exact ImpX.here ⟨_,.cons (.tmp _ _ J) .nil,J⟩

theorem Q_Key_c [GI : GTab] {p0x0 : Str} {r : Bool} (h : Q_Key p0x0 = some r) : Pu Tryz.prog 56 [.str p0x0] (.bool r) := by
  unfold Q_Key at h
  refine ACall.bodyN Tryz.func56 J Tryz.ntmps56 Tryz.results56 J J ?_
  refine tSR<|rA J J<|rN<|tS<|ATodo.cut (fun σ'=>∃ (c1 : Bool),Q_Key_j1 c1 = some r ∧ σ' = ⟨15,[(2,.bool c1)],[]⟩) ?_ ?_
  · refine tR<|rM J J<|ARun.qv (q_len_str J) J<|r_callp J (Q_in_c J) (CoL.refl _) J<|rM J J<|ARun.guard J J J (fun hc=>?_) (fun hc=>?_)
    · refine have h := iteT hc h; rM J J<|rY J J J<|bndE h fun l2 e1 h=>ARun.qv (t_slice_str J .none (.some _ _ _ J) J J e1) J<|rY J J J<|bndE h fun v3 e2 h=>r_callp J (Q_only_c e2) (CoL.refl _) J<|rT J J J<|rM J J<|ARun.guard J J J (fun hc=>?_) (fun hc=>?_)
      · exact have h := iteT hc h; rM J J<|rY J J J<|bndE h fun v4 e3 h=>r_callp J (Q_only_c e3) (CoL.refl _) J<|rT J J J<|rA J J<|rN<|ATodo.stop<|ImpX.lq [] ⟨v4,h,J⟩ J J
      · exact have h := iteFb hc h; rG J J J J<|rE J J J<|rA J J<|rN<|ATodo.stop<|ImpX.lq [] ⟨false,h,J⟩ J J
    · exact have h := iteFb hc h; rG J J J J<|rG J J J J<|rE J J J<|rM J J<|rG J J J J<|rG J J J J<|rE J J J<|rA J J<|rN<|ATodo.stop<|ImpX.lq [] ⟨false,h,J⟩ J J
  · rintro σ' ⟨c1, h, rfl⟩
    unfold Q_Key_j1 at h
    refine ATodo.ret<|?_
    obtain rfl := Option.some.inj h
    exact ImpX.here ⟨_,.cons (.tmp _ _ J) .nil,J⟩

theorem Q_versionFault_c [GI : GTab] {p0x0 : Version} {r : Int} (h : Q_versionFault p0x0 = r) : Pu Tryz.prog 57 [Version.av p0x0] (I r) := by
  unfold Q_versionFault at h
  refine ACall.bodyN Tryz.func57 J Tryz.ntmps57 Tryz.results57 J J ?_
  refine tSR<|n_box J J J J fun b1=>rA J J<|rN<|tS<|tS<|ATodo.cut (fun σ'=>∃ (c2 : Bool),Q_versionFault_j1 c2 = r ∧ σ' = ⟨19,[(18,.bool c2)],[]⟩) ?_ ?_
  · refine tR<|rF J J J<|rL J J .p0 J J<|r_callp J (Q_in_c J) (CoL.refl _) J<|ARun.qv (q_not J) J<|rM J J<|ARun.guard J J J (fun hc=>?_) (fun hc=>?_)
    · rw [orFb hc] at h
      refine rF J J J<|rY J J J<|rL J J .p0 J J<|rY J J J<|r_callp J (Q_in_c J) (CoL.refl _) J<|rY J J J<|ARun.qv (q_not J) J<|rE J J J<|rM J J<|ARun.guard J J J (fun hc=>?_) (fun hc=>?_)
      · rw [orFb hc] at h
        exact rF J J J<|rY J J J<|rL J J .p0 J J<|rY J J J<|r_callp J (Q_in_c J) (CoL.refl _) J<|rY J J J<|ARun.qv (q_not J) J<|rE J J J<|rN<|ATodo.stop<|ImpX.lq [] ⟨!(Q_in p0x0.Patch (0 : Int) (9999 : Int)),h,J⟩ J J
      · rw [orTb hc] at h
        exact rG J J J J<|rG J J J J<|rG J J J J<|rT J J J<|rN<|ATodo.stop<|ImpX.lq [] ⟨true,h,J⟩ J J
    · rw [orTb hc] at h
      exact rG J J J J<|rG J J J J<|rG J J J J<|rT J J J<|rM J J<|rG J J J J<|rG J J J J<|rG J J J J<|rG J J J J<|rT J J J<|rN<|ATodo.stop<|ImpX.lq [] ⟨true,h,J⟩ J J
  · rintro σ' ⟨c2, h, rfl⟩
    unfold Q_versionFault_j1 at h
    refine ATodo.cond J (fun hc=>?_) (fun hc=>?_)
    · refine have h := iteT hc h; tSR<|rA J J<|rN<|ATodo.ret<|?_
      obtain rfl := h
      exact ImpX.here ⟨_,.cons (.tmp _ _ J) .nil,J⟩
    · refine have h := iteFb hc h; tK<|tSR<|rA J J<|rN<|ATodo.ret<|?_
      obtain rfl := h
      exact ImpX.here ⟨_,.cons (.tmp _ _ J) .nil,J⟩

theorem Q_Moment_c [GI : GTab] {p0x0 : Int} {r : Bool} (h : Q_Moment p0x0 = r) : Pu Tryz.prog 58 [I p0x0] (.bool r) := by
  unfold Q_Moment at h
  refine ACall.bodyN Tryz.func58 J Tryz.ntmps58 Tryz.results58 J J ?_
  refine tSR<|rA J J<|rN<|tSR<|rM J J<|r_callp J (Q_in_c J) (CoL.refl _) J<|rA J J<|rN<|ATodo.ret<|?_
  obtain rfl := h
  exact ImpX.here ⟨_,.cons (.tmp _ _ J) .nil,J⟩

theorem Q_CampaignFault_c [GI : GTab] {p0x0 : Campaign} {r : Int} (h : Q_CampaignFault p0x0 = some r) : Pu Tryz.prog 14 [Campaign.av p0x0] (I r) := by
  unfold Q_CampaignFault at h
  refine ACall.bodyN Tryz.func14 J Tryz.ntmps14 Tryz.results14 J J ?_
  refine tSR<|n_box J J J J fun b1=>rA J J<|rN<|tS<|tSR<|rF J J J<|rL J J .p0 J J<|bndE h fun v2 e1 h=>r_callp J (Q_Key_c e1) (CoL.refl _) J<|ARun.qv (q_not J) J<|rN<|ATodo.cond J (fun hc=>?_) (fun hc=>?_)
  · refine have h := iteT hc h; tSR<|rA J J<|rN<|ATodo.ret<|?_
    obtain rfl := Option.some.inj h
    exact ImpX.here ⟨_,.cons (.tmp _ _ J) .nil,J⟩
  · refine have h := iteFb hc h; tK<|tS<|tSR<|rF J J J<|ARun.qv (n_load_ptr_part J J .p0 J J) J<|r_callp J (Q_versionFault_c J) (CoL.refl _) J<|rA J J<|rN<|tSR<|rM J J<|ARun.qv (q_neq J J) J<|rN<|ATodo.cond_d J (fun hc=>?_) (fun hc=>?_)
    · refine have h := iteT hc h; tSR<|rM J J<|rA J J<|rN<|ATodo.ret<|?_
      obtain rfl := Option.some.inj h
      exact ImpX.here ⟨_,.cons (.tmp _ _ J) .nil,J⟩
    · refine have h := iteF hc h; tK<|tS<|ATodo.block<|tSR<|rF J J J<|rL J J .p0 J J<|r_callp J (Q_Moment_c J) (CoL.refl _) J<|ARun.qv (q_not J) J<|rA J J<|rN<|ATodo.cond J (fun hc=>?_) (fun hc=>?_)
      · refine have h := iteT hc h; tSR<|rA J J<|rN<|ATodo.ret<|?_
        obtain rfl := Option.some.inj h
        exact ImpX.here ⟨_,.cons (.tmp _ _ J) .nil,J⟩
      · refine have h := iteFb hc h; tSR<|rF J J J<|rL J J .p0 J J<|ARun.qv (t_len J) J<|ARun.qv (q_eql J J) J<|rA J J<|rN<|ATodo.cond_d J (fun hc=>?_) (fun hc=>?_)
        · refine have h := iteT hc h; tSR<|rA J J<|rN<|ATodo.ret<|?_
          obtain rfl := Option.some.inj h
          exact ImpX.here ⟨_,.cons (.tmp _ _ J) .nil,J⟩
        · refine have h := iteF hc h; tSR<|rF J J J<|rL J J .p0 J J<|ARun.qv (t_len J) J<|ARun.qv (q_gtr J J) J<|rA J J<|rN<|ATodo.cond_d J (fun hc=>?_) (fun hc=>?_)
          · refine have h := iteT hc h; tSR<|rA J J<|rN<|ATodo.ret<|?_
            obtain rfl := Option.some.inj h
            exact ImpX.here ⟨_,.cons (.tmp _ _ J) .nil,J⟩
          · refine have h := iteF hc h; tK<|ATodo.blk<|tSR<|rA J J<|rN<|tS<|tSR<|rF J J J<|rL J J .p0 J J<|ARun.qv (t_len J) J<|rM J J<|rN<|ATodo.block<|ATodo.loopI (fun x : Int × Int=>Q_CampaignFault_b1 p0x0 x.1 x.2) (fun x σ'=>σ' = ⟨88,[(1,.ptr b1 0),(4,I x.1),(33,lE2 p0x0.Waves),(34,I (p0x0.Waves.length : Int)),(35,I x.2)],[(b1,.cells (cE1 p0x0))]⟩) h ?_ ?_
            · exact ImpX.lq [0] J J J
            · intro x z1 σ' J1 hmk h hJ1 hA1
              obtain ⟨n5, n6⟩ := x
              obtain rfl := hmk
              replace h : Q_CampaignFault_b1 p0x0 n5 n6 = some z1 := h
              unfold Q_CampaignFault_b1 at h
              refine tSR<|ARun.qv (q_lss J J) J<|rN<|tS<|ATodo.cond_d J (fun hc=>?_) (fun hc=>?_)
              · refine have h := iteT hc h; tK<|tS<|ATodo.block<|tSR<|bndE h fun v7 e2 h=>ARun.qv (t_index J J J e2 J J) J<|ARun.qv (q_load_rptr_agg J J J) J<|n_alloc J J J J fun b8=>n_store_ptr J J J J .p0 J J<|rN<|tS<|tS<|ATodo.cut (fun σ'=>∃ (c9 : Bool),Q_CampaignFault_j1 n5 n6 v7 c9 = some z1 ∧ σ' = ⟨88,[(1,.ptr b1 0),(4,I n5),(6,.ptr b8 0),(33,lE2 p0x0.Waves),(34,I (p0x0.Waves.length : Int)),(35,I n6),(60,.bool c9)],[(b1,.cells (cE1 p0x0)),(b8,.cells (cE2 v7))]⟩) ?_ ?_
                · refine tR<|rF J J J<|rL J J .p0 J J<|r_callp J (Q_in_c J) (CoL.refl _) J<|ARun.qv (q_not J) J<|rM J J<|ARun.guard J J J (fun hc=>?_) (fun hc=>?_)
                  · rw [orFb hc] at h
                    refine rF J J J<|rY J J J<|rL J J .p0 J J<|rY J J J<|r_callp J (Q_in_c J) (CoL.refl _) J<|rY J J J<|ARun.qv (q_not J) J<|rE J J J<|rM J J<|ARun.guard J J J (fun hc=>?_) (fun hc=>?_)
                    · rw [orFb hc] at h
                      refine rF J J J<|rY J J J<|rL J J .p0 J J<|rY J J J<|r_callp J (Q_in_c J) (CoL.refl _) J<|rY J J J<|ARun.qv (q_not J) J<|rE J J J<|rM J J<|ARun.guard J J J (fun hc=>?_) (fun hc=>?_)
                      · rw [orFb hc] at h
                        exact rF J J J<|rY J J J<|rL J J .p0 J J<|rY J J J<|r_callp J (Q_in_c J) (CoL.refl _) J<|rY J J J<|ARun.qv (q_not J) J<|rE J J J<|rN<|ATodo.stop<|ImpX.lq [1,0] ⟨!(Q_in v7.Fails (0 : Int) (1000 : Int)),h,J⟩ J J
                      · rw [orTb hc] at h
                        exact rG J J J J<|rG J J J J<|rG J J J J<|rT J J J<|rN<|ATodo.stop<|ImpX.lq [1,0] ⟨true,h,J⟩ J J
                    · rw [orTb hc] at h
                      exact rG J J J J<|rG J J J J<|rG J J J J<|rT J J J<|rM J J<|rG J J J J<|rG J J J J<|rG J J J J<|rG J J J J<|rT J J J<|rN<|ATodo.stop<|ImpX.lq [1,0] ⟨true,h,J⟩ J J
                  · rw [orTb hc] at h
                    exact rG J J J J<|rG J J J J<|rG J J J J<|rT J J J<|rM J J<|rG J J J J<|rG J J J J<|rG J J J J<|rG J J J J<|rT J J J<|rM J J<|rG J J J J<|rG J J J J<|rG J J J J<|rG J J J J<|rT J J J<|rN<|ATodo.stop<|ImpX.lq [1,0] ⟨true,h,J⟩ J J
                · rintro σ' ⟨c9, h, rfl⟩
                  unfold Q_CampaignFault_j1 at h
                  refine ATodo.cond J (fun hc=>?_) (fun hc=>?_)
                  · refine have h := iteT hc h; tSR<|rA J J<|rN<|ATodo.ret<|have h := outL h hA1; ?_
                    obtain rfl := Option.some.inj h
                    exact ImpX.here ⟨_,.cons (.tmp _ _ J) .nil,J⟩
                  · refine have h := iteFb hc h; tK<|tR<|rM J J<|rF J J J<|rL J J .p1 J J<|ARun.qv (q_addw J J) J<|rA J J<|rN<|ATodo.blk<|tR<|ARun.qv (q_addw J J) J<|rM J J<|rN<|ATodo.stop<|?_
                    obtain rfl := Option.some.inj h
                    exact hJ1 _ _ J<|ImpX.lq [0] J J J
              · refine have h := iteF hc h; ATodo.exit J<|have h := outL h hA1; ?_
                unfold Q_CampaignFault_k3 at h
                refine tS<|ATodo.block<|tSR<|rM J J<|ARun.qv (q_neq J J) J<|rA J J<|rN<|ATodo.cond_d J (fun hc=>?_) (fun hc=>?_)
                · refine have h := iteT hc h; tSR<|rA J J<|rN<|ATodo.ret<|?_
                  obtain rfl := Option.some.inj h
                  exact ImpX.here ⟨_,.cons (.tmp _ _ J) .nil,J⟩
                · refine have h := iteF hc h; tS<|ATodo.cut (fun σ'=>∃ (c10 : Bool),Q_CampaignFault_j2 c10 = some r ∧ σ' = ⟨88,[(69,.bool c10)],[]⟩) ?_ ?_
                  · refine tR<|rF J J J<|rF J J J<|rL J J .p0 J J<|r_callp J (Q_in_c J) (CoL.refl _) J<|ARun.qv (q_not J) J<|rM J J<|ARun.guard J J J (fun hc=>?_) (fun hc=>?_)
                    · rw [orFb hc] at h
                      refine rF J J J<|rY J J J<|rF J J J<|rY J J J<|rL J J .p0 J J<|rY J J J<|r_callp J (Q_in_c J) (CoL.refl _) J<|rY J J J<|ARun.qv (q_not J) J<|rE J J J<|rM J J<|ARun.guard J J J (fun hc=>?_) (fun hc=>?_)
                      · rw [orFb hc] at h
                        exact rF J J J<|rY J J J<|rL J J .p0 J J<|rY J J J<|r_callp J (Q_in_c J) (CoL.refl _) J<|rY J J J<|ARun.qv (q_not J) J<|rE J J J<|rA J J<|rN<|ATodo.stop<|ImpX.lq [] ⟨!(Q_in p0x0.Room (1 : Int) (500 : Int)),h,J⟩ J J
                      · rw [orTb hc] at h
                        exact rG J J J J<|rG J J J J<|rG J J J J<|rT J J J<|rA J J<|rN<|ATodo.stop<|ImpX.lq [] ⟨true,h,J⟩ J J
                    · rw [orTb hc] at h
                      exact rG J J J J<|rG J J J J<|rG J J J J<|rG J J J J<|rT J J J<|rM J J<|rG J J J J<|rG J J J J<|rG J J J J<|rG J J J J<|rT J J J<|rA J J<|rN<|ATodo.stop<|ImpX.lq [] ⟨true,h,J⟩ J J
                  · rintro σ' ⟨c10, h, rfl⟩
                    unfold Q_CampaignFault_j2 at h
                    refine ATodo.cond J (fun hc=>?_) (fun hc=>?_)
                    · refine have h := iteT hc h; tSR<|rA J J<|rN<|ATodo.ret<|?_
                      obtain rfl := Option.some.inj h
                      exact ImpX.here ⟨_,.cons (.tmp _ _ J) .nil,J⟩
                    · refine have h := iteFb hc h; tK<|ATodo.blk<|tSR<|rA J J<|rN<|ATodo.ret<|?_
                      obtain rfl := Option.some.inj h
                      exact ImpX.here ⟨_,.cons (.tmp _ _ J) .nil,J⟩

theorem Q_FleetFault_c [GI : GTab] {p0x0 : List DeviceS} {r : Int} (h : Q_FleetFault p0x0 = some r) : Pu Tryz.prog 15 [lE3 p0x0] (I r) := by
  unfold Q_FleetFault at h
  refine ACall.bodyN Tryz.func15 J Tryz.ntmps15 Tryz.results15 J J ?_
  refine tSR<|rA J J<|rN<|tS<|tSR<|rM J J<|ARun.qv (t_len J) J<|ARun.qv (q_gtr J J) J<|rN<|ATodo.cond_d J (fun hc=>?_) (fun hc=>?_)
  · refine have h := iteT hc h; tSR<|rA J J<|rN<|ATodo.ret<|?_
    obtain rfl := Option.some.inj h
    exact ImpX.here ⟨_,.cons (.tmp _ _ J) .nil,J⟩
  · refine have h := iteF hc h; tK<|tSR<|rA J J<|rN<|tS<|tSR<|rM J J<|ARun.qv (t_len J) J<|rM J J<|rN<|ATodo.block<|ATodo.loopI (fun x : Str × Int=>Q_FleetFault_b1 p0x0 x.1 x.2) (fun x σ'=>σ' = ⟨51,[(3,.str x.1),(10,lE3 p0x0),(11,I (p0x0.length : Int)),(12,I x.2)],[]⟩) h ?_ ?_
    · exact ImpX.lq [] J J J
    · intro x z1 σ' J1 hmk h hJ1 hA1
      obtain ⟨q3, n4⟩ := x
      obtain rfl := hmk
      replace h : Q_FleetFault_b1 p0x0 q3 n4 = some z1 := h
      unfold Q_FleetFault_b1 at h
      refine tSR<|ARun.qv (q_lss J J) J<|rN<|tS<|ATodo.cond_d J (fun hc=>?_) (fun hc=>?_)
      · refine have h := iteT hc h; tK<|tS<|ATodo.block<|tSR<|bndE h fun v5 e1 h=>ARun.qv (t_index J J J e1 J J) J<|ARun.qv (q_load_rptr_agg J J J) J<|n_alloc J J J J fun b6=>n_store_ptr J J J J .p0 J J<|rN<|tS<|ATodo.block<|tS<|ATodo.cut (fun σ'=>∃ (c7 : Bool),Q_FleetFault_j1 q3 n4 v5 c7 = some z1 ∧ σ' = ⟨51,[(3,.str q3),(5,.ptr b6 0),(10,lE3 p0x0),(11,I (p0x0.length : Int)),(12,I n4),(16,.bool c7)],[(b6,.cells (cE3 v5))]⟩) ?_ ?_
        · refine tR<|rF J J J<|rL J J .p0 J J<|bndE h fun v8 e2 h=>r_callp J (Q_Key_c e2) (CoL.refl _) J<|ARun.qv (q_not J) J<|rM J J<|ARun.guard J J J (fun hc=>?_) (fun hc=>?_)
          · refine have h := iteFb hc h; rF J J J<|rY J J J<|rL J J .p0 J J<|rY J J J<|bndE h fun v9 e3 h=>r_callp J (Q_Key_c e3) (CoL.refl _) J<|rY J J J<|ARun.qv (q_not J) J<|rE J J J<|rM J J<|ARun.guard J J J (fun hc=>?_) (fun hc=>?_)
            · exact have h := iteFb hc h; rF J J J<|rY J J J<|rL J J .p0 J J<|rY J J J<|bndE h fun v10 e4 h=>r_callp J (Q_Key_c e4) (CoL.refl _) J<|rY J J J<|ARun.qv (q_not J) J<|rE J J J<|rA J J<|rN<|ATodo.stop<|ImpX.lq [0] ⟨!v10,h,J⟩ J J
            · exact have h := iteT hc h; rG J J J J<|rG J J J J<|rG J J J J<|rT J J J<|rA J J<|rN<|ATodo.stop<|ImpX.lq [0] ⟨true,h,J⟩ J J
          · exact have h := iteT hc h; rG J J J J<|rG J J J J<|rG J J J J<|rT J J J<|rM J J<|rG J J J J<|rG J J J J<|rG J J J J<|rG J J J J<|rT J J J<|rA J J<|rN<|ATodo.stop<|ImpX.lq [0] ⟨true,h,J⟩ J J
        · rintro σ' ⟨c7, h, rfl⟩
          unfold Q_FleetFault_j1 at h
          refine ATodo.cond J (fun hc=>?_) (fun hc=>?_)
          · refine have h := iteT hc h; tSR<|rA J J<|rN<|ATodo.ret<|have h := outL h hA1; ?_
            obtain rfl := Option.some.inj h
            exact ImpX.here ⟨_,.cons (.tmp _ _ J) .nil,J⟩
          · refine have h := iteFb hc h; tSR<|rF J J J<|rL J J .p0 J J<|rM J J<|ARun.qv (t_sleq J J) J<|rA J J<|rN<|ATodo.cond J (fun hc=>?_) (fun hc=>?_)
            · refine have h := iteT hc h; tSR<|rA J J<|rN<|ATodo.ret<|have h := outL h hA1; ?_
              obtain rfl := Option.some.inj h
              exact ImpX.here ⟨_,.cons (.tmp _ _ J) .nil,J⟩
            · refine have h := iteFb hc h; tK<|ATodo.blk<|tSR<|rF J J J<|rL J J .p0 J J<|rA J J<|rN<|tS<|tSR<|rF J J J<|ARun.qv (n_load_ptr_part J J .p0 J J) J<|r_callp J (Q_versionFault_c J) (CoL.refl _) J<|rA J J<|rN<|tSR<|rM J J<|ARun.qv (q_neq J J) J<|rN<|ATodo.cond_d J (fun hc=>?_) (fun hc=>?_)
              · refine have h := iteT hc h; tSR<|rM J J<|rA J J<|rN<|ATodo.ret<|have h := outL h hA1; ?_
                obtain rfl := Option.some.inj h
                exact ImpX.here ⟨_,.cons (.tmp _ _ J) .nil,J⟩
              · refine have h := iteF hc h; tK<|tSR<|rF J J J<|rL J J .p0 J J<|ARun.qv (t_len J) J<|ARun.qv (q_gtr J J) J<|rN<|ATodo.cond_d J (fun hc=>?_) (fun hc=>?_)
                · refine have h := iteT hc h; tSR<|rA J J<|rN<|ATodo.ret<|have h := outL h hA1; ?_
                  obtain rfl := Option.some.inj h
                  exact ImpX.here ⟨_,.cons (.tmp _ _ J) .nil,J⟩
                · refine have h := iteF hc h; tK<|ATodo.blk<|tR<|ARun.qv (q_addw J J) J<|rM J J<|rN<|ATodo.stop<|?_
                  obtain rfl := Option.some.inj h
                  exact hJ1 _ _ J<|ImpX.lq [] J J J
      · refine have h := iteF hc h; ATodo.exit J<|have h := outL h hA1; tSR<|rA J J<|rN<|ATodo.ret<|?_
        obtain rfl := Option.some.inj h
        exact ImpX.here ⟨_,.cons (.tmp _ _ J) .nil,J⟩

theorem Q_MarksFault_c [GI : GTab] {p0x0 : List MarkS} {r : Int} (h : Q_MarksFault p0x0 = some r) : Pu Tryz.prog 16 [lE4 p0x0] (I r) := by
  unfold Q_MarksFault at h
  refine ACall.bodyN Tryz.func16 J Tryz.ntmps16 Tryz.results16 J J ?_
  refine tSR<|rA J J<|rN<|tS<|tSR<|rM J J<|ARun.qv (t_len J) J<|ARun.qv (q_gtr J J) J<|rN<|ATodo.cond_d J (fun hc=>?_) (fun hc=>?_)
  · refine have h := iteT hc h; tSR<|rA J J<|rN<|ATodo.ret<|?_
    obtain rfl := Option.some.inj h
    exact ImpX.here ⟨_,.cons (.tmp _ _ J) .nil,J⟩
  · refine have h := iteF hc h; tK<|tS<|tSR<|rM J J<|ARun.qv (t_len J) J<|rM J J<|rN<|ATodo.block<|ATodo.loopI (fun x : Int=>Q_MarksFault_b1 p0x0 x) (fun x σ'=>σ' = ⟨50,[(0,lE4 p0x0),(9,lE4 p0x0),(10,I (p0x0.length : Int)),(11,I x)],[]⟩) h ?_ ?_
    · exact ImpX.lq [] J J J
    · intro n2 z1 σ' J1 hmk h hJ1 hA1
      obtain rfl := hmk
      replace h : Q_MarksFault_b1 p0x0 n2 = some z1 := h
      unfold Q_MarksFault_b1 at h
      refine tSR<|ARun.qv (q_lss J J) J<|rN<|tS<|ATodo.cond_d J (fun hc=>?_) (fun hc=>?_)
      · refine have h := iteT hc h; tK<|tS<|ATodo.block<|tSR<|rM J J<|bndE h fun v3 e1 h=>ARun.qv (t_index J J J e1 J J) J<|ARun.qv (q_load_rptr_agg J J J) J<|n_alloc J J J J fun b4=>rA J J<|n_store_ptr J J J J .p0 J J<|rN<|tS<|ATodo.block<|tSR<|rF J J J<|rL J J .p0 J J<|r_callp J (Q_Moment_c J) (CoL.refl _) J<|ARun.qv (q_not J) J<|rA J J<|rN<|ATodo.cond J (fun hc=>?_) (fun hc=>?_)
        · refine have h := iteT hc h; tSR<|rA J J<|rN<|ATodo.ret<|have h := outL h hA1; ?_
          obtain rfl := Option.some.inj h
          exact ImpX.here ⟨_,.cons (.tmp _ _ J) .nil,J⟩
        · refine have h := iteFb hc h; tSR<|rF J J J<|rL J J .p0 J J<|bndE h fun v5 e2 h=>r_callp J (Q_Key_c e2) (CoL.refl _) J<|ARun.qv (q_not J) J<|rA J J<|rN<|ATodo.cond J (fun hc=>?_) (fun hc=>?_)
          · refine have h := iteT hc h; tSR<|rA J J<|rN<|ATodo.ret<|have h := outL h hA1; ?_
            obtain rfl := Option.some.inj h
            exact ImpX.here ⟨_,.cons (.tmp _ _ J) .nil,J⟩
          · refine have h := iteFb hc h; tSR<|rF J J J<|rL J J .p0 J J<|r_callp J (Q_in_c J) (CoL.refl _) J<|ARun.qv (q_not J) J<|rA J J<|rN<|ATodo.cond J (fun hc=>?_) (fun hc=>?_)
            · refine have h := iteT hc h; tSR<|rA J J<|rN<|ATodo.ret<|have h := outL h hA1; ?_
              obtain rfl := Option.some.inj h
              exact ImpX.here ⟨_,.cons (.tmp _ _ J) .nil,J⟩
            · refine have h := iteFb hc h; tK<|ATodo.blk<|tS<|tSR<|rF J J J<|ARun.qv (n_load_ptr_part J J .p0 J J) J<|r_callp J (Q_versionFault_c J) (CoL.refl _) J<|rA J J<|rN<|tSR<|rM J J<|ARun.qv (q_neq J J) J<|rN<|ATodo.cond_d J (fun hc=>?_) (fun hc=>?_)
              · refine have h := iteT hc h; tSR<|rM J J<|rA J J<|rN<|ATodo.ret<|have h := outL h hA1; ?_
                obtain rfl := Option.some.inj h
                exact ImpX.here ⟨_,.cons (.tmp _ _ J) .nil,J⟩
              · refine have h := iteF hc h; tK<|tS<|ATodo.cut (fun σ'=>∃ (c6 : Bool),Q_MarksFault_j1 n2 c6 = some z1 ∧ σ' = ⟨50,[(0,lE4 p0x0),(9,lE4 p0x0),(10,I (p0x0.length : Int)),(11,I n2),(48,.bool c6)],[]⟩) ?_ ?_
                · refine ATodo.regionM (id := 15) (A := [0,1,3,7,7,23,63,127,7,511,1023,2047]) 12 mixed J (by kernel_rfl) (by kernel_rfl)<|AM.qv (q_move J) J<|AM.qv (q_gtr J J) J<|AM.qv (q_move J) J<|AM.guard_dt J J J (fun hc=>?_) (fun hc=>?_)
                  · exact have h := iteT hc h; AM.qv (q_move J) J<|AM.guard_yes J J J<|AM.qv (q_move J) J<|AM.guard_yes J J J<|AM.qv (q_subw J J) J<|AM.guard_yes J J J<|bndE h fun v7 e3 h=>AM.qv (t_index J J J e3 J J) J<|AM.guard_yes J J J<|AM.qv (q_load_rptr_agg J J J) J<|AM.guard_yes J J J<|AM.qv (q_load_ptr_all J J .p0 J) J<|AM.guard_yes J J J<|AM.callp J (Q_MarkOrder_c J) (CoL.refl _) J<|AM.guard_yes J J J<|AM.qv (q_geq J J) J<|AM.qv (q_pick_t J J) J<|AM.nil<|rN<|ATodo.stop<|ImpX.lq [] ⟨decide ((0 : Int) ≤ (Q_MarkOrder v7 v3)),h,J⟩ J J
                  · exact have h := iteF hc h; AM.guard_no J J J J<|AM.guard_no J J J J<|AM.guard_no J J J J<|AM.guard_no J J J J<|AM.guard_no J J J J<|AM.guard_no J J J J<|AM.guard_no J J J J<|AM.qv (q_pick_f J J) J<|AM.nil<|rN<|ATodo.stop<|ImpX.lq [] ⟨false,h,J⟩ J J
                · rintro σ' ⟨c6, h, rfl⟩
                  unfold Q_MarksFault_j1 at h
                  refine ATodo.cond J (fun hc=>?_) (fun hc=>?_)
                  · refine have h := iteT hc h; tSR<|rA J J<|rN<|ATodo.ret<|have h := outL h hA1; ?_
                    obtain rfl := Option.some.inj h
                    exact ImpX.here ⟨_,.cons (.tmp _ _ J) .nil,J⟩
                  · refine have h := iteFb hc h; tK<|ATodo.blk<|tR<|ARun.qv (q_addw J J) J<|rM J J<|rN<|ATodo.stop<|?_
                    obtain rfl := Option.some.inj h
                    exact hJ1 _ _ J<|ImpX.lq [] J J J
      · refine have h := iteF hc h; ATodo.exit J<|have h := outL h hA1; tSR<|rA J J<|rN<|ATodo.ret<|?_
        obtain rfl := Option.some.inj h
        exact ImpX.here ⟨_,.cons (.tmp _ _ J) .nil,J⟩

theorem L_when_c [GI : GTab] {p0x0 : Bool} {p1x0 : Int} {r : Int} (h : L_when p0x0 p1x0 = r) : Pu Tryz.prog 19 [.bool p0x0,I p1x0] (I r) := by
  unfold L_when at h
  refine ACall.bodyN Tryz.func19 J Tryz.ntmps19 Tryz.results19 J J ?_
  refine tSR<|rA J J<|rN<|tS<|tSR<|rM J J<|rN<|ATodo.cond J (fun hc=>?_) (fun hc=>?_)
  · refine have h := iteT hc h; tSR<|rM J J<|rA J J<|rN<|ATodo.ret<|?_
    obtain rfl := h
    exact ImpX.here ⟨_,.cons (.tmp _ _ J) .nil,J⟩
  · refine have h := iteFb hc h; tK<|tSR<|rA J J<|rN<|ATodo.ret<|?_
    obtain rfl := h
    exact ImpX.here ⟨_,.cons (.tmp _ _ J) .nil,J⟩

theorem L_momentFault_c [GI : GTab] {p0x0 : Int} {r : Int} (h : L_momentFault p0x0 = r) : Pu Tryz.prog 17 [I p0x0] (I r) := by
  unfold L_momentFault at h
  refine ACall.bodyN Tryz.func17 J Tryz.ntmps17 Tryz.results17 J J ?_
  refine tSR<|rA J J<|rN<|tSR<|rM J J<|r_callp J (Q_Moment_c J) (CoL.refl _) J<|ARun.qv (q_not J) J<|r_callp J (L_when_c J) (CoL.refl _) J<|rA J J<|rN<|ATodo.ret<|?_
  obtain rfl := h
  exact ImpX.here ⟨_,.cons (.tmp _ _ J) .nil,J⟩

theorem L_errs_c [GI : GTab] {p0x0 : List Int} {r : Int} (h : L_errs p0x0 = some r) : Pu Tryz.prog 13 [lE0 p0x0] (I r) := by
  unfold L_errs at h
  refine ACall.bodyN Tryz.func13 J Tryz.ntmps13 Tryz.results13 J J ?_
  refine tSR<|rA J J<|rN<|tS<|tSR<|rM J J<|ARun.qv (t_len J) J<|rM J J<|rN<|ATodo.block<|ATodo.loopI (fun x : Int=>L_errs_b1 p0x0 x) (fun x σ'=>σ' = ⟨15,[(5,lE0 p0x0),(6,I (p0x0.length : Int)),(7,I x)],[]⟩) h ?_ ?_
  · exact ImpX.lq [] J J J
  · intro n2 z1 σ' J1 hmk h hJ1 hA1
    obtain rfl := hmk
    replace h : L_errs_b1 p0x0 n2 = some z1 := h
    unfold L_errs_b1 at h
    refine tSR<|ARun.qv (q_lss J J) J<|rN<|tS<|ATodo.cond_d J (fun hc=>?_) (fun hc=>?_)
    · refine have h := iteT hc h; tK<|tS<|ATodo.block<|tSR<|bndE h fun v3 e1 h=>ARun.qv (t_index J J J e1 J J) J<|ARun.qv (q_load_rptr J J J) J<|rA J J<|rN<|tSR<|rM J J<|ARun.qv (q_neq J J) J<|rN<|ATodo.cond_d J (fun hc=>?_) (fun hc=>?_)
      · refine have h := iteT hc h; tSR<|rM J J<|rA J J<|rN<|ATodo.ret<|have h := outL h hA1; ?_
        obtain rfl := Option.some.inj h
        exact ImpX.here ⟨_,.cons (.tmp _ _ J) .nil,J⟩
      · refine have h := iteF hc h; tK<|ATodo.blk<|tR<|ARun.qv (q_addw J J) J<|rM J J<|rN<|ATodo.stop<|?_
        obtain rfl := Option.some.inj h
        exact hJ1 _ _ J<|ImpX.lq [] J J J
    · refine have h := iteF hc h; ATodo.exit J<|have h := outL h hA1; tSR<|rA J J<|rN<|ATodo.ret<|?_
      obtain rfl := Option.some.inj h
      exact ImpX.here ⟨_,.cons (.tmp _ _ J) .nil,J⟩

theorem base_Number_c {p0x0 : Str} {p1x0 : Int} {r : Int × Bool} (h : base_Number p0x0 p1x0 = some r) : Pu Tryz.prog 141 [.str p0x0,I p1x0] (.tup [I r.1,.bool r.2]) := by
  unfold base_Number at h
  refine ACall.bodyN Tryz.func141 J Tryz.ntmps141 Tryz.results141 J J ?_
  refine tSR<|rA J J<|rA J J<|rN<|tSR<|rM J J<|r_callp J (strings_TrimPrefix_c J) (CoL.refl _) J<|rA J J<|rN<|tS<|tS<|ATodo.cut (fun σ'=>∃ (c1 : Bool),base_Number_j1 p0x0 c1 = some r ∧ σ' = ⟨61,[(0,.str p0x0),(6,.str (Lib.trimPrefix p0x0 ([45] : Str))),(36,.bool c1)],[]⟩) ?_ ?_
  · refine tR<|rM J J<|ARun.qv (q_seq J J) J<|rM J J<|ARun.guard_df J J J (fun hc=>?_) (fun hc=>?_)
    · refine have h := iteF hc h; rM J J<|rY J J J<|ARun.qv (q_len_str J) J<|rY J J J<|rM J J<|rY J J J<|ARun.qv (q_gtr J J) J<|rE J J J<|rM J J<|ARun.guard_df J J J (fun hc=>?_) (fun hc=>?_)
      · refine have h := iteF hc h; rM J J<|rY J J J<|bndE h fun c2 e1 h=>ARun.qv (t_index_str J J e1) J<|rY J J J<|ARun.qv (q_eql J J) J<|rY J J J<|rM J J<|ARun.guard_dt J J J (fun hc=>?_) (fun hc=>?_)
        · rw [andTd hc] at h
          refine rM J J<|rY J J J<|ARun.qv (q_len_str J) J<|rY J J J<|ARun.qv (q_gtr J J) J<|rY J J J<|rM J J<|ARun.guard_df J J J (fun hc=>?_) (fun hc=>?_)
          · rw [orFd hc] at h
            exact rM J J<|rY J J J<|ARun.qv (q_len_str J) J<|rY J J J<|rM J J<|rY J J J<|ARun.qv (q_len_str J) J<|rY J J J<|ARun.qv (q_gtr J J) J<|rY J J J<|rE J J J<|rY J J J<|rT J J J<|rE J J J<|rN<|ATodo.stop<|ImpX.lq [] ⟨decide (((Lib.trimPrefix p0x0 ([45] : Str)).length : Int) < (p0x0.length : Int)),h,J⟩ J J
          · rw [orTd hc] at h
            exact rG J J J J<|rG J J J J<|rG J J J J<|rG J J J J<|rY J J J<|rT J J J<|rY J J J<|rT J J J<|rE J J J<|rN<|ATodo.stop<|ImpX.lq [] ⟨true,h,J⟩ J J
        · rw [andFd hc] at h
          exact rG J J J J<|rG J J J J<|rG J J J J<|ARun.guard_und J J J<|ARun.guard_und J J J<|ARun.guard_und J J J<|ARun.guard_und J J J<|ARun.guard_und J J J<|rG J J J J<|rY J J J<|rE J J J<|rE J J J<|rN<|ATodo.stop<|ImpX.lq [] ⟨false,h,J⟩ J J
      · exact have h := iteT hc h; rG J J J J<|rG J J J J<|rG J J J J<|ARun.guard_und J J J<|ARun.guard_und J J J<|ARun.guard_und J J J<|ARun.guard_und J J J<|ARun.guard_und J J J<|ARun.guard_und J J J<|ARun.guard_und J J J<|ARun.guard_und J J J<|ARun.guard_und J J J<|ARun.guard_und J J J<|rG J J J J<|rT J J J<|rN<|ATodo.stop<|ImpX.lq [] ⟨true,h,J⟩ J J
    · exact have h := iteT hc h; rG J J J J<|rG J J J J<|rG J J J J<|rT J J J<|rM J J<|rG J J J J<|rG J J J J<|rG J J J J<|rG J J J J<|ARun.guard_und J J J<|ARun.guard_und J J J<|ARun.guard_und J J J<|ARun.guard_und J J J<|ARun.guard_und J J J<|ARun.guard_und J J J<|ARun.guard_und J J J<|ARun.guard_und J J J<|ARun.guard_und J J J<|ARun.guard_und J J J<|rG J J J J<|rT J J J<|rN<|ATodo.stop<|ImpX.lq [] ⟨true,h,J⟩ J J
  · rintro σ' ⟨c1, h, rfl⟩
    unfold base_Number_j1 at h
    refine ATodo.cond J (fun hc=>?_) (fun hc=>?_)
    · refine have h := iteT hc h; tSR<|rA J J<|rA J J<|rN<|ATodo.ret<|?_
      obtain rfl := Option.some.inj h
      exact ImpX.here ⟨_,.cons (.tmp _ _ J) (.cons (.tmp _ _ J) .nil),J⟩
    · refine have h := iteFb hc h; tK<|tS<|tSR<|rM J J<|ARun.qv (q_len_str J) J<|rM J J<|rN<|ATodo.block<|ATodo.loopI (fun x : Int=>base_Number_b1 p0x0 x) (fun x σ'=>σ' = ⟨61,[(0,.str p0x0),(6,.str (Lib.trimPrefix p0x0 ([45] : Str))),(38,I ((Lib.trimPrefix p0x0 ([45] : Str)).length : Int)),(39,I x)],[]⟩) h ?_ ?_
      · exact ImpX.lq [] J J J
      · intro n4 z1 σ' J1 hmk h hJ1 hA1
        obtain rfl := hmk
        replace h : base_Number_b1 p0x0 n4 = some z1 := h
        unfold base_Number_b1 at h
        refine tSR<|ARun.qv (q_lss J J) J<|rN<|tS<|ATodo.cond_d J (fun hc=>?_) (fun hc=>?_)
        · refine have h := iteT hc h; tK<|tS<|ATodo.block<|tSR<|rM J J<|rA J J<|rN<|tS<|ATodo.cut (fun σ'=>∃ (c5 : Bool),base_Number_j2 n4 c5 = some z1 ∧ σ' = ⟨61,[(0,.str p0x0),(6,.str (Lib.trimPrefix p0x0 ([45] : Str))),(38,I ((Lib.trimPrefix p0x0 ([45] : Str)).length : Int)),(39,I n4),(51,.bool c5)],[]⟩) ?_ ?_
          · refine tR<|rM J J<|rM J J<|bndE h fun c6 e2 h=>ARun.qv (t_index_str J J e2) J<|ARun.qv (q_lss J J) J<|rM J J<|ARun.guard_df J J J (fun hc=>?_) (fun hc=>?_)
            · exact have h := iteF hc h; rM J J<|rY J J J<|rM J J<|rY J J J<|bndE h fun c7 e3 h=>ARun.qv (t_index_str J J e3) J<|rY J J J<|ARun.qv (q_gtr J J) J<|rE J J J<|rN<|ATodo.stop<|ImpX.lq [] ⟨decide ((57 : Int) < (c7.toNat : Int)),h,J⟩ J J
            · exact have h := iteT hc h; rG J J J J<|rG J J J J<|rG J J J J<|rT J J J<|rN<|ATodo.stop<|ImpX.lq [] ⟨true,h,J⟩ J J
          · rintro σ' ⟨c5, h, rfl⟩
            unfold base_Number_j2 at h
            refine ATodo.cond J (fun hc=>?_) (fun hc=>?_)
            · refine have h := iteT hc h; tSR<|rA J J<|rA J J<|rN<|ATodo.ret<|have h := outL h hA1; ?_
              obtain rfl := Option.some.inj h
              exact ImpX.here ⟨_,.cons (.tmp _ _ J) (.cons (.tmp _ _ J) .nil),J⟩
            · refine have h := iteFb hc h; tK<|ATodo.blk<|tR<|ARun.qv (q_addw J J) J<|rM J J<|rN<|ATodo.stop<|?_
              obtain rfl := Option.some.inj h
              exact hJ1 _ _ J<|ImpX.lq [] J J J
        · refine have h := iteF hc h; ATodo.exit J<|have h := outL h hA1; ?_
          unfold base_Number_k3 at h
          refine tSR<|rM J J<|bndE h fun v8 e4 h=>t_callE J (strconv_Atoi_c e4) (CoL.refl _) J fun e9 e5=>rM J J<|rX J J J<|rX J J J<|rA J J<|rA J J<|rN<|tS<|ATodo.regionM (id := 11) (A := [0,0,2,1,15]) 5 mixed J (by kernel_rfl) (by kernel_rfl)<|AM.qv (q_move J) J<|AM.qv (q_move J) J<|AM.qv (q_eqE e5 J) J<|AM.qv (q_assign J) J<|AM.qv (q_assign J) J<|AM.nil<|rN<|ATodo.ret<|?_
          obtain rfl := Option.some.inj h
          exact ImpX.here ⟨_,.cons (.tmp _ _ J) (.cons (.tmp _ _ J) .nil),J⟩

theorem base_Numbers_c {p0x0 : List Str} {p1x0 : Int} {r : (List Int) × Bool} (h : base_Numbers p0x0 p1x0 = some r) : ACall Tryz.prog 109 [lE1 p0x0,I p1x0] [] (T1 (fun d_0=>[(d_0,aE0 r.1)]) (fun d_0=>.tup [.sl 1 d_0 0 r.1.length,.bool r.2])) := by
  unfold base_Numbers at h
  refine ACall.lessH ?_
  refine ACall.bodyN Tryz.func109 J Tryz.ntmps109 Tryz.results109 J J ?_
  refine tSR<|rA J J<|rA J J<|rN<|tSR<|rA J J<|rN<|tS<|tSR<|rM J J<|ARun.qv (t_len J) J<|rM J J<|rN<|ATodo.block<|ATodo.loopI (fun x : (List Int) × Int=>base_Numbers_b1 p0x0 p1x0 x.1 x.2) (fun x σ'=>∃ (b4 : Bk),σ' = ⟨31,[(1,I p1x0),(6,.sl 1 b4 0 x.1.length),(11,lE1 p0x0),(12,I (p0x0.length : Int)),(13,I x.2)],[(b4,aE0 x.1)]⟩) h ?_ ?_
  · exact ImpX.arr (s := 6) 1 J fun b7=>ImpX.lq [0] ⟨b7,J⟩ J J
  · intro x z1 σ' J1 hmk h hJ1 hA1
    obtain ⟨l5, n6⟩ := x
    obtain ⟨b4, rfl⟩ := hmk
    replace h : base_Numbers_b1 p0x0 p1x0 l5 n6 = some z1 := h
    unfold base_Numbers_b1 at h
    refine tSR<|ARun.qv (q_lss J J) J<|rN<|tS<|ATodo.cond_d J (fun hc=>?_) (fun hc=>?_)
    · refine have h := iteT hc h; tK<|tS<|ATodo.block<|tSR<|bndE h fun v8 e1 h=>ARun.qv (t_index J J J e1 J J) J<|ARun.qv (q_load_rptr J J J) J<|rA J J<|rN<|tSR<|rM J J<|rM J J<|bndE h fun v9 e2 h=>r_callp J (base_Number_c e2) (CoL.refl _) J<|rM J J<|rX J J J<|rX J J J<|rA J J<|rA J J<|rN<|tS<|tSR<|rM J J<|ARun.qv (q_not J) J<|rN<|ATodo.cond J (fun hc=>?_) (fun hc=>?_)
      · refine have h := iteT hc h; tSR<|rA J J<|rA J J<|rN<|ATodo.ret<|have h := outL h hA1; ?_
        obtain rfl := Option.some.inj h
        exact ImpX.arr (s := 4) 1 J fun b10=>ImpX.here ⟨_,.cons (.tmp _ _ J) (.cons (.tmp _ _ J) .nil),_,.cons .p0 .nil,⟨b10,J,J⟩⟩
      · refine have h := iteFb hc h; tK<|tR<|rM J J<|rM J J<|n_buildSliceL (xs := ([v9.1] : List Int).map I) J J J J J J<|bndE h fun l11 e3 h=>t_append (g := I) J J J J J J J J (.list _) e3 (fun _=>.p0) J fun b12=>rA J J<|rN<|ATodo.blk<|tR<|ARun.qv (q_addw J J) J<|rM J J<|rN<|ATodo.stop<|?_
        obtain rfl := Option.some.inj h
        exact hJ1 _ _ J<|ImpX.lq [0] ⟨b12,J⟩ J J
    · refine have h := iteF hc h; ATodo.exit J<|have h := outL h hA1; tSR<|rM J J<|rA J J<|rA J J<|rN<|ATodo.ret<|?_
      obtain rfl := Option.some.inj h
      exact ImpX.here ⟨_,.cons (.tmp _ _ J) (.cons (.tmp _ _ J) .nil),_,.cons .p0 .nil,⟨b4,J,J⟩⟩

theorem campaign_ParseVersion_c {p0x0 : Str} {r : Version × Int} (h : campaign_ParseVersion p0x0 = some r) : Pu Tryz.prog 63 [.str p0x0] (.tup [Version.av r.1,I r.2]) := by
  unfold campaign_ParseVersion at h
  refine ACall.bodyN Tryz.func63 J Tryz.ntmps63 Tryz.results63 J J ?_
  refine tSR<|n_alloc J J J J fun b1=>rA J J<|rN<|tSR<|rM J J<|bndE h fun v2 e1 h=>t_call1 J (strings_Split_c e1) (CoL.refl _) .nil (fun _=>J) J fun b3=>bndE h fun v4 e2 h=>t_callL1 J (base_Numbers_c e2) .nil (.cons (CoB.arrT .p0) (.cons (.co (.refl _)) .nil)) (fun _=>J) (fun _=>J) (fun _=>(.cons (NoS.arrT (fun _=>J)) .nil)) J fun b5=>rM J J<|rX J J J<|rX J J J<|rA J J<|rA J J<|rN<|tS<|tS<|ATodo.cut (fun σ'=>∃ (c6 : Bool),campaign_ParseVersion_j1 v4 c6 = some r ∧ σ' = ⟨36,[(2,.ptr b1 0),(4,.sl 1 b5 0 v4.1.length),(19,.bool c6)],[(b1,.cells [I (0 : Int),I (0 : Int),I (0 : Int)]),(b5,aE0 v4.1)]⟩) ?_ ?_
  · refine tR<|rM J J<|ARun.qv (q_not J) J<|rM J J<|ARun.guard J J J (fun hc=>?_) (fun hc=>?_)
    · rw [orFb hc] at h
      exact rM J J<|rY J J J<|ARun.qv (t_len_sl J) J<|rY J J J<|ARun.qv (q_neq J J) J<|rE J J J<|rN<|ATodo.stop<|ImpX.lq [2,0] ⟨decide ((v4.1.length : Int) ≠ (3 : Int)),h,J⟩ J J
    · rw [orTb hc] at h
      exact rG J J J J<|rG J J J J<|rT J J J<|rN<|ATodo.stop<|ImpX.lq [2,0] ⟨true,h,J⟩ J J
  · rintro σ' ⟨c6, h, rfl⟩
    unfold campaign_ParseVersion_j1 at h
    refine ATodo.cond J (fun hc=>?_) (fun hc=>?_)
    · refine have h := iteT hc h; tSR<|ARun.qv (n_build J J J J J) J<|n_store_ptr J J J J .p0 J J<|rA J J<|rN<|ATodo.ret<|?_
      obtain rfl := Option.some.inj h
      exact ImpX.here ⟨_,.cons (.all _ _ _ _ _ _ J .p0 TUnder.h TInfo.h J J) (.cons (.tmp _ _ J) .nil),J⟩
    · refine have h := iteFb hc h; tK<|tS<|bndE h fun v7 e3 h=>bndE h fun v8 e4 h=>bndE h fun v9 e5 h=>ATodo.regionT (id := 4) (A := [0,1,3,0,8,24,0,64,192,511,0,2047]) (H0 := []) (HH := fun β=>[((β 10),.cells [I (0 : Int),I (0 : Int),I (0 : Int)]),(b1,.cells [I (0 : Int),I (0 : Int),I (0 : Int)]),(b5,aE0 v4.1)]) 11 mixed J (by kernel_rfl) (by kernel_rfl) [⟨some 10,none,[],fun b=>(b,.cells [I (0 : Int),I (0 : Int),I (0 : Int)]),none,[]⟩] [10] J (by kernel_rfl) J .nil (fun _=>J)<|AT.am 10 J J<|AM.qv (q_move J) J<|AM.qv (t_index_sl J J J e3) J<|AM.qv (t_load_aptr (g := I) J J (.inl .p1) e3 J) J<|AM.qv (q_move J) J<|AM.qv (t_index_sl J J J e4) J<|AM.qv (t_load_aptr (g := I) J J (.inl .p1) e4 J) J<|AM.qv (q_move J) J<|AM.qv (t_index_sl J J J e5) J<|AM.qv (t_load_aptr (g := I) J J (.inl .p1) e5 J) J<|AM.qv (n_build J J J J J) J<|AM.nil<|AT.runD (V := fun b=>.ptr b 0) (Ti := []) (Pi := fun b=>[(b,.cells [I (0 : Int),I (0 : Int),I (0 : Int)])]) (fun _=>J) (fun _=>J) (fun _ _=>J) J (fun _=>J) J J J ?_ ?_
      · exact n_alloc J J J J fun b10=>ARun.nil ⟨b10,_,J,J⟩
      refine AT.nilN (fun _=>J) fun β=>?_
      generalize β 10 = b10
      clear β
      refine n_store_ptr J J J J .p0 J J<|rN<|tS<|tSR<|ARun.qv (q_load_ptr_all J J .p0 J) J<|r_callp J (base_Version_c (J : base_Version (⟨v7,v8,v9⟩ : Version) = _)) (CoL.refl _) J<|ARun.qv (q_not J) J<|rN<|ATodo.cond J (fun hc=>?_) (fun hc=>?_)
      · refine have h := iteT hc h; tSR<|ARun.qv (n_build J J J J J) J<|n_store_ptr J J J J .p1 J J<|rA J J<|rN<|ATodo.ret<|?_
        obtain rfl := Option.some.inj h
        exact ImpX.here ⟨_,.cons (.all _ _ _ _ _ _ J .p1 TUnder.h TInfo.h J J) (.cons (.tmp _ _ J) .nil),J⟩
      · refine have h := iteFb hc h; tK<|tSR<|ARun.qv (q_load_ptr_all J J .p0 J) J<|n_store_ptr J J J J .p1 J J<|rA J J<|rN<|ATodo.ret<|?_
        obtain rfl := Option.some.inj h
        exact ImpX.here ⟨_,.cons (.all _ _ _ _ _ _ J .p1 TUnder.h TInfo.h J J) (.cons (.tmp _ _ J) .nil),J⟩

theorem L_versioned_c {r : Bool} (h : L_versioned = some r) : Pu Tryz.prog 22 [] (.bool r) := by
  unfold L_versioned at h
  refine ACall.bodyN Tryz.func22 J Tryz.ntmps22 Tryz.results22 J J ?_
  refine tSR<|rA J J<|rN<|tSR<|bndE h fun v1 e1 h=>r_callp J (campaign_ParseVersion_c e1) (CoL.refl _) J<|rM J J<|rX J J J<|rX J J J<|n_alloc J J J J fun b2=>n_store_ptr J J J J .p0 J J<|rA J J<|rN<|tS<|ATodo.cut (fun σ'=>∃ (c3 : Bool),L_versioned_j1 c3 = some r ∧ σ' = ⟨14,[(0,.bool c3)],[]⟩) ?_ ?_
  · refine tR<|rM J J<|ARun.qv (q_eql J J) J<|rM J J<|ARun.guard_dt J J J (fun hc=>?_) (fun hc=>?_)
    · rw [andTd hc] at h
      exact ARun.qv (q_load_ptr_all J J .p0 J) J<|rY J J J<|ARun.qv (n_build J J J J J) J<|rY J J J<|ARun.qv (t_teq (g := Version.av) (X := v1.1) (Y := (⟨(1 : Int),(2 : Int),(3 : Int)⟩ : Version)) J J J J J) J<|rT J J J<|rA J J<|rN<|ATodo.stop<|ImpX.lq [] ⟨decide (v1.1 = (⟨(1 : Int),(2 : Int),(3 : Int)⟩ : Version)),h,J⟩ J J
    · rw [andFd hc] at h
      exact rG J J J J<|rG J J J J<|rE J J J<|rA J J<|rN<|ATodo.stop<|ImpX.lq [] ⟨false,h,J⟩ J J
  · rintro σ' ⟨c3, h, rfl⟩
    unfold L_versioned_j1 at h
    refine ATodo.ret<|?_
    obtain rfl := Option.some.inj h
    exact ImpX.here ⟨_,.cons (.tmp _ _ J) .nil,J⟩

theorem Q_lot_c [GI : GTab] {p0x0 : Campaign} {p1x0 : Str} {r : Int} (h : Q_lot p0x0 p1x0 = some r) : Pu Tryz.prog 88 [Campaign.av p0x0,.str p1x0] (I r) := by
  unfold Q_lot at h
  refine ACall.bodyN Tryz.func88 J Tryz.ntmps88 Tryz.results88 J J ?_
  refine tSR<|n_box J J J J fun b1=>rA J J<|rN<|tSR<|rA J J<|rN<|tS<|tSR<|rF J J J<|rL J J .p0 J J<|bndE h fun q2 e1 h=>ARun.qv (q_sadd e1 J J) J<|rM J J<|bndE h fun q3 e2 h=>ARun.qv (q_sadd e2 J J) J<|t_conv_sb J J<|ARun.qv (t_len J) J<|rM J J<|rN<|ATodo.block<|ATodo.loopI (fun x : Int × Int=>Q_lot_b1 q3 x.1 x.2) (fun x σ'=>σ' = ⟨31,[(5,.int .u64 x.1),(13,lE7 (bytesI q3)),(14,I ((bytesI q3).length : Int)),(15,I x.2)],[]⟩) h ?_ ?_
  · exact ImpX.lq [] J J J
  · intro x z1 σ' J1 hmk h hJ1 hA1
    obtain ⟨n6, n7⟩ := x
    obtain rfl := hmk
    replace h : Q_lot_b1 q3 n6 n7 = some z1 := h
    unfold Q_lot_b1 at h
    refine tSR<|ARun.qv (q_lss J J) J<|rN<|tS<|ATodo.cond_d J (fun hc=>?_) (fun hc=>?_)
    · refine have h := iteT hc h; tK<|tS<|ATodo.block<|tSR<|bndE h fun v8 e3 h=>ARun.qv (t_index J J J e3 J J) J<|ARun.qv (q_load_rptr J J J) J<|rA J J<|rN<|tR<|rM J J<|rM J J<|ARun.qv (q_conv_int J) J<|ARun.qv (t_xor J J) J<|ARun.qv (q_mulw J J) J<|rA J J<|rN<|ATodo.blk<|tR<|ARun.qv (q_addw J J) J<|rM J J<|rN<|ATodo.stop<|?_
      obtain rfl := Option.some.inj h
      exact hJ1 _ _ J<|ImpX.lq [] J J J
    · refine have h := iteF hc h; ATodo.exit J<|have h := outL h hA1; tSR<|rM J J<|rM J J<|ARun.qv (t_shr J J (by decide)) J<|ARun.qv (t_xor J J) J<|ARun.qv (q_rem J J (by decide)) J<|ARun.qv (q_conv_int J) J<|rA J J<|rN<|ATodo.ret<|?_
      obtain rfl := Option.some.inj h
      exact ImpX.here ⟨_,.cons (.tmp _ _ J) .nil,J⟩

theorem Q_WaveOf_c [GI : GTab] {p0x0 : Campaign} {p1x0 : Str} {r : Int} (h : Q_WaveOf p0x0 p1x0 = some r) : Pu Tryz.prog 69 [Campaign.av p0x0,.str p1x0] (I r) := by
  unfold Q_WaveOf at h
  refine ACall.bodyN Tryz.func69 J Tryz.ntmps69 Tryz.results69 J J ?_
  refine tSR<|n_box J J J J fun b1=>rA J J<|rN<|tSR<|ARun.qv (q_load_ptr_all J J .p0 J) J<|rM J J<|bndE h fun v2 e1 h=>r_callp J (Q_lot_c e1) (CoL.refl _) J<|rA J J<|rN<|tS<|tSR<|rF J J J<|rL J J .p0 J J<|ARun.qv (t_len J) J<|rM J J<|rN<|ATodo.block<|ATodo.loopI (fun x : Int × Int=>Q_WaveOf_b1 p0x0 x.1 x.2) (fun x σ'=>σ' = ⟨27,[(5,I x.1),(12,lE2 p0x0.Waves),(13,I (p0x0.Waves.length : Int)),(14,I x.2)],[]⟩) h ?_ ?_
  · exact ImpX.lq [] J J J
  · intro x z1 σ' J1 hmk h hJ1 hA1
    obtain ⟨n5, n6⟩ := x
    obtain rfl := hmk
    replace h : Q_WaveOf_b1 p0x0 n5 n6 = some z1 := h
    unfold Q_WaveOf_b1 at h
    refine tSR<|ARun.qv (q_lss J J) J<|rN<|tS<|ATodo.cond_d J (fun hc=>?_) (fun hc=>?_)
    · refine have h := iteT hc h; tK<|tS<|ATodo.block<|tSR<|rM J J<|bndE h fun v7 e2 h=>ARun.qv (t_index J J J e2 J J) J<|ARun.qv (q_load_rptr_agg J J J) J<|n_alloc J J J J fun b8=>rA J J<|n_store_ptr J J J J .p0 J J<|rN<|tSR<|rM J J<|rF J J J<|rL J J .p0 J J<|ARun.qv (q_subw J J) J<|rA J J<|rN<|tSR<|rM J J<|ARun.qv (q_lss J J) J<|rN<|ATodo.cond_d J (fun hc=>?_) (fun hc=>?_)
      · refine have h := iteT hc h; tSR<|rM J J<|rA J J<|rN<|ATodo.ret<|have h := outL h hA1; ?_
        obtain rfl := Option.some.inj h
        exact ImpX.here ⟨_,.cons (.tmp _ _ J) .nil,J⟩
      · refine have h := iteF hc h; tK<|ATodo.blk<|tR<|ARun.qv (q_addw J J) J<|rM J J<|rN<|ATodo.stop<|?_
        obtain rfl := Option.some.inj h
        exact hJ1 _ _ J<|ImpX.lq [] J J J
    · refine have h := iteF hc h; ATodo.exit J<|have h := outL h hA1; tSR<|rA J J<|rN<|ATodo.ret<|?_
      obtain rfl := Option.some.inj h
      exact ImpX.here ⟨_,.cons (.tmp _ _ J) .nil,J⟩

theorem slices_Index_int_int_c [GI : GTab] {p0x0 : List Int} {p1x0 : Int} {r : Int} (h : slices_Index_int_int p0x0 p1x0 = some r) : Pu Tryz.prog 140 [lE0 p0x0,I p1x0] (I r) := by
  unfold slices_Index_int_int at h
  refine ACall.bodyN Tryz.func140 J Tryz.ntmps140 Tryz.results140 J J ?_
  refine tSR<|rA J J<|rN<|tS<|tSR<|rM J J<|ARun.qv (t_len J) J<|rM J J<|rN<|ATodo.block<|ATodo.loopI (fun x : Int=>slices_Index_int_int_b1 p0x0 p1x0 x) (fun x σ'=>σ' = ⟨19,[(0,lE0 p0x0),(1,I p1x0),(7,I (p0x0.length : Int)),(8,I x)],[]⟩) h ?_ ?_
  · exact ImpX.lq [] J J J
  · intro n2 z1 σ' J1 hmk h hJ1 hA1
    obtain rfl := hmk
    replace h : slices_Index_int_int_b1 p0x0 p1x0 n2 = some z1 := h
    unfold slices_Index_int_int_b1 at h
    refine tSR<|ARun.qv (q_lss J J) J<|rN<|tS<|ATodo.cond_d J (fun hc=>?_) (fun hc=>?_)
    · refine have h := iteT hc h; tK<|tS<|ATodo.block<|tSR<|rM J J<|rA J J<|rN<|tSR<|rM J J<|rM J J<|rM J J<|bndE h fun v3 e1 h=>ARun.qv (t_index J J J e1 J J) J<|ARun.qv (q_load_rptr J J J) J<|ARun.qv (q_eql J J) J<|rN<|ATodo.cond_d J (fun hc=>?_) (fun hc=>?_)
      · refine have h := iteT hc h; tSR<|rM J J<|rA J J<|rN<|ATodo.ret<|have h := outL h hA1; ?_
        obtain rfl := Option.some.inj h
        exact ImpX.here ⟨_,.cons (.tmp _ _ J) .nil,J⟩
      · refine have h := iteF hc h; tK<|ATodo.blk<|tR<|ARun.qv (q_addw J J) J<|rM J J<|rN<|ATodo.stop<|?_
        obtain rfl := Option.some.inj h
        exact hJ1 _ _ J<|ImpX.lq [] J J J
    · refine have h := iteF hc h; ATodo.exit J<|have h := outL h hA1; tSR<|rA J J<|rN<|ATodo.ret<|?_
      obtain rfl := Option.some.inj h
      exact ImpX.here ⟨_,.cons (.tmp _ _ J) .nil,J⟩

theorem slices_Contains_int_int_c [GI : GTab] {p0x0 : List Int} {p1x0 : Int} {r : Bool} (h : slices_Contains_int_int p0x0 p1x0 = some r) : Pu Tryz.prog 108 [lE0 p0x0,I p1x0] (.bool r) := by
  unfold slices_Contains_int_int at h
  refine ACall.bodyN Tryz.func108 J Tryz.ntmps108 Tryz.results108 J J ?_
  refine tSR<|rA J J<|rN<|tSR<|rM J J<|rM J J<|bndE h fun v1 e1 h=>r_callp J (slices_Index_int_int_c e1) (CoL.refl _) J<|ARun.qv (q_geq J J) J<|rA J J<|rN<|ATodo.ret<|?_
  obtain rfl := Option.some.inj h
  exact ImpX.here ⟨_,.cons (.tmp _ _ J) .nil,J⟩

theorem Q_followed_c [GI : GTab] {p0x0 : Campaign} {p1x0 : Str} {p2x0 : List MarkS} {p3x0 : Int} {r : (List MarkS)} (h : Q_followed p0x0 p1x0 p2x0 p3x0 = some r) : ACall Tryz.prog 62 [Campaign.av p0x0,.str p1x0,lE4 p2x0,I p3x0] [] (T1 (fun d_0=>[(d_0,aE4 r)]) (fun d_0=>.sl 6 d_0 0 r.length)) := by
  unfold Q_followed at h
  refine ACall.lessH ?_
  refine ACall.bodyN Tryz.func62 J Tryz.ntmps62 Tryz.results62 J J ?_
  refine tSR<|n_box J J J J fun b1=>rA J J<|rN<|tSR<|rA J J<|rN<|tS<|tSR<|rM J J<|ARun.qv (t_len J) J<|rM J J<|rN<|ATodo.block<|ATodo.loopI (fun x : (List MarkS) × Int=>Q_followed_b1 p0x0 p1x0 p2x0 p3x0 x.1 x.2) (fun x σ'=>∃ (b5 : Bk),σ' = ⟨79,[(1,.str p1x0),(3,I p3x0),(4,.ptr b1 0),(9,.sl 6 b5 0 x.1.length),(15,lE4 p2x0),(16,I (p2x0.length : Int)),(17,I x.2)],[(b1,.cells (cE1 p0x0)),(b5,aE4 x.1)]⟩) h ?_ ?_
  · exact ImpX.arr (s := 9) 6 J fun b8=>ImpX.lq [1,0] ⟨b8,J⟩ J J
  · intro x z1 σ' J1 hmk h hJ1 hA1
    obtain ⟨l6, n7⟩ := x
    obtain ⟨b5, rfl⟩ := hmk
    replace h : Q_followed_b1 p0x0 p1x0 p2x0 p3x0 l6 n7 = some z1 := h
    unfold Q_followed_b1 at h
    refine tSR<|ARun.qv (q_lss J J) J<|rN<|tS<|ATodo.cond_d J (fun hc=>?_) (fun hc=>?_)
    · refine have h := iteT hc h; tK<|tS<|ATodo.cut (fun σ'=>∃ (b9 : Bk) (l10 : List MarkS),Q_followed_j1 n7 l10 = some z1 ∧ σ' = ⟨79,[(1,.str p1x0),(3,I p3x0),(4,.ptr b1 0),(9,.sl 6 b9 0 l10.length),(15,lE4 p2x0),(16,I (p2x0.length : Int)),(17,I n7)],[(b1,.cells (cE1 p0x0)),(b9,aE4 l10)]⟩) ?_ ?_
      · refine ATodo.block<|tSR<|bndE h fun v11 e1 h=>ARun.qv (t_index J J J e1 J J) J<|ARun.qv (q_load_rptr_agg J J J) J<|n_alloc J J J J fun b12=>n_store_ptr J J J J .p0 J J<|rN<|tS<|tS<|ATodo.cut (fun σ'=>∃ (c13 : Bool),Q_followed_j2 l6 n7 v11 c13 = some z1 ∧ σ' = ⟨79,[(1,.str p1x0),(3,I p3x0),(4,.ptr b1 0),(9,.sl 6 b5 0 l6.length),(11,.ptr b12 0),(15,lE4 p2x0),(16,I (p2x0.length : Int)),(17,I n7),(37,.bool c13)],[(b1,.cells (cE1 p0x0)),(b5,aE4 l6),(b12,.cells (cE4 v11))]⟩) ?_ ?_
        · refine tR<|rF J J J<|rL J J .p0 J J<|rM J J<|ARun.qv (q_sne J J) J<|rM J J<|ARun.guard_df J J J (fun hc=>?_) (fun hc=>?_)
          · rw [orFd hc] at h
            refine rF J J J<|rY J J J<|rL J J .p0 J J<|rY J J J<|rF J J J<|rY J J J<|rL J J .p1 J J<|rY J J J<|ARun.qv (q_lss J J) J<|rE J J J<|rM J J<|ARun.guard_df J J J (fun hc=>?_) (fun hc=>?_)
            · rw [orFd hc] at h
              exact rF J J J<|rY J J J<|rL J J .p0 J J<|rY J J J<|rM J J<|rY J J J<|ARun.qv (q_gtr J J) J<|rE J J J<|rN<|ATodo.stop<|ImpX.lq [1,1,0] ⟨decide (p3x0 < v11.At),h,J⟩ J J
            · rw [orTd hc] at h
              exact rG J J J J<|rG J J J J<|rG J J J J<|rT J J J<|rN<|ATodo.stop<|ImpX.lq [1,1,0] ⟨true,h,J⟩ J J
          · rw [orTd hc] at h
            exact rG J J J J<|rG J J J J<|rG J J J J<|rG J J J J<|rT J J J<|rM J J<|rG J J J J<|rG J J J J<|rG J J J J<|rG J J J J<|rT J J J<|rN<|ATodo.stop<|ImpX.lq [1,1,0] ⟨true,h,J⟩ J J
        · rintro σ' ⟨c13, h, rfl⟩
          unfold Q_followed_j2 at h
          refine ATodo.cond J (fun hc=>?_) (fun hc=>?_)
          · exact have h := iteT hc h; ATodo.exit J<|ATodo.stop<|ImpX.lq [0,0] ⟨b5,l6,h,J⟩ J J
          · refine have h := iteFb hc h; tK<|tSR<|n_alloc J J J J fun b14=>rN<|tS<|tSR<|rM J J<|ARun.qv (t_len_sl J) J<|ARun.qv (q_subw J J) J<|rA J J<|rN<|tSR<|rM J J<|ARun.qv (q_geq J J) J<|rN<|ATodo.cut (fun σ'=>∃ (n15 : Int) (q16 : Str) (n17 : Int) (n18 : Int) (n19 : Int) (n20 : Int),Q_followed_j3 l6 n7 v11 n15 q16 n17 n18 n19 n20 = some z1 ∧ σ' = ⟨79,[(1,.str p1x0),(3,I p3x0),(4,.ptr b1 0),(9,.sl 6 b5 0 l6.length),(11,.ptr b12 0),(12,.ptr b14 0),(15,lE4 p2x0),(16,I (p2x0.length : Int)),(17,I n7)],[(b1,.cells (cE1 p0x0)),(b5,aE4 l6),(b12,.cells (cE4 v11)),(b14,.cells [I n15,.str q16,I n17,I n18,I n19,I n20])]⟩) ?_ ?_
            · refine ATodo.cond_d J (fun hc=>?_) (fun hc=>?_)
              · exact have h := iteT hc h; tR<|rM J J<|rM J J<|bndE h fun v21 e2 h=>ARun.qv (t_index_sl J J J e2) J<|ARun.qv (t_load_aptr_agg (g := MarkS.av) J J (.inl .p2) J e2 J) J<|n_store_ptr J J J J .p0 J J<|rN<|ATodo.stop<|ImpX.lq [1,1,1,0] ⟨v21.At,v21.Device,v21.Kind,v21.Version.Major,v21.Version.Minor,v21.Version.Patch,h,J⟩ J J
              · exact have h := iteF hc h; tK<|ATodo.stop<|ImpX.lq [1,1,1,0] ⟨(0 : Int),[],(0 : Int),(0 : Int),(0 : Int),(0 : Int),h,J⟩ J J
            · rintro σ' ⟨n15, q16, n17, n18, n19, n20, h, rfl⟩
              unfold Q_followed_j3 at h
              refine tSR<|t_makeMapO (gk := I) (kp := (keptS 1 I)) (β := (fun _=>⟨none,0⟩)) J fun b22 b23=>n_buildSlice J J J J J J fun b24=>ARun.ghost<|ImpX.poolDrop (kp := (keptS 1 I)) (β := (fun _=>⟨none,0⟩)) (M := ([] : List (Int × (List Int)))) (1 : Int) .p2<|ImpX.here<|t_insertO (gk := I) (kp := (keptS 1 I)) (β := (fun _=>⟨none,0⟩)) (M := ([] : List (Int × (List Int)))) (key := (1 : Int)) (v := [(0 : Int),(3 : Int),(4 : Int)]) (b := b24) J J J J .p1<|ARun.ghost<|ImpX.poolPut (kp := (keptS 1 I)) (β := (fun _=>⟨none,0⟩)) (M := ([] : List (Int × (List Int)))) (key := (1 : Int)) (v := [(0 : Int),(3 : Int),(4 : Int)]) J .p0 .p1<|ImpX.here<|n_buildSlice J J J J J J fun b25=>ARun.ghost<|ImpX.poolDrop (kp := (keptS 1 I)) (β := (updK (fun _=>⟨none,0⟩) (1 : Int) b24)) (M := (mset ([] : List (Int × (List Int))) (1 : Int) [(0 : Int),(3 : Int),(4 : Int)])) (2 : Int) .p2<|ImpX.here<|t_insertO (gk := I) (kp := (keptS 1 I)) (β := (updK (fun _=>⟨none,0⟩) (1 : Int) b24)) (M := (mset ([] : List (Int × (List Int))) (1 : Int) [(0 : Int),(3 : Int),(4 : Int)])) (key := (2 : Int)) (v := [(1 : Int)]) (b := b25) J J J J .p1<|ARun.ghost<|ImpX.poolPut (kp := (keptS 1 I)) (β := (updK (fun _=>⟨none,0⟩) (1 : Int) b24)) (M := (mset ([] : List (Int × (List Int))) (1 : Int) [(0 : Int),(3 : Int),(4 : Int)])) (key := (2 : Int)) (v := [(1 : Int)]) J .p0 .p1<|ImpX.here<|n_buildSlice J J J J J J fun b26=>ARun.ghost<|ImpX.poolDrop (kp := (keptS 1 I)) (β := (updK (updK (fun _=>⟨none,0⟩) (1 : Int) b24) (2 : Int) b25)) (M := (mset (mset ([] : List (Int × (List Int))) (1 : Int) [(0 : Int),(3 : Int),(4 : Int)]) (2 : Int) [(1 : Int)])) (5 : Int) .p2<|ImpX.here<|t_insertO (gk := I) (kp := (keptS 1 I)) (β := (updK (updK (fun _=>⟨none,0⟩) (1 : Int) b24) (2 : Int) b25)) (M := (mset (mset ([] : List (Int × (List Int))) (1 : Int) [(0 : Int),(3 : Int),(4 : Int)]) (2 : Int) [(1 : Int)])) (key := (5 : Int)) (v := [(1 : Int)]) (b := b26) J J J J .p1<|ARun.ghost<|ImpX.poolPut (kp := (keptS 1 I)) (β := (updK (updK (fun _=>⟨none,0⟩) (1 : Int) b24) (2 : Int) b25)) (M := (mset (mset ([] : List (Int × (List Int))) (1 : Int) [(0 : Int),(3 : Int),(4 : Int)]) (2 : Int) [(1 : Int)])) (key := (5 : Int)) (v := [(1 : Int)]) J .p0 .p1<|ImpX.here<|n_buildSlice J J J J J J fun b27=>ARun.ghost<|ImpX.poolDrop (kp := (keptS 1 I)) (β := (updK (updK (updK (fun _=>⟨none,0⟩) (1 : Int) b24) (2 : Int) b25) (5 : Int) b26)) (M := (mset (mset (mset ([] : List (Int × (List Int))) (1 : Int) [(0 : Int),(3 : Int),(4 : Int)]) (2 : Int) [(1 : Int)]) (5 : Int) [(1 : Int)])) (3 : Int) .p2<|ImpX.here<|t_insertO (gk := I) (kp := (keptS 1 I)) (β := (updK (updK (updK (fun _=>⟨none,0⟩) (1 : Int) b24) (2 : Int) b25) (5 : Int) b26)) (M := (mset (mset (mset ([] : List (Int × (List Int))) (1 : Int) [(0 : Int),(3 : Int),(4 : Int)]) (2 : Int) [(1 : Int)]) (5 : Int) [(1 : Int)])) (key := (3 : Int)) (v := [(2 : Int)]) (b := b27) J J J J .p1<|ARun.ghost<|ImpX.poolPut (kp := (keptS 1 I)) (β := (updK (updK (updK (fun _=>⟨none,0⟩) (1 : Int) b24) (2 : Int) b25) (5 : Int) b26)) (M := (mset (mset (mset ([] : List (Int × (List Int))) (1 : Int) [(0 : Int),(3 : Int),(4 : Int)]) (2 : Int) [(1 : Int)]) (5 : Int) [(1 : Int)])) (key := (3 : Int)) (v := [(2 : Int)]) J .p0 .p1<|ImpX.here<|n_buildSlice J J J J J J fun b28=>ARun.ghost<|ImpX.poolDrop (kp := (keptS 1 I)) (β := (updK (updK (updK (updK (fun _=>⟨none,0⟩) (1 : Int) b24) (2 : Int) b25) (5 : Int) b26) (3 : Int) b27)) (M := (mset (mset (mset (mset ([] : List (Int × (List Int))) (1 : Int) [(0 : Int),(3 : Int),(4 : Int)]) (2 : Int) [(1 : Int)]) (5 : Int) [(1 : Int)]) (3 : Int) [(2 : Int)])) (4 : Int) .p2<|ImpX.here<|t_insertO (gk := I) (kp := (keptS 1 I)) (β := (updK (updK (updK (updK (fun _=>⟨none,0⟩) (1 : Int) b24) (2 : Int) b25) (5 : Int) b26) (3 : Int) b27)) (M := (mset (mset (mset (mset ([] : List (Int × (List Int))) (1 : Int) [(0 : Int),(3 : Int),(4 : Int)]) (2 : Int) [(1 : Int)]) (5 : Int) [(1 : Int)]) (3 : Int) [(2 : Int)])) (key := (4 : Int)) (v := [(2 : Int)]) (b := b28) J J J J .p1<|ARun.ghost<|ImpX.poolPut (kp := (keptS 1 I)) (β := (updK (updK (updK (updK (fun _=>⟨none,0⟩) (1 : Int) b24) (2 : Int) b25) (5 : Int) b26) (3 : Int) b27)) (M := (mset (mset (mset (mset ([] : List (Int × (List Int))) (1 : Int) [(0 : Int),(3 : Int),(4 : Int)]) (2 : Int) [(1 : Int)]) (5 : Int) [(1 : Int)]) (3 : Int) [(2 : Int)])) (key := (4 : Int)) (v := [(2 : Int)]) J .p0 .p1<|ImpX.here<|rM J J<|rF J J J<|rL J J .p4 J J<|bndE h fun v29 e3 h=>t_lookupS (gk := I) (sz := 1) (g := I) (β := (updK (updK (updK (updK (updK (fun _=>⟨none,0⟩) (1 : Int) b24) (2 : Int) b25) (5 : Int) b26) (3 : Int) b27) (4 : Int) b28)) (M := (mset (mset (mset (mset (mset ([] : List (Int × (List Int))) (1 : Int) [(0 : Int),(3 : Int),(4 : Int)]) (2 : Int) [(1 : Int)]) (5 : Int) [(1 : Int)]) (3 : Int) [(2 : Int)]) (4 : Int) [(2 : Int)])) (key := v11.Kind) J J .p0 .p1 J e3 J fun b30 hbe3=>rA J J<|rN<|tS<|ATodo.cut (fun σ'=>∃ (c31 : Bool),Q_followed_j4 l6 n7 v11 c31 = some z1 ∧ σ' = ⟨79,[(1,.str p1x0),(3,I p3x0),(4,.ptr b1 0),(9,.sl 6 b5 0 l6.length),(11,.ptr b12 0),(15,lE4 p2x0),(16,I (p2x0.length : Int)),(17,I n7),(72,.bool c31)],[(b1,.cells (cE1 p0x0)),(b5,aE4 l6),(b12,.cells (cE4 v11))]⟩) ?_ ?_
              · refine tR<|rM J J<|rF J J J<|rL J J .p6 J J<|bndE h fun v32 e4 h=>r_callpB J (slices_Contains_int_int_c e4) (.cons (CoB.arrT .p0) (.cons (.co (.refl _)) .nil)) J J<|rM J J<|ARun.guard J J J (fun hc=>?_) (fun hc=>?_)
                · rw [andTb hc] at h
                  refine rF J J J<|rY J J J<|rL J J .p5 J J<|rY J J J<|ARun.qv (q_eql J J) J<|rY J J J<|rM J J<|ARun.guard_df J J J (fun hc=>?_) (fun hc=>?_)
                  · rw [orFd hc] at h
                    exact rF J J J<|rY J J J<|ARun.qv (n_load_ptr_part J J .p5 J J) J<|rY J J J<|rF J J J<|rY J J J<|ARun.qv (n_load_ptr_part J J .p6 J J) J<|rY J J J<|ARun.qv (t_teq (g := Version.av) (X := v11.Version) (Y := (⟨n18,n19,n20⟩ : Version)) J J J J J) J<|rY J J J<|rE J J J<|rT J J J<|ARun.ghost<|ImpX.backS (gk := I) (sz := 1) (g := I) (β := (updK (updK (updK (updK (updK (fun _=>⟨none,0⟩) (1 : Int) b24) (2 : Int) b25) (5 : Int) b26) (3 : Int) b27) (4 : Int) b28)) (M := (mset (mset (mset (mset (mset ([] : List (Int × (List Int))) (1 : Int) [(0 : Int),(3 : Int),(4 : Int)]) (2 : Int) [(1 : Int)]) (5 : Int) [(1 : Int)]) (3 : Int) [(2 : Int)]) (4 : Int) [(2 : Int)])) (key := v11.Kind) (MKey.inj Tryz.prog 3) e3 hbe3 .p1 .p0 .p1<|ImpX.here<|rN<|ATodo.stop<|ImpX.lq [2,2,2] ⟨decide (v11.Version = (⟨n18,n19,n20⟩ : Version)),h,J⟩ J J
                  · rw [orTd hc] at h
                    exact rG J J J J<|rG J J J J<|rG J J J J<|rG J J J J<|rY J J J<|rT J J J<|rT J J J<|ARun.ghost<|ImpX.backS (gk := I) (sz := 1) (g := I) (β := (updK (updK (updK (updK (updK (fun _=>⟨none,0⟩) (1 : Int) b24) (2 : Int) b25) (5 : Int) b26) (3 : Int) b27) (4 : Int) b28)) (M := (mset (mset (mset (mset (mset ([] : List (Int × (List Int))) (1 : Int) [(0 : Int),(3 : Int),(4 : Int)]) (2 : Int) [(1 : Int)]) (5 : Int) [(1 : Int)]) (3 : Int) [(2 : Int)]) (4 : Int) [(2 : Int)])) (key := v11.Kind) (MKey.inj Tryz.prog 3) e3 hbe3 .p1 .p0 .p1<|ImpX.here<|rN<|ATodo.stop<|ImpX.lq [2,2,2] ⟨true,h,J⟩ J J
                · rw [andFb hc] at h
                  exact rG J J J J<|rG J J J J<|rG J J J J<|ARun.guard_und J J J<|ARun.guard_und J J J<|ARun.guard_und J J J<|ARun.guard_und J J J<|ARun.guard_und J J J<|rG J J J J<|rE J J J<|ARun.ghost<|ImpX.backS (gk := I) (sz := 1) (g := I) (β := (updK (updK (updK (updK (updK (fun _=>⟨none,0⟩) (1 : Int) b24) (2 : Int) b25) (5 : Int) b26) (3 : Int) b27) (4 : Int) b28)) (M := (mset (mset (mset (mset (mset ([] : List (Int × (List Int))) (1 : Int) [(0 : Int),(3 : Int),(4 : Int)]) (2 : Int) [(1 : Int)]) (5 : Int) [(1 : Int)]) (3 : Int) [(2 : Int)]) (4 : Int) [(2 : Int)])) (key := v11.Kind) (MKey.inj Tryz.prog 3) e3 hbe3 .p1 .p0 .p1<|ImpX.here<|rN<|ATodo.stop<|ImpX.lq [2,2,2] ⟨false,h,J⟩ J J
              · rintro σ' ⟨c31, h, rfl⟩
                unfold Q_followed_j4 at h
                refine ATodo.cut (fun σ'=>∃ (b33 : Bk) (l34 : List MarkS),Q_followed_j5 n7 l34 = some z1 ∧ σ' = ⟨79,[(1,.str p1x0),(3,I p3x0),(4,.ptr b1 0),(9,.sl 6 b33 0 l34.length),(15,lE4 p2x0),(16,I (p2x0.length : Int)),(17,I n7)],[(b1,.cells (cE1 p0x0)),(b33,aE4 l34)]⟩) ?_ ?_
                · refine ATodo.cond J (fun hc=>?_) (fun hc=>?_)
                  · exact have h := iteT hc h; tR<|rM J J<|ARun.qv (q_load_ptr_all J J .p2 J) J<|n_buildSliceL (xs := ([v11] : List MarkS).map MarkS.av) J J J J J J<|bndE h fun l35 e5 h=>t_append (g := MarkS.av) J J J J J J J J (.list _) e5 (fun _=>.p1) J fun b36=>rA J J<|rN<|ATodo.stop<|ImpX.lq [0,0] ⟨b36,l35,h,J⟩ J J
                  · exact have h := iteFb hc h; tK<|ATodo.stop<|ImpX.lq [0,0] ⟨b5,l6,h,J⟩ J J
                · rintro σ' ⟨b33, l34, h, rfl⟩
                  unfold Q_followed_j5 at h
                  exact ATodo.blk<|ATodo.stop<|ImpX.lq [0,0] ⟨b33,l34,h,J⟩ J J
      · rintro σ' ⟨b9, l10, h, rfl⟩
        unfold Q_followed_j1 at h
        refine tR<|ARun.qv (q_addw J J) J<|rM J J<|rN<|ATodo.stop<|?_
        obtain rfl := Option.some.inj h
        exact hJ1 _ _ J<|ImpX.lq [0,0] ⟨b9,J⟩ J J
    · refine have h := iteF hc h; ATodo.exit J<|have h := outL h hA1; tSR<|rM J J<|rA J J<|rN<|ATodo.ret<|?_
      obtain rfl := Option.some.inj h
      exact ImpX.here ⟨_,.cons (.tmp _ _ J) .nil,_,.cons .p1 .nil,⟨b5,J,J⟩⟩

theorem Q_stopOf_1x_c [GI : GTab] {p0x0 : MarkS} {r : Bool} (h : Q_stopOf_1x p0x0 = r) : Pu Tryz.prog 116 [MarkS.av p0x0] (.bool r) := by
  unfold Q_stopOf_1x at h
  refine ACall.bodyN Tryz.func116 J Tryz.ntmps116 Tryz.results116 J J ?_
  refine tSR<|n_box J J J J fun b1=>rA J J<|rN<|tS<|ATodo.cut (fun σ'=>∃ (c2 : Bool),Q_stopOf_1x_j1 c2 = r ∧ σ' = ⟨11,[(2,.bool c2)],[]⟩) ?_ ?_
  · refine tR<|rF J J J<|rL J J .p0 J J<|ARun.qv (q_neq J J) J<|rM J J<|ARun.guard_dt J J J (fun hc=>?_) (fun hc=>?_)
    · rw [andTd hc] at h
      exact rF J J J<|rY J J J<|rL J J .p0 J J<|rY J J J<|ARun.qv (q_neq J J) J<|rT J J J<|rA J J<|rN<|ATodo.stop<|ImpX.lq [] ⟨decide (p0x0.Kind ≠ (4 : Int)),h,J⟩ J J
    · rw [andFd hc] at h
      exact rG J J J J<|rG J J J J<|rE J J J<|rA J J<|rN<|ATodo.stop<|ImpX.lq [] ⟨false,h,J⟩ J J
  · rintro σ' ⟨c2, h, rfl⟩
    unfold Q_stopOf_1x_j1 at h
    refine ATodo.ret<|?_
    obtain rfl := h
    exact ImpX.here ⟨_,.cons (.tmp _ _ J) .nil,J⟩

theorem slices_IndexFunc_Mark_Mark_c [GI : GTab] {p0x0 : List MarkS} {fnb : MarkS → Option Bool} {fnb_F : FuncId} [IsFn Tryz.prog fnb_F] {fnb_C : List AV} (fnb_h : ∀ {y0 : _} {u : Bool},fnb y0 = some u → Pu Tryz.prog fnb_F (MarkS.av y0 ::  fnb_C) (.bool u)) {r : Int} (h : slices_IndexFunc_Mark_Mark p0x0 fnb = some r) : Pu Tryz.prog 154 [lE4 p0x0,.func (.func fnb_F) fnb_C] (I r) := by
  unfold slices_IndexFunc_Mark_Mark at h
  refine ACall.bodyN Tryz.func154 J Tryz.ntmps154 Tryz.results154 J J ?_
  refine tSR<|rA J J<|rN<|tS<|tSR<|rM J J<|ARun.qv (t_len J) J<|rM J J<|rN<|ATodo.block<|ATodo.loopI (fun x : Int=>slices_IndexFunc_Mark_Mark_b1 p0x0 fnb x) (fun x σ'=>σ' = ⟨19,[(0,lE4 p0x0),(1,.func (.func fnb_F) fnb_C),(7,I (p0x0.length : Int)),(8,I x)],[]⟩) h ?_ ?_
  · exact ImpX.lq [] J J J
  · intro n2 z1 σ' J1 hmk h hJ1 hA1
    obtain rfl := hmk
    replace h : slices_IndexFunc_Mark_Mark_b1 p0x0 fnb n2 = some z1 := h
    unfold slices_IndexFunc_Mark_Mark_b1 at h
    refine tSR<|ARun.qv (q_lss J J) J<|rN<|tS<|ATodo.cond_d J (fun hc=>?_) (fun hc=>?_)
    · refine have h := iteT hc h; tK<|tS<|ATodo.block<|tSR<|rM J J<|rA J J<|rN<|tSR<|rM J J<|rM J J<|rM J J<|bndE h fun v3 e1 h=>ARun.qv (t_index J J J e1 J J) J<|ARun.qv (q_load_rptr_agg J J J) J<|bndE h fun v4 e2 h=>r_callvp J J (fnb_h e2) (CoL.refl _) J<|rN<|ATodo.cond J (fun hc=>?_) (fun hc=>?_)
      · refine have h := iteT hc h; tSR<|rM J J<|rA J J<|rN<|ATodo.ret<|have h := outL h hA1; ?_
        obtain rfl := Option.some.inj h
        exact ImpX.here ⟨_,.cons (.tmp _ _ J) .nil,J⟩
      · refine have h := iteFb hc h; tK<|ATodo.blk<|tR<|ARun.qv (q_addw J J) J<|rM J J<|rN<|ATodo.stop<|?_
        obtain rfl := Option.some.inj h
        exact hJ1 _ _ J<|ImpX.lq [] J J J
    · refine have h := iteF hc h; ATodo.exit J<|have h := outL h hA1; tSR<|rA J J<|rN<|ATodo.ret<|?_
      obtain rfl := Option.some.inj h
      exact ImpX.here ⟨_,.cons (.tmp _ _ J) .nil,J⟩

theorem slices_DeleteFunc_Mark_Mark_c [GI : GTab] {b_0 : Bk} {p0x0 : List MarkS} {fnb : MarkS → Option Bool} {fnb_F : FuncId} [IsFn Tryz.prog fnb_F] {fnb_C : List AV} (fnb_h : ∀ {y0 : _} {u : Bool},fnb y0 = some u → Pu Tryz.prog fnb_F (MarkS.av y0 ::  fnb_C) (.bool u)) {r : (List MarkS)} (h : slices_DeleteFunc_Mark_Mark p0x0 fnb = some r) : ACall Tryz.prog 115 [.sl 6 b_0 0 p0x0.length,.func (.func fnb_F) fnb_C] [(b_0,aE4 p0x0)] (T1 (fun d_0=>[(d_0,aE4 r)]) (fun d_0=>.sl 6 d_0 0 r.length)) := by
  unfold slices_DeleteFunc_Mark_Mark at h
  refine ACall.lessH ?_
  refine ACall.bodyN Tryz.func115 J Tryz.ntmps115 Tryz.results115 J J ?_
  refine tSR<|rA J J<|rN<|tSR<|rM J J<|rM J J<|bndE h fun v1 e1 h=>r_callpB J (slices_IndexFunc_Mark_Mark_c fnb_h e1) (.cons (CoB.arrT .p0) (.cons (.co (.refl _)) .nil)) J J<|rA J J<|rN<|tS<|tSR<|rM J J<|ARun.qv (q_eql J J) J<|rN<|ATodo.cond_d J (fun hc=>?_) (fun hc=>?_)
  · refine have h := iteT hc h; tSR<|rM J J<|rA J J<|rN<|ATodo.ret<|?_
    obtain rfl := Option.some.inj h
    exact ImpX.here ⟨_,.cons (.tmp _ _ J) .nil,_,.cons .p0 .nil,⟨b_0,J,J⟩⟩
  · refine have h := iteF hc h; tK<|tS<|tSR<|rM J J<|ARun.qv (q_addw J J) J<|rA J J<|rN<|ATodo.block<|ATodo.loopI (fun x : (List MarkS) × Int × Int=>slices_DeleteFunc_Mark_Mark_b1 fnb x.1 x.2.1 x.2.2) (fun x σ'=>σ' = ⟨42,[(0,.sl 6 b_0 0 x.1.length),(1,.func (.func fnb_F) fnb_C),(5,I x.2.1),(6,I x.2.2)],[(b_0,aE4 x.1)]⟩) h ?_ ?_
    · exact ImpX.lq [0] J J J
    · intro x z1 σ' J1 hmk h hJ1 hA1
      obtain ⟨l5, n6, n7⟩ := x
      obtain rfl := hmk
      replace h : slices_DeleteFunc_Mark_Mark_b1 fnb l5 n6 n7 = some z1 := h
      unfold slices_DeleteFunc_Mark_Mark_b1 at h
      refine tS<|tSR<|rM J J<|rM J J<|ARun.qv (t_len_sl J) J<|ARun.qv (q_lss J J) J<|rN<|ATodo.cond_d J (fun hc=>?_) (fun hc=>?_)
      · refine have h := iteT hc h; tK<|tS<|ATodo.block<|tSR<|rM J J<|rM J J<|bndE h fun v8 e2 h=>ARun.qv (t_index_sl J J J e2) J<|ARun.qv (t_load_aptr_agg (g := MarkS.av) J J (.inl .p0) J e2 J) J<|n_alloc J J J J fun b9=>n_store_ptr J J J J .p0 J J<|rN<|tSR<|rM J J<|ARun.qv (q_load_ptr_all J J .p0 J) J<|bndE h fun v10 e3 h=>r_callvp J J (fnb_h e3) (CoL.refl _) J<|ARun.qv (q_not J) J<|rN<|ATodo.cut (fun σ'=>∃ (l11 : List MarkS) (n12 : Int),slices_DeleteFunc_Mark_Mark_j1 n7 l11 n12 = some z1 ∧ σ' = ⟨42,[(0,.sl 6 b_0 0 l11.length),(1,.func (.func fnb_F) fnb_C),(5,I n12),(6,I n7)],[(b_0,aE4 l11)]⟩) ?_ ?_
        · refine ATodo.cond J (fun hc=>?_) (fun hc=>?_)
          · exact have h := iteT hc h; tSR<|rM J J<|rM J J<|ARun.qv (q_load_ptr_all J J .p0 J) J<|bndE h fun v13 e4 h=>ARun.qv (t_index_sl J J J e4) J<|t_store_aptr1 (g := MarkS.av) (el' := v8) J J J J e4 J .p1 J<|ARun.ghost<|ImpX.eqs (s := 0) (av' := .sl 6 b_0 0 (l5.set n6.toNat v8).length) J (by rw [List.length_set])<|ImpX.here<|ARun.ghost<|ImpX.eqs (s := 17) (av' := .sl 6 b_0 0 (l5.set n6.toNat v8).length) J (by rw [List.length_set])<|ImpX.here<|ARun.ghost<|ImpX.eqs (s := 22) (av' := .sl 6 b_0 0 (l5.set n6.toNat v8).length) J (by rw [List.length_set])<|ImpX.here<|ARun.ghost<|ImpX.eqs (s := 30) (av' := .sl 6 b_0 0 (l5.set n6.toNat v8).length) J (by rw [List.length_set])<|ImpX.here<|rN<|tR<|rM J J<|ARun.qv (q_addw J J) J<|rA J J<|rN<|ATodo.stop<|ImpX.lq [1] ⟨l5.set n6.toNat v8,w64 (n6 + (1 : Int)),h,J⟩ J J
          · exact have h := iteFb hc h; tK<|ATodo.stop<|ImpX.lq [1] ⟨l5,n6,h,J⟩ J J
        · rintro σ' ⟨l11, n12, h, rfl⟩
          unfold slices_DeleteFunc_Mark_Mark_j1 at h
          refine ATodo.blk<|tR<|rM J J<|ARun.qv (q_addw J J) J<|rA J J<|rN<|ATodo.stop<|?_
          obtain rfl := Option.some.inj h
          exact hJ1 _ _ J<|ImpX.lq [0] J J J
      · refine have h := iteF hc h; ATodo.exit J<|have h := outL h hA1; ?_
        unfold slices_DeleteFunc_Mark_Mark_k2 at h
        refine tSR<|rM J J<|rM J J<|bndE h fun l14 e5 h=>ARun.qv (t_slice_sl J J (.some _ _ _ J) .none J J e5) J<|t_clear (g := MarkS.av) (Z := (⟨(0 : Int),[],(0 : Int),(⟨(0 : Int),(0 : Int),(0 : Int)⟩ : Version)⟩ : MarkS)) (L := n6) J J J J J J e5 .p0<|ARun.ghost<|ImpX.eqs (s := 0) (av' := .sl 6 b_0 0 (clr l5 n6 l14.length (⟨(0 : Int),[],(0 : Int),(⟨(0 : Int),(0 : Int),(0 : Int)⟩ : Version)⟩ : MarkS)).length) J (congrArg (AV.sl 6 b_0 0) (clr_len e5))<|ImpX.here<|ARun.ghost<|ImpX.eqs (s := 17) (av' := .sl 6 b_0 0 (clr l5 n6 l14.length (⟨(0 : Int),[],(0 : Int),(⟨(0 : Int),(0 : Int),(0 : Int)⟩ : Version)⟩ : MarkS)).length) J (congrArg (AV.sl 6 b_0 0) (clr_len e5))<|ImpX.here<|ARun.ghost<|ImpX.eqs (s := 36) (av' := .sl 6 b_0 0 (clr l5 n6 l14.length (⟨(0 : Int),[],(0 : Int),(⟨(0 : Int),(0 : Int),(0 : Int)⟩ : Version)⟩ : MarkS)).length) J (congrArg (AV.sl 6 b_0 0) (clr_len e5))<|ImpX.here<|rN<|tSR<|rM J J<|rM J J<|bndE h fun l15 e6 h=>ARun.qv (t_slice_sl J J .none (.some _ _ _ J) J J e6) J<|rA J J<|ARun.ghost<|ImpX.takeT e6 .p0<|ImpX.here<|rN<|ATodo.ret<|?_
        obtain rfl := Option.some.inj h
        exact ImpX.here ⟨_,.cons (.tmp _ _ J) .nil,_,.cons .p0 .nil,⟨b_0,J,J⟩⟩

theorem slices_SortFunc_Mark_Mark_k : SortK Tryz.prog 98 6 := ⟨fun enc hk h1 cf hO g cb blk off cap d w eg hc hH hb hs=>AnyQ.slices_SortFunc_eq Tryz.sortF98 6 Tryz.isAgg90 Tryz.sizeOf90 enc hk h1 cf hO g cb blk off cap d w eg hc hH hb hs,fun p cap fv w=>AnyF.slices_SortFunc_none Tryz.sortF98 p cap fv w⟩
theorem slices_SortFunc_Mark_Mark_c [GI : GTab] {b_0 : Bk} {p0x0 : List MarkS} {fnb : MarkS → MarkS → Option Int} {fnb_F : FuncId} [IsFn Tryz.prog fnb_F] {fnb_C : List AV} (fnb_h : ∀ {y0 y1 : _} {u : Int},fnb y0 y1 = some u → @Pu strongT Tryz.prog fnb_F (MarkS.av y0 :: MarkS.av y1 :: fnb_C) (I u)) {r : (List MarkS)} (h : slices_SortFunc_Mark_Mark p0x0 fnb = some r) : ACall Tryz.prog 98 [.sl 6 b_0 0 p0x0.length,.func (.func fnb_F) fnb_C] [(b_0,.arr 6 (p0x0.map MarkS.av))] (T0 [(b_0,.arr 6 (r.map MarkS.av))] (.tup [])) :=
  sort_acall (fn := fnb) slices_SortFunc_Mark_Mark_k J @fnb_h (fun _=>J) h

theorem Q_stopOf_c [GI : GTab] {p0x0 : Campaign} {p1x0 : Int} {p2x0 : List DeviceS} {p3x0 : List MarkS} {p4x0 : Int} {r : Int} (h : Q_stopOf p0x0 p1x0 p2x0 p3x0 p4x0 = some r) : Pu Tryz.prog 71 [Campaign.av p0x0,I p1x0,lE3 p2x0,lE4 p3x0,I p4x0] (I r) := by
  unfold Q_stopOf at h
  refine ACall.bodyN Tryz.func71 J Tryz.ntmps71 Tryz.results71 J J ?_
  refine tSR<|n_box J J J J fun b1=>rA J J<|rN<|tSR<|rA J J<|rN<|tS<|tSR<|rM J J<|ARun.qv (t_len J) J<|rM J J<|rN<|ATodo.block<|ATodo.loopI (fun x : (List MarkS) × Int=>Q_stopOf_b1 p0x0 p1x0 p2x0 p3x0 p4x0 x.1 x.2) (fun x σ'=>∃ (b5 : Bk),σ' = ⟨78,[(1,I p1x0),(3,lE4 p3x0),(4,I p4x0),(5,.ptr b1 0),(11,.sl 6 b5 0 x.1.length),(18,lE3 p2x0),(19,I (p2x0.length : Int)),(20,I x.2)],[(b1,.cells (cE1 p0x0)),(b5,aE4 x.1)]⟩) h ?_ ?_
  · exact ImpX.arr (s := 11) 6 J fun b8=>ImpX.lq [1,0] ⟨b8,J⟩ J J
  · intro x z1 σ' J1 hmk h hJ1 hA1
    obtain ⟨l6, n7⟩ := x
    obtain ⟨b5, rfl⟩ := hmk
    replace h : Q_stopOf_b1 p0x0 p1x0 p2x0 p3x0 p4x0 l6 n7 = some z1 := h
    unfold Q_stopOf_b1 at h
    refine tSR<|ARun.qv (q_lss J J) J<|rN<|tS<|ATodo.cond_d J (fun hc=>?_) (fun hc=>?_)
    · refine have h := iteT hc h; tK<|tS<|ATodo.block<|tSR<|bndE h fun v9 e1 h=>ARun.qv (t_index J J J e1 J J) J<|ARun.qv (q_load_rptr_agg J J J) J<|n_alloc J J J J fun b10=>n_store_ptr J J J J .p0 J J<|rN<|tSR<|ARun.qv (q_load_ptr_all J J .p1 J) J<|rF J J J<|rL J J .p0 J J<|bndE h fun v11 e2 h=>r_callp J (Q_WaveOf_c e2) (CoL.refl _) J<|rM J J<|ARun.qv (q_eql J J) J<|rN<|ATodo.cut (fun σ'=>∃ (b12 : Bk) (l13 : List MarkS),Q_stopOf_j1 n7 l13 = some z1 ∧ σ' = ⟨78,[(1,I p1x0),(3,lE4 p3x0),(4,I p4x0),(5,.ptr b1 0),(11,.sl 6 b12 0 l13.length),(18,lE3 p2x0),(19,I (p2x0.length : Int)),(20,I n7)],[(b1,.cells (cE1 p0x0)),(b12,aE4 l13)]⟩) ?_ ?_
      · refine ATodo.cond_d J (fun hc=>?_) (fun hc=>?_)
        · exact have h := iteT hc h; tR<|rM J J<|ARun.qv (q_load_ptr_all J J .p1 J) J<|rF J J J<|rL J J .p0 J J<|rM J J<|rM J J<|bndE h fun v14 e3 h=>t_call1 J (Q_followed_c e3) (CoL.refl _) .nil (fun _=>J) J fun b15=>bndE h fun l16 e4 h=>t_append (g := MarkS.av) J J J J J J J J (bound_src (.inl .p0) J) e4 (fun _=>.p3) J fun b17=>rA J J<|rN<|ATodo.stop<|ImpX.lq [2,2] ⟨b17,l16,h,J⟩ J J
        · exact have h := iteF hc h; tK<|ATodo.stop<|ImpX.lq [1,1] ⟨b5,l6,h,J⟩ J J
      · rintro σ' ⟨b12, l13, h, rfl⟩
        unfold Q_stopOf_j1 at h
        refine ATodo.blk<|tR<|ARun.qv (q_addw J J) J<|rM J J<|rN<|ATodo.stop<|?_
        obtain rfl := Option.some.inj h
        exact hJ1 _ _ J<|ImpX.lq [0,0] ⟨b12,J⟩ J J
    · refine have h := iteF hc h; ATodo.exit J<|have h := outL h hA1; ?_
      unfold Q_stopOf_k4 at h
      refine tSR<|rM J J<|bndE h fun v18 e5 h=>t_call1 J (slices_DeleteFunc_Mark_Mark_c (fun e=>Q_stopOf_1x_c (Option.some.inj e)) e5) (CoL.refl _) (.cons .p1 .nil) (fun _=>J) J fun b19=>rA J J<|rN<|tSR<|rM J J<|bndE h fun v20 e6 h=>t_call0 J (slices_SortFunc_Mark_Mark_c (fun e=>Q_MarkOrder_c (GI := strongT) (Option.some.inj e)) (lenOk_f e6)) (CoL.refl _) (.cons .p0 .nil) J J<|ARun.ghost<|ImpX.eqs (s := 11) (av' := .sl 6 b19 0 v20.length) J (congrArg (AV.sl 6 b19 0) (lenOk_l e6))<|ImpX.here<|ARun.ghost<|ImpX.eqs (s := 40) (av' := .sl 6 b19 0 v20.length) J (congrArg (AV.sl 6 b19 0) (lenOk_l e6))<|ImpX.here<|ARun.ghost<|ImpX.eqs (s := 41) (av' := .sl 6 b19 0 v20.length) J (congrArg (AV.sl 6 b19 0) (lenOk_l e6))<|ImpX.here<|rN<|tSR<|rA J J<|rN<|tS<|tSR<|rM J J<|ARun.qv (t_len_sl J) J<|rM J J<|rN<|ATodo.block<|ATodo.loopI (fun x : Int × Int=>Q_stopOf_b2 p0x0 p1x0 v20 x.1 x.2) (fun x σ'=>σ' = ⟨78,[(1,I p1x0),(5,.ptr b1 0),(14,I x.1),(43,.sl 6 b19 0 v20.length),(44,I (v20.length : Int)),(45,I x.2)],[(b1,.cells (cE1 p0x0)),(b19,aE4 v20)]⟩) h ?_ ?_
      · exact ImpX.lq [1,0] J J J
      · intro x z2 σ' J2 hmk h hJ2 hA2
        obtain ⟨n23, n24⟩ := x
        obtain rfl := hmk
        replace h : Q_stopOf_b2 p0x0 p1x0 v20 n23 n24 = some z2 := h
        unfold Q_stopOf_b2 at h
        refine tSR<|ARun.qv (q_lss J J) J<|rN<|tS<|ATodo.cond_d J (fun hc=>?_) (fun hc=>?_)
        · refine have h := iteT hc h; tK<|tS<|ATodo.block<|tSR<|rM J J<|bndE h fun v25 e7 h=>ARun.qv (t_index_sl J J J e7) J<|ARun.qv (t_load_aptr_agg (g := MarkS.av) J J (.inl .p1) J e7 J) J<|n_alloc J J J J fun b26=>rA J J<|n_store_ptr J J J J .p0 J J<|rN<|tS<|tSR<|rF J J J<|rL J J .p0 J J<|ARun.qv (q_eql J J) J<|rN<|ATodo.cut (fun σ'=>∃ (n27 : Int),Q_stopOf_j2 p0x0 p1x0 n24 v25 n27 = some z2 ∧ σ' = ⟨78,[(1,I p1x0),(5,.ptr b1 0),(14,I n27),(15,I n24),(16,.ptr b26 0),(43,.sl 6 b19 0 v20.length),(44,I (v20.length : Int)),(45,I n24)],[(b1,.cells (cE1 p0x0)),(b26,.cells (cE4 v25)),(b19,aE4 v20)]⟩) ?_ ?_
          · refine ATodo.cond_d J (fun hc=>?_) (fun hc=>?_)
            · exact have h := iteT hc h; tR<|rM J J<|ARun.qv (q_addw J J) J<|rA J J<|rN<|ATodo.stop<|ImpX.lq [1,0,0] ⟨w64 (n23 + (1 : Int)),h,J⟩ J J
            · exact have h := iteF hc h; tK<|ATodo.stop<|ImpX.lq [1,0,0] ⟨n23,h,J⟩ J J
          · rintro σ' ⟨n27, h, rfl⟩
            unfold Q_stopOf_j2 at h
            refine tSR<|rF J J J<|rL J J .p0 J J<|rM J J<|bndE h fun v28 e8 h=>ARun.qv (t_index J J J e8 J J) J<|ARun.qv (q_load_rptr_agg J J J) J<|n_alloc J J J J fun b29=>n_store_ptr J J J J .p0 J J<|rN<|tS<|ATodo.cut (fun σ'=>∃ (c30 : Bool),Q_stopOf_j3 n24 v25 n27 c30 = some z2 ∧ σ' = ⟨78,[(1,I p1x0),(5,.ptr b1 0),(14,I n27),(16,.ptr b26 0),(43,.sl 6 b19 0 v20.length),(44,I (v20.length : Int)),(45,I n24),(74,.bool c30)],[(b1,.cells (cE1 p0x0)),(b26,.cells (cE4 v25)),(b19,aE4 v20)]⟩) ?_ ?_
            · refine tR<|rM J J<|ARun.qv (q_addw J J) J<|rF J J J<|rL J J .p0 J J<|ARun.qv (q_geq J J) J<|rM J J<|ARun.guard_dt J J J (fun hc=>?_) (fun hc=>?_)
              · rw [andTd hc] at h
                exact rM J J<|rY J J J<|ARun.qv (q_mulw J J) J<|rY J J J<|rF J J J<|rY J J J<|rL J J .p0 J J<|rY J J J<|rM J J<|rY J J J<|ARun.qv (q_addw J J) J<|rY J J J<|ARun.qv (q_mulw J J) J<|rY J J J<|ARun.qv (q_gtr J J) J<|rT J J J<|rN<|ATodo.stop<|ImpX.lq [1,1,1] ⟨decide ((w64 (v28.Fails * (w64 (n24 + (1 : Int))))) < (w64 (n27 * (1000 : Int)))),h,J⟩ J J
              · rw [andFd hc] at h
                exact rG J J J J<|rG J J J J<|rG J J J J<|rG J J J J<|rG J J J J<|rG J J J J<|rG J J J J<|rE J J J<|rN<|ATodo.stop<|ImpX.lq [1,1,1] ⟨false,h,J⟩ J J
            · rintro σ' ⟨c30, h, rfl⟩
              unfold Q_stopOf_j3 at h
              refine ATodo.cond J (fun hc=>?_) (fun hc=>?_)
              · refine have h := iteT hc h; tSR<|rF J J J<|rL J J .p1 J J<|rA J J<|rN<|ATodo.ret<|have h := outL h hA2; ?_
                obtain rfl := Option.some.inj h
                exact ImpX.here ⟨_,.cons (.tmp _ _ J) .nil,J⟩
              · refine have h := iteFb hc h; tK<|ATodo.blk<|tR<|ARun.qv (q_addw J J) J<|rM J J<|rN<|ATodo.stop<|?_
                obtain rfl := Option.some.inj h
                exact hJ2 _ _ J<|ImpX.lq [0,1] J J J
        · refine have h := iteF hc h; ATodo.exit J<|have h := outL h hA2; tSR<|rA J J<|rN<|ATodo.ret<|?_
          obtain rfl := Option.some.inj h
          exact ImpX.here ⟨_,.cons (.tmp _ _ J) .nil,J⟩

theorem Q_StoppedOf_c [GI : GTab] {p0x0 : Campaign} {p1x0 : List DeviceS} {p2x0 : List MarkS} {p3x0 : Int} {r : Int} (h : Q_StoppedOf p0x0 p1x0 p2x0 p3x0 = some r) : Pu Tryz.prog 27 [Campaign.av p0x0,lE3 p1x0,lE4 p2x0,I p3x0] (I r) := by
  unfold Q_StoppedOf at h
  refine ACall.bodyN Tryz.func27 J Tryz.ntmps27 Tryz.results27 J J ?_
  refine tSR<|n_box J J J J fun b1=>rA J J<|rN<|tSR<|rA J J<|rN<|tS<|tSR<|rF J J J<|rL J J .p0 J J<|ARun.qv (t_len J) J<|rM J J<|rN<|ATodo.block<|ATodo.loopI (fun x : Int × Int=>Q_StoppedOf_b1 p0x0 p1x0 p2x0 p3x0 x.1 x.2) (fun x σ'=>σ' = ⟨38,[(1,lE3 p1x0),(2,lE4 p2x0),(3,I p3x0),(4,.ptr b1 0),(9,I x.1),(14,I (p0x0.Waves.length : Int)),(15,I x.2)],[(b1,.cells (cE1 p0x0))]⟩) h ?_ ?_
  · exact ImpX.lq [0] J J J
  · intro x z1 σ' J1 hmk h hJ1 hA1
    obtain ⟨n4, n5⟩ := x
    obtain rfl := hmk
    replace h : Q_StoppedOf_b1 p0x0 p1x0 p2x0 p3x0 n4 n5 = some z1 := h
    unfold Q_StoppedOf_b1 at h
    refine tSR<|ARun.qv (q_lss J J) J<|rN<|tS<|ATodo.cond_d J (fun hc=>?_) (fun hc=>?_)
    · refine have h := iteT hc h; tK<|tS<|ATodo.block<|tSR<|rM J J<|rA J J<|rN<|tSR<|ARun.qv (q_load_ptr_all J J .p0 J) J<|rM J J<|rM J J<|rM J J<|rM J J<|bndE h fun v6 e1 h=>r_callp J (Q_stopOf_c e1) (CoL.refl _) J<|rA J J<|rN<|tS<|ATodo.cut (fun σ'=>∃ (c7 : Bool),Q_StoppedOf_j1 n4 n5 v6 c7 = some z1 ∧ σ' = ⟨38,[(1,lE3 p1x0),(2,lE4 p2x0),(3,I p3x0),(4,.ptr b1 0),(9,I n4),(11,I v6),(14,I (p0x0.Waves.length : Int)),(15,I n5),(34,.bool c7)],[(b1,.cells (cE1 p0x0))]⟩) ?_ ?_
      · refine tR<|rM J J<|ARun.qv (q_geq J J) J<|rM J J<|ARun.guard_dt J J J (fun hc=>?_) (fun hc=>?_)
        · rw [andTd hc] at h
          refine rM J J<|rY J J J<|ARun.qv (q_lss J J) J<|rY J J J<|rM J J<|ARun.guard_df J J J (fun hc=>?_) (fun hc=>?_)
          · rw [orFd hc] at h
            exact rM J J<|rY J J J<|rM J J<|rY J J J<|ARun.qv (q_lss J J) J<|rY J J J<|rE J J J<|rT J J J<|rN<|ATodo.stop<|ImpX.lq [0] ⟨decide (v6 < n4),h,J⟩ J J
          · rw [orTd hc] at h
            exact rG J J J J<|rG J J J J<|rY J J J<|rT J J J<|rT J J J<|rN<|ATodo.stop<|ImpX.lq [0] ⟨true,h,J⟩ J J
        · rw [andFd hc] at h
          exact rG J J J J<|rG J J J J<|ARun.guard_und J J J<|ARun.guard_und J J J<|ARun.guard_und J J J<|rG J J J J<|rE J J J<|rN<|ATodo.stop<|ImpX.lq [0] ⟨false,h,J⟩ J J
      · rintro σ' ⟨c7, h, rfl⟩
        unfold Q_StoppedOf_j1 at h
        refine ATodo.cut (fun σ'=>∃ (n8 : Int),Q_StoppedOf_j2 n5 n8 = some z1 ∧ σ' = ⟨38,[(1,lE3 p1x0),(2,lE4 p2x0),(3,I p3x0),(4,.ptr b1 0),(9,I n8),(14,I (p0x0.Waves.length : Int)),(15,I n5)],[(b1,.cells (cE1 p0x0))]⟩) ?_ ?_
        · refine ATodo.cond J (fun hc=>?_) (fun hc=>?_)
          · exact have h := iteT hc h; tR<|rM J J<|rA J J<|rN<|ATodo.stop<|ImpX.lq [0] ⟨v6,h,J⟩ J J
          · exact have h := iteFb hc h; tK<|ATodo.stop<|ImpX.lq [0] ⟨n4,h,J⟩ J J
        · rintro σ' ⟨n8, h, rfl⟩
          unfold Q_StoppedOf_j2 at h
          refine ATodo.blk<|tR<|ARun.qv (q_addw J J) J<|rM J J<|rN<|ATodo.stop<|?_
          obtain rfl := Option.some.inj h
          exact hJ1 _ _ J<|ImpX.lq [0] J J J
    · refine have h := iteF hc h; ATodo.exit J<|have h := outL h hA1; tSR<|rM J J<|rA J J<|rN<|ATodo.ret<|?_
      obtain rfl := Option.some.inj h
      exact ImpX.here ⟨_,.cons (.tmp _ _ J) .nil,J⟩

theorem slices_Sort_int_int_k : Sort1 Tryz.prog 64 (Value.int .i64) srtI := ⟨fun blk off cap zs w hH hb hs=>Tryz.slices_Sort_int blk off cap zs w hH hb hs,fun p cap w=>Tryz.slices_Sort_int_none p cap w⟩
theorem slices_Sort_int_int_c [GI : GTab] {b_0 : Bk} {p0x0 : List Int} {r : (List Int)} (h : slices_Sort_int_int p0x0 = some r) : ACall Tryz.prog 64 [.sl 1 b_0 0 p0x0.length] [(b_0,.arr 1 (p0x0.map I))] (T0 [(b_0,.arr 1 (r.map I))] (.tup [])) :=
  sortI_acall slices_Sort_int_int_k h

theorem Q_StandsOf_c [GI : GTab] {p0x0 : Campaign} {p1x0 : DeviceS} {p2x0 : List MarkS} {p3x0 : Int} {r : Standing} (h : Q_StandsOf p0x0 p1x0 p2x0 p3x0 = some r) : Pu Tryz.prog 21 [Campaign.av p0x0,DeviceS.av p1x0,lE4 p2x0,I p3x0] (Standing.av r) := by
  unfold Q_StandsOf at h
  refine ACall.bodyN Tryz.func21 J Tryz.ntmps21 Tryz.results21 J J ?_
  refine tSR<|n_box J J J J fun b1=>n_box J J J J fun b2=>n_alloc J J J J fun b3=>rN<|tSR<|rF J J J<|ARun.qv (n_load_ptr_part J J .p1 J J) J<|ARun.qv (n_build J J J J J) J<|n_alloc J J J J fun b4=>n_store_ptr J J J J .p0 J J<|rN<|tS<|tSR<|ARun.qv (q_load_ptr_all J J .p3 J) J<|rF J J J<|rL J J .p2 J J<|rM J J<|rM J J<|bndE h fun v5 e1 h=>t_call1 J (Q_followed_c e1) (CoL.refl _) .nil (fun _=>J) J fun b6=>ARun.qv (t_len_sl J) J<|rM J J<|rN<|ATodo.block<|ATodo.loopI (fun x : Int × Int × Int × Int × Int × Int × Int=>Q_StandsOf_b1 v5 x.1 x.2.1 x.2.2.1 x.2.2.2.1 x.2.2.2.2.1 x.2.2.2.2.2.1 x.2.2.2.2.2.2) (fun x σ'=>σ' = ⟨47,[(8,.ptr b3 0),(9,.ptr b4 0),(20,.sl 6 b6 0 v5.length),(21,I (v5.length : Int)),(22,I x.2.2.2.2.2.2)],[(b3,.cells [I (0 : Int),I (0 : Int),I (0 : Int),I (0 : Int),I (0 : Int),I (0 : Int)]),(b4,.cells [I x.1,I x.2.1,I x.2.2.1,I x.2.2.2.1,I x.2.2.2.2.1,I x.2.2.2.2.2.1]),(b6,aE4 v5)]⟩) h ?_ ?_
  · exact ImpX.lq [2,1,0] J J J
  · intro x z1 σ' J1 hmk h hJ1 hA1
    obtain ⟨n14, n15, n16, n17, n18, n19, n20⟩ := x
    obtain rfl := hmk
    replace h : Q_StandsOf_b1 v5 n14 n15 n16 n17 n18 n19 n20 = some z1 := h
    unfold Q_StandsOf_b1 at h
    refine tSR<|ARun.qv (q_lss J J) J<|rN<|tS<|ATodo.cond_d J (fun hc=>?_) (fun hc=>?_)
    · refine have h := iteT hc h; tK<|tS<|ATodo.block<|tSR<|bndE h fun v21 e2 h=>ARun.qv (t_index_sl J J J e2) J<|ARun.qv (t_load_aptr_agg (g := MarkS.av) J J (.inl .p2) J e2 J) J<|n_alloc J J J J fun b22=>n_store_ptr J J J J .p0 J J<|rN<|tS<|ATodo.regionT (id := 5) (A := [0,1,0,4,3,19,63,127]) (H0 := [(b4,.cells [I n14,I n15,I n16,I n17,I n18,I n19])]) (HH := fun β=>[(b4,.cells [I v21.Kind,I n15,I n16,I n17,I n18,I n19]),(b22,.cells (cE4 v21)),(b3,.cells [I (0 : Int),I (0 : Int),I (0 : Int),I (0 : Int),I (0 : Int),I (0 : Int)]),(b6,aE4 v5)]) 6 mixed J (by kernel_rfl) (by kernel_rfl) [⟨none,some 5,[],fun _=>(b4,.cells [I n14,I n15,I n16,I n17,I n18,I n19]),none,[]⟩,⟨some 5,none,[],fun _=>(b4,.cells [I v21.Kind,I n15,I n16,I n17,I n18,I n19]),none,[]⟩] [] J (by kernel_rfl) J (.cons .p2 .nil) (fun _=>J)<|AT.am 5 J J<|AM.qv (n_field_ptr J J) J<|AM.qv (q_load_ptr J J .p0 J) J<|AM.qv (n_field_ptr J J) J<|AM.qv (q_load_ptr J J .p0 J) J<|AM.qv (n_field_ptr J J) J<|AM.nil<|AT.run0 (Ti := [(b4,.cells [I n14,I n15,I n16,I n17,I n18,I n19])]) (Pi := [(b4,.cells [I v21.Kind,I n15,I n16,I n17,I n18,I n19])]) (fun _=>J) (fun _=>J) (fun _=>J) J J ?_ ?_
      · exact n_store_ptr J J J J .p0 J J<|ARun.nil ⟨_,J⟩
      refine AT.nilN (fun _=>J) fun β=>rF J J J<|n_store_ptr J J J J .p0 J J<|rN<|tSR<|rF J J J<|rL J J .p1 J J<|rN<|ATodo.block<|tSR<|ARun.qv (q_eql J J) J<|rA J J<|rN<|ATodo.cut (fun σ'=>∃ (n23 : Int) (n24 : Int) (n25 : Int) (n26 : Int),Q_StandsOf_j1 n20 v21 n23 n24 n25 n26 = some z1 ∧ σ' = ⟨47,[(8,.ptr b3 0),(9,.ptr b4 0),(20,.sl 6 b6 0 v5.length),(21,I (v5.length : Int)),(22,I n20)],[(b3,.cells [I (0 : Int),I (0 : Int),I (0 : Int),I (0 : Int),I (0 : Int),I (0 : Int)]),(b4,.cells [I v21.Kind,I v21.At,I n23,I n24,I n25,I n26]),(b6,aE4 v5)]⟩) ?_ ?_
      · refine ATodo.cond_d J (fun hc=>?_) (fun hc=>?_)
        · exact have h := iteT hc h; tR<|rF J J J<|ARun.qv (n_load_ptr_part J J .p1 J J) J<|rF J J J<|n_store_ptr J J J J .p0 J J<|rN<|ATodo.stop<|ImpX.lq [2,0,1] ⟨v21.Version.Major,v21.Version.Minor,v21.Version.Patch,n19,h,J⟩ J J
        · refine have h := iteF hc h; tSR<|ARun.qv (q_eql J J) J<|rA J J<|rN<|ATodo.cut (fun σ'=>∃ (n27 : Int),Q_StandsOf_j2 n16 n17 n18 n20 v21 n27 = some z1 ∧ σ' = ⟨47,[(8,.ptr b3 0),(9,.ptr b4 0),(20,.sl 6 b6 0 v5.length),(21,I (v5.length : Int)),(22,I n20)],[(b3,.cells [I (0 : Int),I (0 : Int),I (0 : Int),I (0 : Int),I (0 : Int),I (0 : Int)]),(b4,.cells [I v21.Kind,I v21.At,I n16,I n17,I n18,I n27]),(b6,aE4 v5)]⟩) ?_ ?_
          · refine ATodo.cond_d J (fun hc=>?_) (fun hc=>?_)
            · exact have h := iteT hc h; tR<|rF J J J<|rL J J .p0 J J<|ARun.qv (q_addw J J) J<|rF J J J<|n_store_ptr J J J J .p0 J J<|rN<|ATodo.stop<|ImpX.lq [2,0,1] ⟨w64 (n19 + (1 : Int)),h,J⟩ J J
            · exact have h := iteF hc h; tK<|ATodo.stop<|ImpX.lq [2,0,1] ⟨n19,h,J⟩ J J
          · rintro σ' ⟨n27, h, rfl⟩
            unfold Q_StandsOf_j2 at h
            exact ATodo.stop<|ImpX.lq [0,0,0] ⟨n16,n17,n18,n27,h,J⟩ J J
      · rintro σ' ⟨n23, n24, n25, n26, h, rfl⟩
        unfold Q_StandsOf_j1 at h
        refine ATodo.blk<|ATodo.blk<|tR<|ARun.qv (q_addw J J) J<|rM J J<|rN<|ATodo.stop<|?_
        obtain rfl := Option.some.inj h
        exact hJ1 _ _ J<|ImpX.lq [0,0,0] J J J
    · refine have h := iteF hc h; ATodo.exit J<|have h := outL h hA1; tSR<|ARun.qv (q_load_ptr_all J J .p1 J) J<|n_store_ptr J J J J .p0 J J<|rN<|ATodo.ret<|?_
      obtain rfl := Option.some.inj h
      exact ImpX.here ⟨_,.cons (.all _ _ _ _ _ _ J .p0 TUnder.h TInfo.h J J) .nil,J⟩

theorem Q_over_c [GI : GTab] {p0x0 : Campaign} {p1x0 : DeviceS} {p2x0 : List MarkS} {p3x0 : Int} {r : Bool} (h : Q_over p0x0 p1x0 p2x0 p3x0 = some r) : Pu Tryz.prog 70 [Campaign.av p0x0,DeviceS.av p1x0,lE4 p2x0,I p3x0] (.bool r) := by
  unfold Q_over at h
  refine ACall.bodyN Tryz.func70 J Tryz.ntmps70 Tryz.results70 J J ?_
  refine tSR<|n_box J J J J fun b1=>n_box J J J J fun b2=>rA J J<|rN<|tSR<|ARun.qv (q_load_ptr_all J J .p1 J) J<|ARun.qv (q_load_ptr_all J J .p0 J) J<|rM J J<|rM J J<|bndE h fun v3 e1 h=>r_callp J (Q_StandsOf_c e1) (CoL.refl _) J<|n_alloc J J J J fun b4=>n_store_ptr J J J J .p0 J J<|rN<|tS<|ATodo.cut (fun σ'=>∃ (c5 : Bool),Q_over_j1 c5 = some r ∧ σ' = ⟨30,[(8,.bool c5)],[]⟩) ?_ ?_
  · refine tR<|rF J J J<|ARun.qv (n_load_ptr_part J J .p0 J J) J<|rF J J J<|ARun.qv (n_load_ptr_part J J .p2 J J) J<|ARun.qv (t_teq (g := Version.av) (X := v3.Version) (Y := p0x0.Target) J J J J J) J<|rM J J<|ARun.guard_df J J J (fun hc=>?_) (fun hc=>?_)
    · rw [orFd hc] at h
      refine rF J J J<|rY J J J<|rL J J .p0 J J<|rY J J J<|ARun.qv (q_geq J J) J<|rE J J J<|rM J J<|ARun.guard_df J J J (fun hc=>?_) (fun hc=>?_)
      · rw [orFd hc] at h
        exact rF J J J<|rY J J J<|rL J J .p0 J J<|rY J J J<|ARun.qv (q_eql J J) J<|rE J J J<|rA J J<|rN<|ATodo.stop<|ImpX.lq [] ⟨decide (v3.Kind = (5 : Int)),h,J⟩ J J
      · rw [orTd hc] at h
        exact rG J J J J<|rG J J J J<|rT J J J<|rA J J<|rN<|ATodo.stop<|ImpX.lq [] ⟨true,h,J⟩ J J
    · rw [orTd hc] at h
      exact rG J J J J<|rG J J J J<|rT J J J<|rM J J<|rG J J J J<|rG J J J J<|rG J J J J<|rT J J J<|rA J J<|rN<|ATodo.stop<|ImpX.lq [] ⟨true,h,J⟩ J J
  · rintro σ' ⟨c5, h, rfl⟩
    unfold Q_over_j1 at h
    refine ATodo.ret<|?_
    obtain rfl := Option.some.inj h
    exact ImpX.here ⟨_,.cons (.tmp _ _ J) .nil,J⟩

theorem Q_BeginsOf_1x_1x_c [GI : GTab] {p0x0 : DeviceS} {p1x0 : Campaign} {p2x0 : Int} {p3x0 : List MarkS} {p4x0 : Int} {r : Bool} (h : Q_BeginsOf_1x_1x p0x0 p1x0 p2x0 p3x0 p4x0 = some r) : Pu Tryz.prog 68 [DeviceS.av p0x0,.rptr [.str p1x0.Key,I p1x0.Target.Major,I p1x0.Target.Minor,I p1x0.Target.Patch,I p1x0.At,lE2 p1x0.Waves,I p1x0.Hours.From,I p1x0.Hours.To,I p1x0.Room],.rptr [I p2x0],.rptr [lE4 p3x0],.rptr [I p4x0]] (.bool r) := by
  unfold Q_BeginsOf_1x_1x at h
  refine ACall.bodyN Tryz.func68 J Tryz.ntmps68 Tryz.results68 J J ?_
  refine tSR<|n_box J J J J fun b1=>rA J J<|rN<|tS<|ATodo.cut (fun σ'=>∃ (c2 : Bool),Q_BeginsOf_1x_1x_j1 c2 = some r ∧ σ' = ⟨22,[(6,.bool c2)],[]⟩) ?_ ?_
  · refine ATodo.regionM (id := 1) (A := [0,0,2,7,0,16,63,127,255,255,255,255,4095,8191,16383,32767]) 16 mixed J (by kernel_rfl) (by kernel_rfl)<|AM.qv (q_load_rptr_agg J J J) J<|AM.qv (n_field_ptr J J) J<|AM.qv (q_load_ptr J J .p0 J) J<|bndE h fun v3 e1 h=>AM.callp J (Q_WaveOf_c e1) (CoL.refl _) J<|AM.qv (q_load_rptr J J J) J<|AM.qv (q_subw J J) J<|AM.qv (q_eql J J) J<|AM.qv (q_move J) J<|AM.guard_dt J J J (fun hc=>?_) (fun hc=>?_)
    · exact have h := iteT hc h; AM.qv (q_load_rptr_agg J J J) J<|AM.guard_yes J J J<|AM.qv (q_load_ptr_all J J .p0 J) J<|AM.guard_yes J J J<|AM.qv (q_load_rptr J J J) J<|AM.guard_yes J J J<|AM.qv (q_load_rptr J J J) J<|AM.guard_yes J J J<|bndE h fun v4 e2 h=>AM.callp J (Q_over_c e2) (CoL.refl _) J<|AM.guard_yes J J J<|AM.qv (q_not J) J<|AM.qv (q_pick_t J J) J<|AM.qv (q_assign J) J<|AM.nil<|rN<|ATodo.stop<|ImpX.lq [] ⟨!v4,h,J⟩ J J
    · exact have h := iteF hc h; AM.guard_no J J J J<|AM.guard_no J J J J<|AM.guard_no J J J J<|AM.guard_no J J J J<|AM.guard_no J J J J<|AM.qv (q_pick_f J J) J<|AM.qv (q_assign J) J<|AM.nil<|rN<|ATodo.stop<|ImpX.lq [] ⟨false,h,J⟩ J J
  · rintro σ' ⟨c2, h, rfl⟩
    unfold Q_BeginsOf_1x_1x_j1 at h
    refine ATodo.ret<|?_
    obtain rfl := Option.some.inj h
    exact ImpX.here ⟨_,.cons (.tmp _ _ J) .nil,J⟩

theorem slices_IndexFunc_Device_Device_c [GI : GTab] {p0x0 : List DeviceS} {fnb : DeviceS → Option Bool} {fnb_F : FuncId} [IsFn Tryz.prog fnb_F] {fnb_C : List AV} (fnb_h : ∀ {y0 : _} {u : Bool},fnb y0 = some u → Pu Tryz.prog fnb_F (DeviceS.av y0 ::  fnb_C) (.bool u)) {r : Int} (h : slices_IndexFunc_Device_Device p0x0 fnb = some r) : Pu Tryz.prog 114 [lE3 p0x0,.func (.func fnb_F) fnb_C] (I r) := by
  unfold slices_IndexFunc_Device_Device at h
  refine ACall.bodyN Tryz.func114 J Tryz.ntmps114 Tryz.results114 J J ?_
  refine tSR<|rA J J<|rN<|tS<|tSR<|rM J J<|ARun.qv (t_len J) J<|rM J J<|rN<|ATodo.block<|ATodo.loopI (fun x : Int=>slices_IndexFunc_Device_Device_b1 p0x0 fnb x) (fun x σ'=>σ' = ⟨19,[(0,lE3 p0x0),(1,.func (.func fnb_F) fnb_C),(7,I (p0x0.length : Int)),(8,I x)],[]⟩) h ?_ ?_
  · exact ImpX.lq [] J J J
  · intro n2 z1 σ' J1 hmk h hJ1 hA1
    obtain rfl := hmk
    replace h : slices_IndexFunc_Device_Device_b1 p0x0 fnb n2 = some z1 := h
    unfold slices_IndexFunc_Device_Device_b1 at h
    refine tSR<|ARun.qv (q_lss J J) J<|rN<|tS<|ATodo.cond_d J (fun hc=>?_) (fun hc=>?_)
    · refine have h := iteT hc h; tK<|tS<|ATodo.block<|tSR<|rM J J<|rA J J<|rN<|tSR<|rM J J<|rM J J<|rM J J<|bndE h fun v3 e1 h=>ARun.qv (t_index J J J e1 J J) J<|ARun.qv (q_load_rptr_agg J J J) J<|bndE h fun v4 e2 h=>r_callvp J J (fnb_h e2) (CoL.refl _) J<|rN<|ATodo.cond J (fun hc=>?_) (fun hc=>?_)
      · refine have h := iteT hc h; tSR<|rM J J<|rA J J<|rN<|ATodo.ret<|have h := outL h hA1; ?_
        obtain rfl := Option.some.inj h
        exact ImpX.here ⟨_,.cons (.tmp _ _ J) .nil,J⟩
      · refine have h := iteFb hc h; tK<|ATodo.blk<|tR<|ARun.qv (q_addw J J) J<|rM J J<|rN<|ATodo.stop<|?_
        obtain rfl := Option.some.inj h
        exact hJ1 _ _ J<|ImpX.lq [] J J J
    · refine have h := iteF hc h; ATodo.exit J<|have h := outL h hA1; tSR<|rA J J<|rN<|ATodo.ret<|?_
      obtain rfl := Option.some.inj h
      exact ImpX.here ⟨_,.cons (.tmp _ _ J) .nil,J⟩

theorem slices_ContainsFunc_Device_Device_c [GI : GTab] {p0x0 : List DeviceS} {fnb : DeviceS → Option Bool} {fnb_F : FuncId} [IsFn Tryz.prog fnb_F] {fnb_C : List AV} (fnb_h : ∀ {y0 : _} {u : Bool},fnb y0 = some u → Pu Tryz.prog fnb_F (DeviceS.av y0 ::  fnb_C) (.bool u)) {r : Bool} (h : slices_ContainsFunc_Device_Device p0x0 fnb = some r) : Pu Tryz.prog 67 [lE3 p0x0,.func (.func fnb_F) fnb_C] (.bool r) := by
  unfold slices_ContainsFunc_Device_Device at h
  refine ACall.bodyN Tryz.func67 J Tryz.ntmps67 Tryz.results67 J J ?_
  refine tSR<|rA J J<|rN<|tSR<|rM J J<|rM J J<|bndE h fun v1 e1 h=>r_callpB J (slices_IndexFunc_Device_Device_c fnb_h e1) (.cons (.co (.refl _)) (.cons (.co (.refl _)) .nil)) J J<|ARun.qv (q_geq J J) J<|rA J J<|rN<|ATodo.ret<|?_
  obtain rfl := Option.some.inj h
  exact ImpX.here ⟨_,.cons (.tmp _ _ J) .nil,J⟩

theorem Q_BeginsOf_1x_c [GI : GTab] {p0x0 : Int} {p1x0 : List DeviceS} {p2x0 : Campaign} {p3x0 : Int} {p4x0 : List MarkS} {r : Bool} (h : Q_BeginsOf_1x p0x0 p1x0 p2x0 p3x0 p4x0 = some r) : Pu Tryz.prog 66 [I p0x0,.rptr [lE3 p1x0],.rptr [.str p2x0.Key,I p2x0.Target.Major,I p2x0.Target.Minor,I p2x0.Target.Patch,I p2x0.At,lE2 p2x0.Waves,I p2x0.Hours.From,I p2x0.Hours.To,I p2x0.Room],.rptr [I p3x0],.rptr [lE4 p4x0]] (.bool r) := by
  unfold Q_BeginsOf_1x at h
  refine ACall.bodyN Tryz.func66 J Tryz.ntmps66 Tryz.results66 J J ?_
  refine tSR<|n_box J J J J fun b1=>rA J J<|rN<|tSR<|ARun.qv (q_load_rptr J J J) J<|ARun.qv (q_makeFunc J) J<|bndE h fun v2 e1 h=>r_callpB J (slices_ContainsFunc_Device_Device_c (fun e=>Q_BeginsOf_1x_1x_c e) e1) (.cons (.co (.refl _)) (.cons (.funcL _ _ _ (.cons (.co (.refl _)) (.cons (.co (.refl _)) (.cons (.co (.refl _)) (.cons (.boxL _ _ _ .p0 (.cons (.co (.refl _)) .nil)) .nil))))) .nil)) J J<|ARun.qv (q_not J) J<|rA J J<|rN<|ATodo.ret<|?_
  obtain rfl := Option.some.inj h
  exact ImpX.here ⟨_,.cons (.tmp _ _ J) .nil,J⟩

theorem slices_IndexFunc_int_int_c [GI : GTab] {p0x0 : List Int} {fnb : Int → Option Bool} {fnb_F : FuncId} [IsFn Tryz.prog fnb_F] {fnb_C : List AV} (fnb_h : ∀ {y0 : _} {u : Bool},fnb y0 = some u → Pu Tryz.prog fnb_F (I y0 ::  fnb_C) (.bool u)) {r : Int} (h : slices_IndexFunc_int_int p0x0 fnb = some r) : Pu Tryz.prog 65 [lE0 p0x0,.func (.func fnb_F) fnb_C] (I r) := by
  unfold slices_IndexFunc_int_int at h
  refine ACall.bodyN Tryz.func65 J Tryz.ntmps65 Tryz.results65 J J ?_
  refine tSR<|rA J J<|rN<|tS<|tSR<|rM J J<|ARun.qv (t_len J) J<|rM J J<|rN<|ATodo.block<|ATodo.loopI (fun x : Int=>slices_IndexFunc_int_int_b1 p0x0 fnb x) (fun x σ'=>σ' = ⟨19,[(0,lE0 p0x0),(1,.func (.func fnb_F) fnb_C),(7,I (p0x0.length : Int)),(8,I x)],[]⟩) h ?_ ?_
  · exact ImpX.lq [] J J J
  · intro n2 z1 σ' J1 hmk h hJ1 hA1
    obtain rfl := hmk
    replace h : slices_IndexFunc_int_int_b1 p0x0 fnb n2 = some z1 := h
    unfold slices_IndexFunc_int_int_b1 at h
    refine tSR<|ARun.qv (q_lss J J) J<|rN<|tS<|ATodo.cond_d J (fun hc=>?_) (fun hc=>?_)
    · refine have h := iteT hc h; tK<|tS<|ATodo.block<|tSR<|rM J J<|rA J J<|rN<|tSR<|rM J J<|rM J J<|rM J J<|bndE h fun v3 e1 h=>ARun.qv (t_index J J J e1 J J) J<|ARun.qv (q_load_rptr J J J) J<|bndE h fun v4 e2 h=>r_callvp J J (fnb_h e2) (CoL.refl _) J<|rN<|ATodo.cond J (fun hc=>?_) (fun hc=>?_)
      · refine have h := iteT hc h; tSR<|rM J J<|rA J J<|rN<|ATodo.ret<|have h := outL h hA1; ?_
        obtain rfl := Option.some.inj h
        exact ImpX.here ⟨_,.cons (.tmp _ _ J) .nil,J⟩
      · refine have h := iteFb hc h; tK<|ATodo.blk<|tR<|ARun.qv (q_addw J J) J<|rM J J<|rN<|ATodo.stop<|?_
        obtain rfl := Option.some.inj h
        exact hJ1 _ _ J<|ImpX.lq [] J J J
    · refine have h := iteF hc h; ATodo.exit J<|have h := outL h hA1; tSR<|rA J J<|rN<|ATodo.ret<|?_
      obtain rfl := Option.some.inj h
      exact ImpX.here ⟨_,.cons (.tmp _ _ J) .nil,J⟩

theorem Q_BeginsOf_c [GI : GTab] {p0x0 : Campaign} {p1x0 : List DeviceS} {p2x0 : List MarkS} {p3x0 : Int} {r : (List Int)} (h : Q_BeginsOf p0x0 p1x0 p2x0 p3x0 = some r) : ACall Tryz.prog 26 [Campaign.av p0x0,lE3 p1x0,lE4 p2x0,I p3x0] [] (T1 (fun d_0=>[(d_0,aE0 r)]) (fun d_0=>.sl 1 d_0 0 r.length)) := by
  unfold Q_BeginsOf at h
  refine ACall.lessH ?_
  refine ACall.bodyN Tryz.func26 J Tryz.ntmps26 Tryz.results26 J J ?_
  refine tSR<|n_box J J J J fun b1=>n_box J J J J fun b2=>n_box J J J J fun b3=>rA J J<|rN<|tSR<|ARun.qv (q_load_ptr_all J J .p2 J) J<|rL J J .p1 J J<|rL J J .p0 J J<|rM J J<|bndE h fun v4 e1 h=>r_callp J (Q_StoppedOf_c e1) (CoL.refl _) J<|rA J J<|rN<|tSR<|rA J J<|rN<|tSR<|rF J J J<|rL J J .p2 J J<|rA J J<|rN<|tS<|tSR<|rF J J J<|rL J J .p2 J J<|ARun.qv (t_len J) J<|rM J J<|rN<|ATodo.block<|ATodo.loopI (fun x : (List Int) × Int × Int=>Q_BeginsOf_b1 p0x0 p1x0 p2x0 p3x0 v4 x.1 x.2.1 x.2.2) (fun x σ'=>∃ (b12 : Bk),σ' = ⟨95,[(3,I p3x0),(4,.ptr b1 0),(5,.ptr b2 0),(6,.ptr b3 0),(9,I v4),(10,.sl 1 b12 0 x.1.length),(11,I x.2.1),(27,I (p0x0.Waves.length : Int)),(28,I x.2.2)],[(b1,.cells (cE1 p0x0)),(b2,.cells [lE3 p1x0]),(b3,.cells [lE4 p2x0]),(b12,aE0 x.1)]⟩) h ?_ ?_
  · exact ImpX.arr (s := 10) 1 J fun b16=>ImpX.lq [3,2,1,0] ⟨b16,J⟩ J J
  · intro x z1 σ' J1 hmk h hJ1 hA1
    obtain ⟨l13, n14, n15⟩ := x
    obtain ⟨b12, rfl⟩ := hmk
    replace h : Q_BeginsOf_b1 p0x0 p1x0 p2x0 p3x0 v4 l13 n14 n15 = some z1 := h
    unfold Q_BeginsOf_b1 at h
    refine tSR<|ARun.qv (q_lss J J) J<|rN<|tS<|ATodo.cond_d J (fun hc=>?_) (fun hc=>?_)
    · refine have h := iteT hc h; tK<|tS<|ATodo.block<|tSR<|rM J J<|n_alloc J J J J fun b17=>n_store_ptr J J J J .p0 J J<|rN<|tS<|tSR<|rL J J .p0 J J<|ARun.qv (q_gtr J J) J<|rN<|ATodo.cut (fun σ'=>∃ (n18 : Int),Q_BeginsOf_j1 p3x0 v4 l13 n15 n18 = some z1 ∧ σ' = ⟨95,[(3,I p3x0),(4,.ptr b1 0),(5,.ptr b2 0),(6,.ptr b3 0),(9,I v4),(10,.sl 1 b12 0 l13.length),(11,I n18),(27,I (p0x0.Waves.length : Int)),(28,I n15)],[(b1,.cells (cE1 p0x0)),(b2,.cells [lE3 p1x0]),(b3,.cells [lE4 p2x0]),(b12,aE0 l13)]⟩) ?_ ?_
      · refine ATodo.cond_d J (fun hc=>?_) (fun hc=>?_)
        · refine have h := iteT hc h; tSR<|rM J J<|rL J J .p0 J J<|ARun.qv (q_subw J J) J<|bndE h fun v19 e2 h=>ARun.qv (t_index_sl J J J e2) J<|ARun.qv (t_load_aptr (g := I) J J (.inl .p4) e2 J) J<|rA J J<|rN<|tSR<|rM J J<|n_buildSlice J J J J J J fun b20=>rA J J<|rN<|tS<|tSR<|rL J J .p4 J J<|ARun.qv (t_len J) J<|rM J J<|rN<|ATodo.block<|ATodo.loopI (fun x : (List Int) × Int=>Q_BeginsOf_b2 p0x0 p1x0 p2x0 p3x0 v4 l13 n15 v19 x.1 x.2) (fun x σ'=>∃ (b24 : Bk),σ' = ⟨95,[(3,I p3x0),(4,.ptr b1 0),(5,.ptr b2 0),(6,.ptr b3 0),(9,I v4),(10,.sl 1 b12 0 l13.length),(12,.ptr b17 0),(13,I v19),(14,.sl 1 b24 0 x.1.length),(27,I (p0x0.Waves.length : Int)),(28,I n15),(40,lE4 p2x0),(41,I (p2x0.length : Int)),(42,I x.2)],[(b1,.cells (cE1 p0x0)),(b2,.cells [lE3 p1x0]),(b3,.cells [lE4 p2x0]),(b12,aE0 l13),(b17,.cells [I n15]),(b24,aE0 x.1)]⟩) h ?_ ?_
          · exact ImpX.lq [2,2,2,2,1,0] ⟨b20,J⟩ J J
          · intro x z2 σ' J2 hmk h hJ2 hA2
            obtain ⟨l25, n26⟩ := x
            obtain ⟨b24, rfl⟩ := hmk
            replace h : Q_BeginsOf_b2 p0x0 p1x0 p2x0 p3x0 v4 l13 n15 v19 l25 n26 = some z2 := h
            unfold Q_BeginsOf_b2 at h
            refine tSR<|ARun.qv (q_lss J J) J<|rN<|tS<|ATodo.cond_d J (fun hc=>?_) (fun hc=>?_)
            · refine have h := iteT hc h; tK<|tS<|ATodo.block<|tSR<|bndE h fun v27 e3 h=>ARun.qv (t_index J J J e3 J J) J<|ARun.qv (q_load_rptr_agg J J J) J<|n_alloc J J J J fun b28=>n_store_ptr J J J J .p0 J J<|rN<|tSR<|rF J J J<|rL J J .p0 J J<|rM J J<|rM J J<|r_callp J (Q_in_c J) (CoL.refl _) J<|rN<|ATodo.cut (fun σ'=>∃ (b29 : Bk) (l30 : List Int),Q_BeginsOf_j2 n26 l30 = some z2 ∧ σ' = ⟨95,[(3,I p3x0),(4,.ptr b1 0),(5,.ptr b2 0),(6,.ptr b3 0),(9,I v4),(10,.sl 1 b12 0 l13.length),(12,.ptr b17 0),(13,I v19),(14,.sl 1 b29 0 l30.length),(27,I (p0x0.Waves.length : Int)),(28,I n15),(40,lE4 p2x0),(41,I (p2x0.length : Int)),(42,I n26)],[(b1,.cells (cE1 p0x0)),(b2,.cells [lE3 p1x0]),(b3,.cells [lE4 p2x0]),(b12,aE0 l13),(b17,.cells [I n15]),(b29,aE0 l30)]⟩) ?_ ?_
              · refine ATodo.cond J (fun hc=>?_) (fun hc=>?_)
                · exact have h := iteT hc h; tR<|rM J J<|rF J J J<|rL J J .p0 J J<|n_buildSliceL (xs := ([v27.At] : List Int).map I) J J J J J J<|bndE h fun l31 e4 h=>t_append (g := I) J J J J J J J J (.list _) e4 (fun _=>.p6) J fun b32=>rA J J<|rN<|ATodo.stop<|ImpX.lq [1,1,1,1,1,1] ⟨b32,l31,h,J⟩ J J
                · exact have h := iteFb hc h; tK<|ATodo.stop<|ImpX.lq [1,1,1,1,1,1] ⟨b24,l25,h,J⟩ J J
              · rintro σ' ⟨b29, l30, h, rfl⟩
                unfold Q_BeginsOf_j2 at h
                refine ATodo.blk<|tR<|ARun.qv (q_addw J J) J<|rM J J<|rN<|ATodo.stop<|?_
                obtain rfl := Option.some.inj h
                exact hJ2 _ _ J<|ImpX.lq [0,0,0,0,0,0] ⟨b29,J⟩ J J
            · refine have h := iteF hc h; ATodo.exit J<|have h := outL h hA2; ?_
              unfold Q_BeginsOf_k3 at h
              refine tSR<|rM J J<|bndE h fun v33 e5 h=>t_call0 J (slices_Sort_int_int_c (lenOk_f e5)) (CoL.refl _) (.cons .p5 .nil) J J<|ARun.ghost<|ImpX.eqs (s := 14) (av' := .sl 1 b24 0 v33.length) J (congrArg (AV.sl 1 b24 0) (lenOk_l e5))<|ImpX.here<|ARun.ghost<|ImpX.eqs (s := 57) (av' := .sl 1 b24 0 v33.length) J (congrArg (AV.sl 1 b24 0) (lenOk_l e5))<|ImpX.here<|rN<|tSR<|rM J J<|ARun.qv (q_makeFunc J) J<|bndE h fun v34 e6 h=>r_callpB J (slices_IndexFunc_int_int_c (fun e=>Q_BeginsOf_1x_c e) e6) (.cons (CoB.arrT .p0) (.cons (.funcL _ _ _ (.cons (.boxL _ _ _ .p2 (.cons (.co (.refl _)) .nil)) (.cons (.boxL _ _ _ .p1 (.cons (.co (.refl _)) (.cons (.co (.refl _)) (.cons (.co (.refl _)) (.cons (.co (.refl _)) (.cons (.co (.refl _)) (.cons (.co (.refl _)) (.cons (.co (.refl _)) (.cons (.co (.refl _)) (.cons (.co (.refl _)) .nil)))))))))) (.cons (.boxL _ _ _ .p5 (.cons (.co (.refl _)) .nil)) (.cons (.boxL _ _ _ .p3 (.cons (.co (.refl _)) .nil)) .nil))))) .nil)) J J<|rA J J<|rN<|tS<|tSR<|rM J J<|ARun.qv (q_lss J J) J<|rN<|ATodo.cond_d J (fun hc=>?_) (fun hc=>?_)
              · refine have h := iteT hc h; tSR<|rM J J<|rA J J<|rN<|ATodo.ret<|have h := outL h hA1; ?_
                obtain rfl := Option.some.inj h
                exact ImpX.here ⟨_,.cons (.tmp _ _ J) .nil,_,.cons .p4 .nil,⟨b12,J,J⟩⟩
              · exact have h := iteF hc h; tK<|ATodo.regionM (id := 20) (A := [0,0,3,7,0,16,0,112,240,496,1023,2047]) 12 mixed J (by kernel_rfl) (by kernel_rfl)<|AM.qv (q_move J) J<|AM.qv (q_move J) J<|bndE h fun v35 e7 h=>AM.qv (t_index_sl J J J e7) J<|AM.qv (t_load_aptr (g := I) J J (.inl .p0) e7 J) J<|AM.qv (n_field_ptr J J) J<|AM.qv (q_load_ptr J J .p1 J) J<|AM.qv (q_load_ptr J J .p5 J) J<|bndE h fun v36 e8 h=>AM.qv (t_index J J J e8 J J) J<|AM.qv (n_field_rptr J J) J<|AM.qv (q_load_rptr J J J) J<|AM.qv (q_addw J J) J<|AM.qv (q_assign J) J<|AM.nil<|rN<|ATodo.stop<|ImpX.lq [1,1,1,1] ⟨w64 (v35 + v36.Wait),h,J⟩ J J
        · exact have h := iteF hc h; tK<|ATodo.stop<|ImpX.lq [1,1,1,1] ⟨n14,h,J⟩ J J
      · rintro σ' ⟨n18, h, rfl⟩
        unfold Q_BeginsOf_j1 at h
        refine tS<|tS<|ATodo.cut (fun σ'=>∃ (c37 : Bool),Q_BeginsOf_j4 l13 n15 n18 c37 = some z1 ∧ σ' = ⟨95,[(3,I p3x0),(4,.ptr b1 0),(5,.ptr b2 0),(6,.ptr b3 0),(9,I v4),(10,.sl 1 b12 0 l13.length),(11,I n18),(27,I (p0x0.Waves.length : Int)),(28,I n15),(87,.bool c37)],[(b1,.cells (cE1 p0x0)),(b2,.cells [lE3 p1x0]),(b3,.cells [lE4 p2x0]),(b12,aE0 l13)]⟩) ?_ ?_
        · refine tR<|rM J J<|rM J J<|ARun.qv (q_gtr J J) J<|rM J J<|ARun.guard_df J J J (fun hc=>?_) (fun hc=>?_)
          · rw [orFd hc] at h
            refine rM J J<|rY J J J<|ARun.qv (q_geq J J) J<|rY J J J<|rM J J<|ARun.guard_dt J J J (fun hc=>?_) (fun hc=>?_)
            · rw [andTd hc] at h
              exact rM J J<|rY J J J<|rM J J<|rY J J J<|ARun.qv (q_geq J J) J<|rY J J J<|rT J J J<|rE J J J<|rN<|ATodo.stop<|ImpX.lq [0,0,0,0] ⟨decide (v4 ≤ n18),h,J⟩ J J
            · rw [andFd hc] at h
              exact rG J J J J<|rG J J J J<|rY J J J<|rE J J J<|rE J J J<|rN<|ATodo.stop<|ImpX.lq [0,0,0,0] ⟨false,h,J⟩ J J
          · rw [orTd hc] at h
            exact rG J J J J<|rG J J J J<|ARun.guard_und J J J<|ARun.guard_und J J J<|ARun.guard_und J J J<|rG J J J J<|rT J J J<|rN<|ATodo.stop<|ImpX.lq [0,0,0,0] ⟨true,h,J⟩ J J
        · rintro σ' ⟨c37, h, rfl⟩
          unfold Q_BeginsOf_j4 at h
          refine ATodo.cond J (fun hc=>?_) (fun hc=>?_)
          · refine have h := iteT hc h; tSR<|rM J J<|rA J J<|rN<|ATodo.ret<|have h := outL h hA1; ?_
            obtain rfl := Option.some.inj h
            exact ImpX.here ⟨_,.cons (.tmp _ _ J) .nil,_,.cons .p3 .nil,⟨b12,J,J⟩⟩
          · refine have h := iteFb hc h; tK<|tR<|rM J J<|rM J J<|n_buildSliceL (xs := ([n18] : List Int).map I) J J J J J J<|bndE h fun l38 e9 h=>t_append (g := I) J J J J J J J J (.list _) e9 (fun _=>.p3) J fun b39=>rA J J<|rN<|ATodo.blk<|tR<|ARun.qv (q_addw J J) J<|rM J J<|rN<|ATodo.stop<|?_
            obtain rfl := Option.some.inj h
            exact hJ1 _ _ J<|ImpX.lq [0,0,0,0] ⟨b39,J⟩ J J
    · refine have h := iteF hc h; ATodo.exit J<|have h := outL h hA1; tSR<|rM J J<|rA J J<|rN<|ATodo.ret<|?_
      obtain rfl := Option.some.inj h
      exact ImpX.here ⟨_,.cons (.tmp _ _ J) .nil,_,.cons .p3 .nil,⟨b12,J,J⟩⟩

end Go.Proofs.YtpibecbdhjbanaaGreatDoor

