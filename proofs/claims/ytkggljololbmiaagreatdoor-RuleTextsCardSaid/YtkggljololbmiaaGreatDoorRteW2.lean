/- The code computes the plain functions: proofs written by shal.py. -/
import Derived.Test.YtkggljololbmiaaGreatDoorRteW1
set_option maxHeartbeats 4000000
set_option maxRecDepth 100000
set_option linter.unusedVariables false
set_option linter.unusedSimpArgs false
namespace Go.Proofs.YtkggljololbmiaaGreatDoor
open Go Go.Eng Go.Proofs Go.Beacon
attribute [local irreducible] ARun ATodo AQ QV ACall ImpX AWp AM
theorem rule_newTrack_c [GI : GTab] {f_1F : Fn} {f_1C : List AV} {p0x0 : Rule} {r : Rule_track} (h : rule_newTrack p0x0 = some r) : ACall Tryz.prog 169 [.rptr [.str p0x0.Key,.str p0x0.Metric,I p0x0.Agg,I p0x0.Long,.bool p0x0.Above,I p0x0.On,I p0x0.Off,I p0x0.Hold,I p0x0.Rest,I p0x0.Empty],.func f_1F f_1C] [] (T7 (fun d_0 d_0x1 t_0x1 d_0x2 t_0x2 d_0x3 t_0x3=>[(d_0,.cells [.rptr [.str p0x0.Key,.str p0x0.Metric,I p0x0.Agg,I p0x0.Long,.bool p0x0.Above,I p0x0.On,I p0x0.Off,I p0x0.Hold,I p0x0.Rest,I p0x0.Empty],.sl 2 d_0x1 t_0x1.length r.window_.length,.sl 2 d_0x2 t_0x2.length r.least_.length,.sl 2 d_0x3 t_0x3.length r.most_.length,I r.sum_,I r.state_,I r.since_,.bool r.firing_,I r.began_,.func f_1F f_1C]),(d_0x1,aE5 (t_0x1 ++ r.window_)),(d_0x2,aE5 (t_0x2 ++ r.least_)),(d_0x3,aE5 (t_0x3 ++ r.most_))]) (fun d_0 d_0x1 t_0x1 d_0x2 t_0x2 d_0x3 t_0x3=>.ptr d_0 0)) := by
  unfold rule_newTrack at h
  refine ACall.lessH ?_
  refine ACall.bodyN Tryz.func169 J Tryz.ntmps169 Tryz.results169 J J ?_
  refine tSR<|rA J J<|rN<|tSR<|rM J J<|rM J J<|ARun.qv (n_build J J J J J) J<|n_box J J J J fun b1=>rA J J<|rN<|tSR<|rM J J<|rM J J<|bndE h fun v2 e1 h=>ARun.ghost<|ImpX.arrBox (j := 1) 2 (fun _=>.p0) J (fun _=>J) (fun _=>J) fun b3=>ImpX.here<|ARun.ghost<|ImpX.obEq (b := b3) (o := aE5 []) (o' := aE5 (([] : List Rule_sample) ++ ([] : List Rule_sample))) J .p0<|ImpX.here<|ARun.ghost<|ImpX.eqBox (b := b1) (j := 1) (av := .sl 2 b3 0 ([] : List Rule_sample).length) (av' := .sl 2 b3 ([] : List Rule_sample).length ([] : List Rule_sample).length) .p1 J J J<|ImpX.here<|ARun.ghost<|ImpX.arrBox (j := 2) 2 (fun _=>.p1) J (fun _=>J) (fun _=>J) fun b4=>ImpX.here<|ARun.ghost<|ImpX.obEq (b := b4) (o := aE5 []) (o' := aE5 (([] : List Rule_sample) ++ ([] : List Rule_sample))) J .p0<|ImpX.here<|ARun.ghost<|ImpX.eqBox (b := b1) (j := 2) (av := .sl 2 b4 0 ([] : List Rule_sample).length) (av' := .sl 2 b4 ([] : List Rule_sample).length ([] : List Rule_sample).length) .p2 J J J<|ImpX.here<|ARun.ghost<|ImpX.arrBox (j := 3) 2 (fun _=>.p2) J (fun _=>J) (fun _=>J) fun b5=>ImpX.here<|ARun.ghost<|ImpX.obEq (b := b5) (o := aE5 []) (o' := aE5 (([] : List Rule_sample) ++ ([] : List Rule_sample))) J .p0<|ImpX.here<|ARun.ghost<|ImpX.eqBox (b := b1) (j := 3) (av := .sl 2 b5 0 ([] : List Rule_sample).length) (av' := .sl 2 b5 ([] : List Rule_sample).length ([] : List Rule_sample).length) .p3 J J J<|ImpX.here<|t_call0 J (rule_track_now_c e1) (CoL.refl _) (.cons .p3 (.cons .p2 (.cons .p1 (.cons .p0 .nil)))) J J<|ARun.qv (q_nilCheck_ptr J) J<|rF J J J<|n_store_ptr J J J J .p0 J J<|rN<|tSR<|rM J J<|rA J J<|rN<|ATodo.ret<|?_
  obtain rfl := Option.some.inj h
  exact ImpX.here ⟨_,.cons (.tmp _ _ J) .nil,_,.cons .p0 (.cons .p0 (.cons .p0 (.cons .p0 .nil))),⟨b1,b3,([] : List Rule_sample),b4,([] : List Rule_sample),b5,([] : List Rule_sample),J,J⟩⟩

theorem rule_track_turn_c [GI : GTab] {b_0 : Bk} {b_0x1 : Bk} {r_0x1 : List Rule_sample} {b_0x2 : Bk} {r_0x2 : List Rule_sample} {b_0x3 : Bk} {r_0x3 : List Rule_sample} {f_0x9F : Fn} {f_0x9C : List AV} {p0x0 : Rule_track} {r : Int} (h : rule_track_turn p0x0 = r) : ACall Tryz.prog 225 [.ptr b_0 0] [(b_0,.cells [.rptr [.str p0x0.rule_.Key,.str p0x0.rule_.Metric,I p0x0.rule_.Agg,I p0x0.rule_.Long,.bool p0x0.rule_.Above,I p0x0.rule_.On,I p0x0.rule_.Off,I p0x0.rule_.Hold,I p0x0.rule_.Rest,I p0x0.rule_.Empty],.sl 2 b_0x1 r_0x1.length p0x0.window_.length,.sl 2 b_0x2 r_0x2.length p0x0.least_.length,.sl 2 b_0x3 r_0x3.length p0x0.most_.length,I p0x0.sum_,I p0x0.state_,I p0x0.since_,.bool p0x0.firing_,I p0x0.began_,.func f_0x9F f_0x9C]),(b_0x1,aE5 (r_0x1 ++ p0x0.window_)),(b_0x2,aE5 (r_0x2 ++ p0x0.least_)),(b_0x3,aE5 (r_0x3 ++ p0x0.most_))] (T0 ([(b_0,.cells [.rptr [.str p0x0.rule_.Key,.str p0x0.rule_.Metric,I p0x0.rule_.Agg,I p0x0.rule_.Long,.bool p0x0.rule_.Above,I p0x0.rule_.On,I p0x0.rule_.Off,I p0x0.rule_.Hold,I p0x0.rule_.Rest,I p0x0.rule_.Empty],.sl 2 b_0x1 r_0x1.length p0x0.window_.length,.sl 2 b_0x2 r_0x2.length p0x0.least_.length,.sl 2 b_0x3 r_0x3.length p0x0.most_.length,I p0x0.sum_,I p0x0.state_,I p0x0.since_,.bool p0x0.firing_,I p0x0.began_,.func f_0x9F f_0x9C]),(b_0x1,aE5 (r_0x1 ++ p0x0.window_)),(b_0x2,aE5 (r_0x2 ++ p0x0.least_)),(b_0x3,aE5 (r_0x3 ++ p0x0.most_))]) (I r)) := by
  unfold rule_track_turn at h
  refine ACall.lessH ?_
  refine ACall.bodyN Tryz.func225 J Tryz.ntmps225 Tryz.results225 J J ?_
  refine tSR<|rA J J<|rN<|tS<|ATodo.block<|tS<|ATodo.cut (fun σ'=>∃ (c1 : Bool),rule_track_turn_j1 p0x0 c1 = r ∧ σ' = ⟨52,[(0,.ptr b_0 0),(3,.bool c1)],[(b_0,.cells [.rptr [.str p0x0.rule_.Key,.str p0x0.rule_.Metric,I p0x0.rule_.Agg,I p0x0.rule_.Long,.bool p0x0.rule_.Above,I p0x0.rule_.On,I p0x0.rule_.Off,I p0x0.rule_.Hold,I p0x0.rule_.Rest,I p0x0.rule_.Empty],.sl 2 b_0x1 r_0x1.length p0x0.window_.length,.sl 2 b_0x2 r_0x2.length p0x0.least_.length,.sl 2 b_0x3 r_0x3.length p0x0.most_.length,I p0x0.sum_,I p0x0.state_,I p0x0.since_,.bool p0x0.firing_,I p0x0.began_,.func f_0x9F f_0x9C]),(b_0x1,aE5 (r_0x1 ++ p0x0.window_)),(b_0x2,aE5 (r_0x2 ++ p0x0.least_)),(b_0x3,aE5 (r_0x3 ++ p0x0.most_))]⟩) ?_ ?_
  · refine tR<|rM J J<|ARun.qv (q_nilCheck_ptr J) J<|rF J J J<|rL J J .p0 J J<|ARun.qv (q_not J) J<|rM J J<|ARun.guard J J J (fun hc=>?_) (fun hc=>?_)
    · rw [andTb hc] at h
      exact rM J J<|rY J J J<|ARun.qv (q_nilCheck_ptr J) J<|rY J J J<|rF J J J<|rY J J J<|rL J J .p0 J J<|rY J J J<|ARun.qv (q_eql J J) J<|rT J J J<|rA J J<|rN<|ATodo.stop<|ImpX.lq [0,0,0,0] ⟨decide (p0x0.state_ = (1 : Int)),h,J⟩ J J
    · rw [andFb hc] at h
      exact rG J J J J<|rG J J J J<|rG J J J J<|rG J J J J<|rE J J J<|rA J J<|rN<|ATodo.stop<|ImpX.lq [0,0,0,0] ⟨false,h,J⟩ J J
  · rintro σ' ⟨c1, h, rfl⟩
    unfold rule_track_turn_j1 at h
    refine ATodo.cond J (fun hc=>?_) (fun hc=>?_)
    · refine have h := iteT hc h; tS<|ATodo.regionM (id := 2) (A := [0,1,3,7,0,16,48,112,240,496,1008,2047,4095]) 13 mixed J (by kernel_rfl) (by kernel_rfl)<|AM.qv (q_move J) J<|AM.qv (q_nilCheck_ptr J) J<|AM.qv (n_field_ptr J J) J<|AM.qv (q_load_ptr J J .p0 J) J<|AM.qv (q_move J) J<|AM.qv (q_nilCheck_ptr J) J<|AM.qv (n_field_ptr J J) J<|AM.qv (q_load_ptr J J .p0 J) J<|AM.qv (q_nilCheck_rptr J) J<|AM.qv (n_field_rptr J J) J<|AM.qv (q_load_rptr J J J) J<|AM.qv (q_addw J J) J<|AM.qv (q_assign J) J<|AM.nil<|rN<|ATodo.ret<|?_
      obtain rfl := h
      exact ImpX.here ⟨_,.cons (.tmp _ _ J) .nil,_,.cons .p0 (.cons .p0 (.cons .p0 (.cons .p0 .nil))),⟨J,J⟩⟩
    · refine have h := iteFb hc h; tS<|ATodo.cut (fun σ'=>∃ (c2 : Bool),rule_track_turn_j2 p0x0 c2 = r ∧ σ' = ⟨52,[(0,.ptr b_0 0),(28,.bool c2)],[(b_0,.cells [.rptr [.str p0x0.rule_.Key,.str p0x0.rule_.Metric,I p0x0.rule_.Agg,I p0x0.rule_.Long,.bool p0x0.rule_.Above,I p0x0.rule_.On,I p0x0.rule_.Off,I p0x0.rule_.Hold,I p0x0.rule_.Rest,I p0x0.rule_.Empty],.sl 2 b_0x1 r_0x1.length p0x0.window_.length,.sl 2 b_0x2 r_0x2.length p0x0.least_.length,.sl 2 b_0x3 r_0x3.length p0x0.most_.length,I p0x0.sum_,I p0x0.state_,I p0x0.since_,.bool p0x0.firing_,I p0x0.began_,.func f_0x9F f_0x9C]),(b_0x1,aE5 (r_0x1 ++ p0x0.window_)),(b_0x2,aE5 (r_0x2 ++ p0x0.least_)),(b_0x3,aE5 (r_0x3 ++ p0x0.most_))]⟩) ?_ ?_
      · refine tR<|rM J J<|ARun.qv (q_nilCheck_ptr J) J<|rF J J J<|rL J J .p0 J J<|rM J J<|ARun.guard J J J (fun hc=>?_) (fun hc=>?_)
        · rw [andTb hc] at h
          exact rM J J<|rY J J J<|ARun.qv (q_nilCheck_ptr J) J<|rY J J J<|rF J J J<|rY J J J<|rL J J .p0 J J<|rY J J J<|ARun.qv (q_eql J J) J<|rT J J J<|rA J J<|rN<|ATodo.stop<|ImpX.lq [0,0,0,0] ⟨decide (p0x0.state_ = (2 : Int)),h,J⟩ J J
        · rw [andFb hc] at h
          exact rG J J J J<|rG J J J J<|rG J J J J<|rG J J J J<|rE J J J<|rA J J<|rN<|ATodo.stop<|ImpX.lq [0,0,0,0] ⟨false,h,J⟩ J J
      · rintro σ' ⟨c2, h, rfl⟩
        unfold rule_track_turn_j2 at h
        refine ATodo.cond J (fun hc=>?_) (fun hc=>?_)
        · refine have h := iteT hc h; tS<|ATodo.regionM (id := 4) (A := [0,1,3,7,0,16,48,112,240,496,1008,2047,4095]) 13 mixed J (by kernel_rfl) (by kernel_rfl)<|AM.qv (q_move J) J<|AM.qv (q_nilCheck_ptr J) J<|AM.qv (n_field_ptr J J) J<|AM.qv (q_load_ptr J J .p0 J) J<|AM.qv (q_move J) J<|AM.qv (q_nilCheck_ptr J) J<|AM.qv (n_field_ptr J J) J<|AM.qv (q_load_ptr J J .p0 J) J<|AM.qv (q_nilCheck_rptr J) J<|AM.qv (n_field_rptr J J) J<|AM.qv (q_load_rptr J J J) J<|AM.qv (q_addw J J) J<|AM.qv (q_assign J) J<|AM.nil<|rN<|ATodo.ret<|?_
          obtain rfl := h
          exact ImpX.here ⟨_,.cons (.tmp _ _ J) .nil,_,.cons .p0 (.cons .p0 (.cons .p0 (.cons .p0 .nil))),⟨J,J⟩⟩
        · refine have h := iteFb hc h; tK<|ATodo.blk<|tSR<|rA J J<|rN<|ATodo.ret<|?_
          obtain rfl := h
          exact ImpX.here ⟨_,.cons (.tmp _ _ J) .nil,_,.cons .p0 (.cons .p0 (.cons .p0 (.cons .p0 .nil))),⟨J,J⟩⟩

theorem rule_track_due_c [GI : GTab] {b_0 : Bk} {b_0x1 : Bk} {r_0x1 : List Rule_sample} {b_0x2 : Bk} {r_0x2 : List Rule_sample} {b_0x3 : Bk} {r_0x3 : List Rule_sample} {f_0x9F : Fn} {f_0x9C : List AV} {p0x0 : Rule_track} {r : Int} (h : rule_track_due p0x0 = some r) : ACall Tryz.prog 222 [.ptr b_0 0] [(b_0,.cells [.rptr [.str p0x0.rule_.Key,.str p0x0.rule_.Metric,I p0x0.rule_.Agg,I p0x0.rule_.Long,.bool p0x0.rule_.Above,I p0x0.rule_.On,I p0x0.rule_.Off,I p0x0.rule_.Hold,I p0x0.rule_.Rest,I p0x0.rule_.Empty],.sl 2 b_0x1 r_0x1.length p0x0.window_.length,.sl 2 b_0x2 r_0x2.length p0x0.least_.length,.sl 2 b_0x3 r_0x3.length p0x0.most_.length,I p0x0.sum_,I p0x0.state_,I p0x0.since_,.bool p0x0.firing_,I p0x0.began_,.func f_0x9F f_0x9C]),(b_0x1,aE5 (r_0x1 ++ p0x0.window_)),(b_0x2,aE5 (r_0x2 ++ p0x0.least_)),(b_0x3,aE5 (r_0x3 ++ p0x0.most_))] (T0 ([(b_0,.cells [.rptr [.str p0x0.rule_.Key,.str p0x0.rule_.Metric,I p0x0.rule_.Agg,I p0x0.rule_.Long,.bool p0x0.rule_.Above,I p0x0.rule_.On,I p0x0.rule_.Off,I p0x0.rule_.Hold,I p0x0.rule_.Rest,I p0x0.rule_.Empty],.sl 2 b_0x1 r_0x1.length p0x0.window_.length,.sl 2 b_0x2 r_0x2.length p0x0.least_.length,.sl 2 b_0x3 r_0x3.length p0x0.most_.length,I p0x0.sum_,I p0x0.state_,I p0x0.since_,.bool p0x0.firing_,I p0x0.began_,.func f_0x9F f_0x9C]),(b_0x1,aE5 (r_0x1 ++ p0x0.window_)),(b_0x2,aE5 (r_0x2 ++ p0x0.least_)),(b_0x3,aE5 (r_0x3 ++ p0x0.most_))]) (I r)) := by
  unfold rule_track_due at h
  refine ACall.lessH ?_
  refine ACall.bodyN Tryz.func222 J Tryz.ntmps222 Tryz.results222 J J ?_
  refine tSR<|rA J J<|rN<|tSR<|rM J J<|t_call0 J (rule_track_turn_c J) (CoL.refl _) (.cons .p0 (.cons .p0 (.cons .p0 (.cons .p0 .nil)))) J J<|ARun.qv (q_min J J) J<|rA J J<|rN<|tS<|tSR<|rM J J<|ARun.qv (q_nilCheck_ptr J) J<|rF J J J<|rL J J .p0 J J<|ARun.qv (q_len_sl J) J<|ARun.qv (q_gtr J J) J<|rN<|ATodo.cut (fun σ'=>∃ (n1 : Int),rule_track_due_j1 n1 = some r ∧ σ' = ⟨31,[(3,I n1)],[(b_0,.cells [.rptr [.str p0x0.rule_.Key,.str p0x0.rule_.Metric,I p0x0.rule_.Agg,I p0x0.rule_.Long,.bool p0x0.rule_.Above,I p0x0.rule_.On,I p0x0.rule_.Off,I p0x0.rule_.Hold,I p0x0.rule_.Rest,I p0x0.rule_.Empty],.sl 2 b_0x1 r_0x1.length p0x0.window_.length,.sl 2 b_0x2 r_0x2.length p0x0.least_.length,.sl 2 b_0x3 r_0x3.length p0x0.most_.length,I p0x0.sum_,I p0x0.state_,I p0x0.since_,.bool p0x0.firing_,I p0x0.began_,.func f_0x9F f_0x9C]),(b_0x1,aE5 (r_0x1 ++ p0x0.window_)),(b_0x2,aE5 (r_0x2 ++ p0x0.least_)),(b_0x3,aE5 (r_0x3 ++ p0x0.most_))]⟩) ?_ ?_
  · refine ATodo.cond_d J (fun hc=>?_) (fun hc=>?_)
    · exact have h := iteT hc h; ATodo.regionM (id := 3) (A := [0,0,2,6,14,30,62,126,0,256,768,1792,3840,7936,16128,32766,65535,131071]) 18 mixed J (by kernel_rfl) (by kernel_rfl)<|AM.qv (q_move J) J<|AM.qv (q_move J) J<|AM.qv (q_nilCheck_ptr J) J<|AM.qv (n_field_ptr J J) J<|AM.qv (q_load_ptr J J .p0 J) J<|bndE h fun v2 e1 h=>AM.qv (t_index_dq (Ps := r_0x1) (Xs := p0x0.window_) J J J e1) J<|AM.qv (t_field_aptr J J) J<|AM.qv (t_load_dq (g := Rule_sample.av) (Ps := r_0x1) (Xs := p0x0.window_) J J .p1 e1 J) J<|AM.qv (q_move J) J<|AM.qv (q_nilCheck_ptr J) J<|AM.qv (n_field_ptr J J) J<|AM.qv (q_load_ptr J J .p0 J) J<|AM.qv (q_nilCheck_rptr J) J<|AM.qv (n_field_rptr J J) J<|AM.qv (q_load_rptr J J J) J<|AM.qv (q_addw J J) J<|AM.qv (q_min J J) J<|AM.qv (q_assign J) J<|AM.nil<|rN<|ATodo.stop<|ImpX.lq [0,0,0,0] ⟨min (min (rule_track_turn p0x0) (345686400000 : Int)) (w64 (v2.at_ + p0x0.rule_.Long)),h,J⟩ J J
    · exact have h := iteF hc h; tK<|ATodo.stop<|ImpX.lq [0,0,0,0] ⟨min (rule_track_turn p0x0) (345686400000 : Int),h,J⟩ J J
  · rintro σ' ⟨n1, h, rfl⟩
    unfold rule_track_due_j1 at h
    refine tSR<|rM J J<|rA J J<|rN<|ATodo.ret<|?_
    obtain rfl := Option.some.inj h
    exact ImpX.here ⟨_,.cons (.tmp _ _ J) .nil,_,.cons .p0 (.cons .p0 (.cons .p0 (.cons .p0 .nil))),⟨J,J⟩⟩

theorem rule_track_drop_c [GI : GTab] {b_0 : Bk} {b_0x1 : Bk} {r_0x1 : List Rule_sample} {b_0x2 : Bk} {r_0x2 : List Rule_sample} {b_0x3 : Bk} {r_0x3 : List Rule_sample} {f_0x9F : Fn} {f_0x9C : List AV} {p0x0 : Rule_track} {p1x0 : Int} {r : Rule_track} (h : rule_track_drop p0x0 p1x0 = some r) : ACall Tryz.prog 223 [.ptr b_0 0,I p1x0] [(b_0,.cells [.rptr [.str p0x0.rule_.Key,.str p0x0.rule_.Metric,I p0x0.rule_.Agg,I p0x0.rule_.Long,.bool p0x0.rule_.Above,I p0x0.rule_.On,I p0x0.rule_.Off,I p0x0.rule_.Hold,I p0x0.rule_.Rest,I p0x0.rule_.Empty],.sl 2 b_0x1 r_0x1.length p0x0.window_.length,.sl 2 b_0x2 r_0x2.length p0x0.least_.length,.sl 2 b_0x3 r_0x3.length p0x0.most_.length,I p0x0.sum_,I p0x0.state_,I p0x0.since_,.bool p0x0.firing_,I p0x0.began_,.func f_0x9F f_0x9C]),(b_0x1,aE5 (r_0x1 ++ p0x0.window_)),(b_0x2,aE5 (r_0x2 ++ p0x0.least_)),(b_0x3,aE5 (r_0x3 ++ p0x0.most_))] (T6 (fun c_0x1 s_0x1 c_0x2 s_0x2 c_0x3 s_0x3=>[(b_0,.cells [.rptr [.str p0x0.rule_.Key,.str p0x0.rule_.Metric,I p0x0.rule_.Agg,I p0x0.rule_.Long,.bool p0x0.rule_.Above,I p0x0.rule_.On,I p0x0.rule_.Off,I p0x0.rule_.Hold,I p0x0.rule_.Rest,I p0x0.rule_.Empty],.sl 2 c_0x1 s_0x1.length r.window_.length,.sl 2 c_0x2 s_0x2.length r.least_.length,.sl 2 c_0x3 s_0x3.length r.most_.length,I r.sum_,I r.state_,I r.since_,.bool r.firing_,I r.began_,.func f_0x9F f_0x9C]),(c_0x1,aE5 (s_0x1 ++ r.window_)),(c_0x2,aE5 (s_0x2 ++ r.least_)),(c_0x3,aE5 (s_0x3 ++ r.most_))]) (fun c_0x1 s_0x1 c_0x2 s_0x2 c_0x3 s_0x3=>.tup [])) := by
  unfold rule_track_drop at h
  refine ACall.lessH ?_
  refine ACall.bodyN Tryz.func223 J Tryz.ntmps223 Tryz.results223 J J ?_
  refine ATodo.block<|ATodo.loopI (fun x : (List Rule_sample) × (List Rule_sample) × (List Rule_sample) × Int=>rule_track_drop_b1 p0x0 p1x0 x.1 x.2.1 x.2.2.1 x.2.2.2) (fun x σ'=>∃ (r9 : List Rule_sample) (r11 : List Rule_sample) (r13 : List Rule_sample),σ' = ⟨85,[(0,.ptr b_0 0),(1,I p1x0)],[(b_0,.cells [.rptr [.str p0x0.rule_.Key,.str p0x0.rule_.Metric,I p0x0.rule_.Agg,I p0x0.rule_.Long,.bool p0x0.rule_.Above,I p0x0.rule_.On,I p0x0.rule_.Off,I p0x0.rule_.Hold,I p0x0.rule_.Rest,I p0x0.rule_.Empty],.sl 2 b_0x1 r9.length x.1.length,.sl 2 b_0x2 r11.length x.2.1.length,.sl 2 b_0x3 r13.length x.2.2.1.length,I x.2.2.2,I p0x0.state_,I p0x0.since_,.bool p0x0.firing_,I p0x0.began_,.func f_0x9F f_0x9C]),(b_0x1,aE5 (r9 ++ x.1)),(b_0x2,aE5 (r11 ++ x.2.1)),(b_0x3,aE5 (r13 ++ x.2.2.1))]⟩) h ?_ ?_
  · exact ImpX.lq [0,0,0,0] ⟨r_0x1,r_0x2,r_0x3,J⟩ J J
  · intro x z1 σ' J1 hmk h hJ1 hA1
    obtain ⟨l8, l10, l12, n14⟩ := x
    obtain ⟨r9, r11, r13, rfl⟩ := hmk
    replace h : rule_track_drop_b1 p0x0 p1x0 l8 l10 l12 n14 = some z1 := h
    unfold rule_track_drop_b1 at h
    refine tS<|tS<|ATodo.cut (fun σ'=>∃ (c15 : Bool),rule_track_drop_j1 p0x0 l8 l10 l12 n14 c15 = some z1 ∧ σ' = ⟨85,[(0,.ptr b_0 0),(1,I p1x0),(29,.bool c15)],[(b_0,.cells [.rptr [.str p0x0.rule_.Key,.str p0x0.rule_.Metric,I p0x0.rule_.Agg,I p0x0.rule_.Long,.bool p0x0.rule_.Above,I p0x0.rule_.On,I p0x0.rule_.Off,I p0x0.rule_.Hold,I p0x0.rule_.Rest,I p0x0.rule_.Empty],.sl 2 b_0x1 r9.length l8.length,.sl 2 b_0x2 r11.length l10.length,.sl 2 b_0x3 r13.length l12.length,I n14,I p0x0.state_,I p0x0.since_,.bool p0x0.firing_,I p0x0.began_,.func f_0x9F f_0x9C]),(b_0x1,aE5 (r9 ++ l8)),(b_0x2,aE5 (r11 ++ l10)),(b_0x3,aE5 (r13 ++ l12))]⟩) ?_ ?_
    · refine ATodo.regionM (id := 0) (A := [0,1,3,7,15,31,63,127,255,511,1023,2047,4095,8191,127,16511,49279,114815,245887,508031,1032319,2097151,127,8388607,16777215]) 25 mixed J (by kernel_rfl) (by kernel_rfl)<|AM.qv (q_move J) J<|AM.qv (q_nilCheck_ptr J) J<|AM.qv (n_field_ptr J J) J<|AM.qv (q_load_ptr J J .p0 J) J<|AM.qv (q_len_sl J) J<|AM.qv (q_gtr J J) J<|AM.qv (q_move J) J<|AM.guard_dt J J J (fun hc=>?_) (fun hc=>?_)
      · exact have h := iteT hc h; AM.qv (q_move J) J<|AM.guard_yes J J J<|AM.qv (q_nilCheck_ptr J) J<|AM.guard_yes J J J<|AM.qv (n_field_ptr J J) J<|AM.guard_yes J J J<|AM.qv (q_load_ptr J J .p0 J) J<|AM.guard_yes J J J<|bndE h fun v16 e1 h=>AM.qv (t_index_dq (Ps := r9) (Xs := l8) J J J e1) J<|AM.guard_yes J J J<|AM.qv (t_field_aptr J J) J<|AM.guard_yes J J J<|AM.qv (t_load_dq (g := Rule_sample.av) (Ps := r9) (Xs := l8) J J .p1 e1 J) J<|AM.guard_yes J J J<|AM.qv (q_move J) J<|AM.guard_yes J J J<|AM.qv (q_nilCheck_ptr J) J<|AM.guard_yes J J J<|AM.qv (n_field_ptr J J) J<|AM.guard_yes J J J<|AM.qv (q_load_ptr J J .p0 J) J<|AM.guard_yes J J J<|AM.qv (q_nilCheck_rptr J) J<|AM.guard_yes J J J<|AM.qv (n_field_rptr J J) J<|AM.guard_yes J J J<|AM.qv (q_load_rptr J J J) J<|AM.guard_yes J J J<|AM.qv (q_addw J J) J<|AM.guard_yes J J J<|AM.qv (q_move J) J<|AM.guard_yes J J J<|AM.qv (q_leq J J) J<|AM.qv (q_pick_t J J) J<|AM.nil<|rN<|ATodo.stop<|ImpX.lq [0,0,0,0] ⟨decide ((w64 (v16.at_ + p0x0.rule_.Long)) ≤ p1x0),h,J⟩ J J
      · exact have h := iteF hc h; AM.guard_no J J J J<|AM.guard_no J J J J<|AM.guard_no J J J J<|AM.guard_no J J J J<|AM.guard_no J J J J<|AM.guard_no J J J J<|AM.guard_no J J J J<|AM.guard_no J J J J<|AM.guard_no J J J J<|AM.guard_no J J J J<|AM.guard_no J J J J<|AM.guard_no J J J J<|AM.guard_no J J J J<|AM.guard_no J J J J<|AM.guard_no J J J J<|AM.guard_no J J J J<|AM.qv (q_pick_f J J) J<|AM.nil<|rN<|ATodo.stop<|ImpX.lq [0,0,0,0] ⟨false,h,J⟩ J J
    · rintro σ' ⟨c15, h, rfl⟩
      unfold rule_track_drop_j1 at h
      refine ATodo.cond J (fun hc=>?_) (fun hc=>?_)
      · refine have h := iteT hc h; tK<|ATodo.block<|tSR<|rM J J<|ARun.qv (q_nilCheck_ptr J) J<|rF J J J<|rL J J .p0 J J<|bndE h fun v17 e2 h=>ARun.qv (t_index_dq (Ps := r9) (Xs := l8) J J J e2) J<|ARun.qv (t_load_dq_agg (g := Rule_sample.av) (Ps := r9) (Xs := l8) J J .p1 J e2 J) J<|n_alloc J J J J fun b18=>n_store_ptr J J J J .p0 J J<|rN<|tSR<|rM J J<|rM J J<|ARun.qv (q_nilCheck_ptr J) J<|rF J J J<|rL J J .p1 J J<|bndE h fun l19 e3 h=>ARun.qv (t_slice_dq (Ps := r9) (Xs := l8) J J (.some _ _ _ J) .none J J e3) J<|ARun.qv (q_nilCheck_ptr J) J<|rF J J J<|n_store_ptr J J J J .p1 J J<|ARun.ghost<|ImpX.dqCut (g := Rule_sample.av) (Ps := r9) (Xs := l8) e3 (fun _=>.p2) fun r20 hre4=>ImpX.here<|ARun.ghost<|ImpX.eqBox (j := 1) (av' := .sl 2 b_0x1 r20.length l19.length) .p1 J (congrArg (fun q=>AV.sl 2 b_0x1 q l19.length) hre4) J<|ImpX.here<|rN<|tS<|ATodo.regionM (id := 3) (A := [0,1,3,7,0,16,63,127,255,511]) 9 mixed J (by kernel_rfl) (by kernel_rfl)<|AM.qv (q_move J) J<|AM.qv (q_nilCheck_ptr J) J<|AM.qv (n_field_ptr J J) J<|AM.qv (q_load_ptr J J .p1 J) J<|AM.qv (n_field_ptr J J) J<|AM.qv (q_load_ptr J J .p0 J) J<|AM.qv (q_subw J J) J<|AM.qv (q_nilCheck_ptr J) J<|AM.qv (n_field_ptr J J) J<|AM.nil<|n_store_ptr J J J J .p1 J J<|rN<|tS<|tS<|ATodo.regionM (id := 4) (A := [0,1,3,7,15,31,0,127]) 8 mixed J (by kernel_rfl) (by kernel_rfl)<|AM.qv (q_move J) J<|AM.qv (q_nilCheck_ptr J) J<|AM.qv (n_field_ptr J J) J<|AM.qv (q_load_ptr J J .p1 J) J<|bndE h fun v21 e5 h=>AM.qv (t_index_dq (Ps := r11) (Xs := l10) J J J e5) J<|AM.qv (t_load_dq_agg (g := Rule_sample.av) (Ps := r11) (Xs := l10) J J .p3 J e5 J) J<|AM.qv (q_load_ptr_all J J .p0 J) J<|AM.qv (t_teq (g := Rule_sample.av) (X := v21) (Y := v17) J J J J J) J<|AM.nil<|rN<|ATodo.cut (fun σ'=>∃ (r23 : List Rule_sample) (l22 : List Rule_sample),rule_track_drop_j2 l12 n14 v17 l19 l22 = some z1 ∧ σ' = ⟨85,[(0,.ptr b_0 0),(1,I p1x0),(4,.ptr b18 0)],[(b_0,.cells [.rptr [.str p0x0.rule_.Key,.str p0x0.rule_.Metric,I p0x0.rule_.Agg,I p0x0.rule_.Long,.bool p0x0.rule_.Above,I p0x0.rule_.On,I p0x0.rule_.Off,I p0x0.rule_.Hold,I p0x0.rule_.Rest,I p0x0.rule_.Empty],.sl 2 b_0x1 r20.length l19.length,.sl 2 b_0x2 r23.length l22.length,.sl 2 b_0x3 r13.length l12.length,I (w64 (n14 - v17.value_)),I p0x0.state_,I p0x0.since_,.bool p0x0.firing_,I p0x0.began_,.func f_0x9F f_0x9C]),(b_0x1,aE5 (r20 ++ l19)),(b_0x2,aE5 (r23 ++ l22)),(b_0x3,aE5 (r13 ++ l12)),(b18,.cells [I v17.at_,I v17.value_])]⟩) ?_ ?_
        · refine ATodo.cond_d J (fun hc=>?_) (fun hc=>?_)
          · exact have h := iteT hc h; tR<|rM J J<|rM J J<|ARun.qv (q_nilCheck_ptr J) J<|rF J J J<|rL J J .p1 J J<|bndE h fun l24 e6 h=>ARun.qv (t_slice_dq (Ps := r11) (Xs := l10) J J (.some _ _ _ J) .none J J e6) J<|ARun.qv (q_nilCheck_ptr J) J<|rF J J J<|n_store_ptr J J J J .p1 J J<|ARun.ghost<|ImpX.dqCut (g := Rule_sample.av) (Ps := r11) (Xs := l10) e6 (fun _=>.p3) fun r25 hre7=>ImpX.here<|ARun.ghost<|ImpX.eqBox (j := 2) (av' := .sl 2 b_0x2 r25.length l24.length) .p1 J (congrArg (fun q=>AV.sl 2 b_0x2 q l24.length) hre7) J<|ImpX.here<|rN<|ATodo.stop<|ImpX.lq [1,1,1,1,0] ⟨r25,l24,h,J⟩ J J
          · exact have h := iteF hc h; tK<|ATodo.stop<|ImpX.lq [1,1,1,1,0] ⟨r11,l10,h,J⟩ J J
        · rintro σ' ⟨r23, l22, h, rfl⟩
          unfold rule_track_drop_j2 at h
          refine tS<|ATodo.regionM (id := 6) (A := [0,1,3,7,15,31,0,127]) 8 mixed J (by kernel_rfl) (by kernel_rfl)<|AM.qv (q_move J) J<|AM.qv (q_nilCheck_ptr J) J<|AM.qv (n_field_ptr J J) J<|AM.qv (q_load_ptr J J .p0 J) J<|bndE h fun v26 e8 h=>AM.qv (t_index_dq (Ps := r13) (Xs := l12) J J J e8) J<|AM.qv (t_load_dq_agg (g := Rule_sample.av) (Ps := r13) (Xs := l12) J J .p3 J e8 J) J<|AM.qv (q_load_ptr_all J J .p4 J) J<|AM.qv (t_teq (g := Rule_sample.av) (X := v26) (Y := v17) J J J J J) J<|AM.nil<|rN<|ATodo.cut (fun σ'=>∃ (r28 : List Rule_sample) (l27 : List Rule_sample),rule_track_drop_j3 n14 v17 l19 l22 l27 = some z1 ∧ σ' = ⟨85,[(0,.ptr b_0 0),(1,I p1x0)],[(b_0,.cells [.rptr [.str p0x0.rule_.Key,.str p0x0.rule_.Metric,I p0x0.rule_.Agg,I p0x0.rule_.Long,.bool p0x0.rule_.Above,I p0x0.rule_.On,I p0x0.rule_.Off,I p0x0.rule_.Hold,I p0x0.rule_.Rest,I p0x0.rule_.Empty],.sl 2 b_0x1 r20.length l19.length,.sl 2 b_0x2 r23.length l22.length,.sl 2 b_0x3 r28.length l27.length,I (w64 (n14 - v17.value_)),I p0x0.state_,I p0x0.since_,.bool p0x0.firing_,I p0x0.began_,.func f_0x9F f_0x9C]),(b_0x1,aE5 (r20 ++ l19)),(b_0x2,aE5 (r23 ++ l22)),(b_0x3,aE5 (r28 ++ l27))]⟩) ?_ ?_
          · refine ATodo.cond_d J (fun hc=>?_) (fun hc=>?_)
            · exact have h := iteT hc h; tR<|rM J J<|rM J J<|ARun.qv (q_nilCheck_ptr J) J<|rF J J J<|rL J J .p0 J J<|bndE h fun l29 e9 h=>ARun.qv (t_slice_dq (Ps := r13) (Xs := l12) J J (.some _ _ _ J) .none J J e9) J<|ARun.qv (q_nilCheck_ptr J) J<|rF J J J<|n_store_ptr J J J J .p0 J J<|ARun.ghost<|ImpX.dqCut (g := Rule_sample.av) (Ps := r13) (Xs := l12) e9 (fun _=>.p3) fun r30 hre10=>ImpX.here<|ARun.ghost<|ImpX.eqBox (j := 3) (av' := .sl 2 b_0x3 r30.length l29.length) .p0 J (congrArg (fun q=>AV.sl 2 b_0x3 q l29.length) hre10) J<|ImpX.here<|rN<|ATodo.stop<|ImpX.lq [0,0,0,0] ⟨r30,l29,h,J⟩ J J
            · exact have h := iteF hc h; tK<|ATodo.stop<|ImpX.lq [0,0,0,0] ⟨r13,l12,h,J⟩ J J
          · rintro σ' ⟨r28, l27, h, rfl⟩
            unfold rule_track_drop_j3 at h
            refine ATodo.blk<|ATodo.stop<|?_
            obtain rfl := Option.some.inj h
            exact hJ1 _ _ J<|ImpX.lq [0,0,0,0] ⟨r20,r23,r28,J⟩ J J
      · refine have h := iteFb hc h; ATodo.exit J<|have h := outL h hA1; ATodo.nil<|?_
        obtain rfl := Option.some.inj h
        exact ImpX.here ⟨_,.nil,_,.cons .p0 (.cons .p0 (.cons .p0 (.cons .p0 .nil))),⟨b_0x1,r9,b_0x2,r11,b_0x3,r13,J,J⟩⟩

theorem rule_track_update_c [GI : GTab] {b_0 : Bk} {b_0x1 : Bk} {r_0x1 : List Rule_sample} {b_0x2 : Bk} {r_0x2 : List Rule_sample} {b_0x3 : Bk} {r_0x3 : List Rule_sample} {f_0x9F : Fn} {f_0x9C : List AV} {p0x0 : Rule_track} {p1x0 : Int} {r : Rule_track} (h : rule_track_update p0x0 p1x0 = some r) : ACall Tryz.prog 224 [.ptr b_0 0,I p1x0] [(b_0,.cells [.rptr [.str p0x0.rule_.Key,.str p0x0.rule_.Metric,I p0x0.rule_.Agg,I p0x0.rule_.Long,.bool p0x0.rule_.Above,I p0x0.rule_.On,I p0x0.rule_.Off,I p0x0.rule_.Hold,I p0x0.rule_.Rest,I p0x0.rule_.Empty],.sl 2 b_0x1 r_0x1.length p0x0.window_.length,.sl 2 b_0x2 r_0x2.length p0x0.least_.length,.sl 2 b_0x3 r_0x3.length p0x0.most_.length,I p0x0.sum_,I p0x0.state_,I p0x0.since_,.bool p0x0.firing_,I p0x0.began_,.func f_0x9F f_0x9C]),(b_0x1,aE5 (r_0x1 ++ p0x0.window_)),(b_0x2,aE5 (r_0x2 ++ p0x0.least_)),(b_0x3,aE5 (r_0x3 ++ p0x0.most_))] (T6 (fun c_0x1 s_0x1 c_0x2 s_0x2 c_0x3 s_0x3=>[(b_0,.cells [.rptr [.str p0x0.rule_.Key,.str p0x0.rule_.Metric,I p0x0.rule_.Agg,I p0x0.rule_.Long,.bool p0x0.rule_.Above,I p0x0.rule_.On,I p0x0.rule_.Off,I p0x0.rule_.Hold,I p0x0.rule_.Rest,I p0x0.rule_.Empty],.sl 2 c_0x1 s_0x1.length r.window_.length,.sl 2 c_0x2 s_0x2.length r.least_.length,.sl 2 c_0x3 s_0x3.length r.most_.length,I r.sum_,I r.state_,I r.since_,.bool r.firing_,I r.began_,.func f_0x9F f_0x9C]),(c_0x1,aE5 (s_0x1 ++ r.window_)),(c_0x2,aE5 (s_0x2 ++ r.least_)),(c_0x3,aE5 (s_0x3 ++ r.most_))]) (fun c_0x1 s_0x1 c_0x2 s_0x2 c_0x3 s_0x3=>.tup [])) := by
  unfold rule_track_update at h
  refine ACall.lessH ?_
  refine ACall.bodyN Tryz.func224 J Tryz.ntmps224 Tryz.results224 J J ?_
  refine tSR<|rM J J<|bndE h fun v1 e1 h=>t_call0 J (rule_track_now_c e1) (CoL.refl _) (.cons .p0 (.cons .p0 (.cons .p0 (.cons .p0 .nil)))) J J<|rA J J<|rN<|tSR<|rM J J<|rM J J<|ARun.qv (q_nilCheck_ptr J) J<|rF J J J<|rL J J .p0 J J<|ARun.qv (q_neq J J) J<|rN<|ATodo.cut (fun σ'=>∃ (n2 : Int) (n3 : Int),rule_track_update_j1 p0x0 n2 n3 = some r ∧ σ' = ⟨21,[],[(b_0,.cells [.rptr [.str p0x0.rule_.Key,.str p0x0.rule_.Metric,I p0x0.rule_.Agg,I p0x0.rule_.Long,.bool p0x0.rule_.Above,I p0x0.rule_.On,I p0x0.rule_.Off,I p0x0.rule_.Hold,I p0x0.rule_.Rest,I p0x0.rule_.Empty],.sl 2 b_0x1 r_0x1.length p0x0.window_.length,.sl 2 b_0x2 r_0x2.length p0x0.least_.length,.sl 2 b_0x3 r_0x3.length p0x0.most_.length,I p0x0.sum_,I n2,I n3,.bool p0x0.firing_,I p0x0.began_,.func f_0x9F f_0x9C]),(b_0x1,aE5 (r_0x1 ++ p0x0.window_)),(b_0x2,aE5 (r_0x2 ++ p0x0.least_)),(b_0x3,aE5 (r_0x3 ++ p0x0.most_))]⟩) ?_ ?_
  · refine ATodo.cond_d J (fun hc=>?_) (fun hc=>?_)
    · exact have h := iteT hc h; tR<|rM J J<|rM J J<|rM J J<|rM J J<|ARun.qv (q_nilCheck_ptr J) J<|rF J J J<|n_store_ptr J J J J .p0 J J<|ARun.qv (q_nilCheck_ptr J) J<|rF J J J<|n_store_ptr J J J J .p0 J J<|rN<|ATodo.stop<|ImpX.lq [0,0,0,0] ⟨v1,p1x0,h,J⟩ J J
    · exact have h := iteF hc h; tK<|ATodo.stop<|ImpX.lq [0,0,0,0] ⟨p0x0.state_,p0x0.since_,h,J⟩ J J
  · rintro σ' ⟨n2, n3, h, rfl⟩
    unfold rule_track_update_j1 at h
    refine ATodo.nil<|?_
    obtain rfl := Option.some.inj h
    exact ImpX.here ⟨_,.nil,_,.cons .p0 (.cons .p0 (.cons .p0 (.cons .p0 .nil))),⟨b_0x1,r_0x1,b_0x2,r_0x2,b_0x3,r_0x3,J,J⟩⟩

theorem rule_spansOf_1x_c [GI : GTab] {b_2 : Bk} {b_2x0 : Bk} {p0x0 : Int} {p1x0 : Bool} {p2x0 : List Rule_span} {r : (List Rule_span)} (h : rule_spansOf_1x p0x0 p1x0 p2x0 = some r) : ACall Tryz.prog 170 [I p0x0,.bool p1x0,.ptr b_2 0] [(b_2,.cells [.sl 2 b_2x0 0 p2x0.length]),(b_2x0,aE6 p2x0)] (T1 (fun c_2x0=>[(b_2,.cells [.sl 2 c_2x0 0 r.length]),(c_2x0,aE6 r)]) (fun c_2x0=>.tup [])) := by
  unfold rule_spansOf_1x at h
  refine ACall.lessH ?_
  refine ACall.bodyN Tryz.func170 J Tryz.ntmps170 Tryz.results170 J J ?_
  refine tSR<|rM J J<|rN<|ATodo.cut (fun σ'=>∃ (b1 : Bk) (l2 : List Rule_span),rule_spansOf_1x_j1 l2 = some r ∧ σ' = ⟨18,[],[(b_2,.cells [.sl 2 b1 0 l2.length]),(b1,aE6 l2)]⟩) ?_ ?_
  · refine ATodo.cond J (fun hc=>?_) (fun hc=>?_)
    · exact have h := iteT hc h; tR<|rL J J .p0 J J<|rM J J<|ARun.qv (n_build J J J J J) J<|n_buildSliceL (xs := ([(⟨p0x0,(345686400000 : Int)⟩ : Rule_span)]).map Rule_span.av) J J J J J J<|bndE h fun l3 e1 h=>t_append (g := Rule_span.av) J J J J J J J J (.list _) e1 (fun _=>.p1) J fun b4=>n_store_ptr J J J J .p0 J J<|rN<|ATodo.stop<|ImpX.lq [0,0] ⟨b4,l3,h,J⟩ J J
    · exact have h := iteFb hc h; tR<|rL J J .p0 J J<|rL J J .p0 J J<|ARun.qv (t_len_sl J) J<|ARun.qv (q_subw J J) J<|rM J J<|bndE h fun v5 e2 h=>ARun.qv (t_index_sl J J J e2) J<|ARun.qv (t_field_aptr J J) J<|t_store_aptr1 (g := Rule_span.av) (el' := (⟨v5.from_,p0x0⟩ : Rule_span)) J J J J e2 J .p1 J<|ARun.ghost<|ImpX.eqs (s := 11) (av' := .sl 2 b_2x0 0 (p2x0.set (w64 ((p2x0.length : Int) - (1 : Int))).toNat (⟨v5.from_,p0x0⟩ : Rule_span)).length) J (by rw [List.length_set])<|ImpX.here<|ARun.ghost<|ImpX.eqs (s := 12) (av' := .sl 2 b_2x0 0 (p2x0.set (w64 ((p2x0.length : Int) - (1 : Int))).toNat (⟨v5.from_,p0x0⟩ : Rule_span)).length) J (by rw [List.length_set])<|ImpX.here<|ARun.ghost<|ImpX.eqBox (j := 0) (av' := .sl 2 b_2x0 0 (p2x0.set (w64 ((p2x0.length : Int) - (1 : Int))).toNat (⟨v5.from_,p0x0⟩ : Rule_span)).length) .p0 J (by rw [List.length_set]) J<|ImpX.here<|rN<|ATodo.stop<|ImpX.lq [0,0] ⟨b_2x0,p2x0.set (w64 ((p2x0.length : Int) - (1 : Int))).toNat (⟨v5.from_,p0x0⟩ : Rule_span),h,J⟩ J J
  · rintro σ' ⟨b1, l2, h, rfl⟩
    unfold rule_spansOf_1x_j1 at h
    refine ATodo.nil<|?_
    obtain rfl := Option.some.inj h
    exact ImpX.here ⟨_,.nil,_,.cons .p0 (.cons .p0 .nil),⟨b1,J,J⟩⟩

theorem rule_track_advance_c0x9xrule_spansOf_1x_c [GI : GTab] {b_0 : Bk} {b_0x1 : Bk} {r_0x1 : List Rule_sample} {b_0x2 : Bk} {r_0x2 : List Rule_sample} {b_0x3 : Bk} {r_0x3 : List Rule_sample} {b_2 : Bk} {b_2x0 : Bk} {p0x0 : Rule_track} {p1x0 : Int} {p2x0 : List Rule_span} {r : Rule_track × (List Rule_span)} (h : rule_track_advance_c0x9xrule_spansOf_1x p0x0 p1x0 p2x0 = some r) : ACall Tryz.prog 171 [.ptr b_0 0,I p1x0] [(b_0,.cells [.rptr [.str p0x0.rule_.Key,.str p0x0.rule_.Metric,I p0x0.rule_.Agg,I p0x0.rule_.Long,.bool p0x0.rule_.Above,I p0x0.rule_.On,I p0x0.rule_.Off,I p0x0.rule_.Hold,I p0x0.rule_.Rest,I p0x0.rule_.Empty],.sl 2 b_0x1 r_0x1.length p0x0.window_.length,.sl 2 b_0x2 r_0x2.length p0x0.least_.length,.sl 2 b_0x3 r_0x3.length p0x0.most_.length,I p0x0.sum_,I p0x0.state_,I p0x0.since_,.bool p0x0.firing_,I p0x0.began_,.func (.func 170) [.ptr b_2 0]]),(b_0x1,aE5 (r_0x1 ++ p0x0.window_)),(b_0x2,aE5 (r_0x2 ++ p0x0.least_)),(b_0x3,aE5 (r_0x3 ++ p0x0.most_)),(b_2,.cells [.sl 2 b_2x0 0 p2x0.length]),(b_2x0,aE6 p2x0)] (T7 (fun c_0x1 s_0x1 c_0x2 s_0x2 c_0x3 s_0x3 c_2x0=>[(b_0,.cells [.rptr [.str p0x0.rule_.Key,.str p0x0.rule_.Metric,I p0x0.rule_.Agg,I p0x0.rule_.Long,.bool p0x0.rule_.Above,I p0x0.rule_.On,I p0x0.rule_.Off,I p0x0.rule_.Hold,I p0x0.rule_.Rest,I p0x0.rule_.Empty],.sl 2 c_0x1 s_0x1.length r.1.window_.length,.sl 2 c_0x2 s_0x2.length r.1.least_.length,.sl 2 c_0x3 s_0x3.length r.1.most_.length,I r.1.sum_,I r.1.state_,I r.1.since_,.bool r.1.firing_,I r.1.began_,.func (.func 170) [.ptr b_2 0]]),(c_0x1,aE5 (s_0x1 ++ r.1.window_)),(c_0x2,aE5 (s_0x2 ++ r.1.least_)),(c_0x3,aE5 (s_0x3 ++ r.1.most_)),(b_2,.cells [.sl 2 c_2x0 0 r.2.length]),(c_2x0,aE6 r.2)]) (fun c_0x1 s_0x1 c_0x2 s_0x2 c_0x3 s_0x3 c_2x0=>.tup [])) := by
  unfold rule_track_advance_c0x9xrule_spansOf_1x at h
  refine ACall.lessH ?_
  refine ACall.bodyN Tryz.func171 J Tryz.ntmps171 Tryz.results171 J J ?_
  refine ATodo.block<|ATodo.loopI (fun x : (List Rule_sample) × (List Rule_sample) × (List Rule_sample) × Int × Int × Int × Bool × Int × (List Rule_span)=>rule_track_advance_c0x9xrule_spansOf_1x_b1 p0x0 p1x0 x.1 x.2.1 x.2.2.1 x.2.2.2.1 x.2.2.2.2.1 x.2.2.2.2.2.1 x.2.2.2.2.2.2.1 x.2.2.2.2.2.2.2.1 x.2.2.2.2.2.2.2.2) (fun x σ'=>∃ (b17 : Bk) (r19 : List Rule_sample) (b20 : Bk) (r22 : List Rule_sample) (b23 : Bk) (r25 : List Rule_sample) (b31 : Bk),σ' = ⟨47,[(0,.ptr b_0 0),(1,I p1x0)],[(b_0,.cells [.rptr [.str p0x0.rule_.Key,.str p0x0.rule_.Metric,I p0x0.rule_.Agg,I p0x0.rule_.Long,.bool p0x0.rule_.Above,I p0x0.rule_.On,I p0x0.rule_.Off,I p0x0.rule_.Hold,I p0x0.rule_.Rest,I p0x0.rule_.Empty],.sl 2 b17 r19.length x.1.length,.sl 2 b20 r22.length x.2.1.length,.sl 2 b23 r25.length x.2.2.1.length,I x.2.2.2.1,I x.2.2.2.2.1,I x.2.2.2.2.2.1,.bool x.2.2.2.2.2.2.1,I x.2.2.2.2.2.2.2.1,.func (.func 170) [.ptr b_2 0]]),(b17,aE5 (r19 ++ x.1)),(b20,aE5 (r22 ++ x.2.1)),(b23,aE5 (r25 ++ x.2.2.1)),(b_2,.cells [.sl 2 b31 0 x.2.2.2.2.2.2.2.2.length]),(b31,aE6 x.2.2.2.2.2.2.2.2)]⟩) h ?_ ?_
  · exact ImpX.lq [0,0,0,0,0,0] ⟨b_0x1,r_0x1,b_0x2,r_0x2,b_0x3,r_0x3,b_2x0,J⟩ J J
  · intro x z1 σ' J1 hmk h hJ1 hA1
    obtain ⟨l18, l21, l24, n26, n27, n28, c29, n30, l32⟩ := x
    obtain ⟨b17, r19, b20, r22, b23, r25, b31, rfl⟩ := hmk
    replace h : rule_track_advance_c0x9xrule_spansOf_1x_b1 p0x0 p1x0 l18 l21 l24 n26 n27 n28 c29 n30 l32 = some z1 := h
    unfold rule_track_advance_c0x9xrule_spansOf_1x_b1 at h
    refine ATodo.block<|tSR<|rM J J<|bndE h fun v33 e1 h=>t_call0 J (rule_track_due_c e1) (CoL.refl _) (.cons .p0 (.cons .p0 (.cons .p0 (.cons .p0 .nil)))) J J<|rA J J<|rN<|tS<|tSR<|rM J J<|rM J J<|ARun.qv (q_min J J) J<|ARun.qv (q_geq J J) J<|rN<|ATodo.cond_d J (fun hc=>?_) (fun hc=>?_)
    · refine have h := iteT hc h; ATodo.ret<|have h := outL h hA1; ?_
      obtain rfl := Option.some.inj h
      exact ImpX.here ⟨_,.nil,_,.cons .p0 (.cons .p0 (.cons .p0 (.cons .p0 (.cons .p0 (.cons .p0 .nil))))),⟨b17,r19,b20,r22,b23,r25,b31,J,J⟩⟩
    · refine have h := iteF hc h; tK<|tSR<|rM J J<|rM J J<|bndE h fun v34 e2 h=>t_call6 J (rule_track_drop_c e2) (CoL.refl _) (.cons .p0 (.cons .p0 (.cons .p0 (.cons .p0 .nil)))) (fun _ _ _ _ _ _=>J) J fun b35 r36 b37 r38 b39 r40=>rN<|tSR<|rM J J<|rM J J<|bndE h fun v41 e3 h=>t_call6 J (rule_track_update_c e3) (CoL.refl _) (.cons .p0 (.cons .p0 (.cons .p0 (.cons .p0 .nil)))) (fun _ _ _ _ _ _=>J) J fun b42 r43 b44 r45 b46 r47=>rN<|tSR<|rM J J<|t_call0 J (rule_track_turn_c (J : rule_track_turn (⟨p0x0.rule_,v41.window_,v41.least_,v41.most_,v41.sum_,v41.state_,v41.since_,v41.firing_,v41.began_⟩ : Rule_track) = _)) (CoL.refl _) (.cons .p0 (.cons .p0 (.cons .p0 (.cons .p0 .nil)))) J J<|rM J J<|ARun.qv (q_eql J J) J<|rN<|ATodo.cut (fun σ'=>∃ (b50 : Bk) (c48 : Bool) (n49 : Int) (l51 : List Rule_span),rule_track_advance_c0x9xrule_spansOf_1x_j1 v41 c48 n49 l51 = some z1 ∧ σ' = ⟨47,[(0,.ptr b_0 0),(1,I p1x0)],[(b_0,.cells [.rptr [.str p0x0.rule_.Key,.str p0x0.rule_.Metric,I p0x0.rule_.Agg,I p0x0.rule_.Long,.bool p0x0.rule_.Above,I p0x0.rule_.On,I p0x0.rule_.Off,I p0x0.rule_.Hold,I p0x0.rule_.Rest,I p0x0.rule_.Empty],.sl 2 b42 r43.length v41.window_.length,.sl 2 b44 r45.length v41.least_.length,.sl 2 b46 r47.length v41.most_.length,I v41.sum_,I v41.state_,I v41.since_,.bool c48,I n49,.func (.func 170) [.ptr b_2 0]]),(b42,aE5 (r43 ++ v41.window_)),(b44,aE5 (r45 ++ v41.least_)),(b46,aE5 (r47 ++ v41.most_)),(b_2,.cells [.sl 2 b50 0 l51.length]),(b50,aE6 l51)]⟩) ?_ ?_
      · refine ATodo.cond_d J (fun hc=>?_) (fun hc=>?_)
        · refine have h := iteT hc h; tSR<|rM J J<|rM J J<|ARun.qv (q_nilCheck_ptr J) J<|rF J J J<|rL J J .p0 J J<|ARun.qv (q_not J) J<|ARun.qv (q_nilCheck_ptr J) J<|rF J J J<|n_store_ptr J J J J .p0 J J<|rN<|tS<|tSR<|rM J J<|ARun.qv (q_nilCheck_ptr J) J<|rF J J J<|rL J J .p0 J J<|rN<|ATodo.cut (fun σ'=>∃ (n52 : Int),rule_track_advance_c0x9xrule_spansOf_1x_j2 l32 v33 v41 n52 = some z1 ∧ σ' = ⟨47,[(0,.ptr b_0 0),(1,I p1x0),(4,I v33)],[(b_0,.cells [.rptr [.str p0x0.rule_.Key,.str p0x0.rule_.Metric,I p0x0.rule_.Agg,I p0x0.rule_.Long,.bool p0x0.rule_.Above,I p0x0.rule_.On,I p0x0.rule_.Off,I p0x0.rule_.Hold,I p0x0.rule_.Rest,I p0x0.rule_.Empty],.sl 2 b42 r43.length v41.window_.length,.sl 2 b44 r45.length v41.least_.length,.sl 2 b46 r47.length v41.most_.length,I v41.sum_,I v41.state_,I v41.since_,.bool (!v41.firing_),I n52,.func (.func 170) [.ptr b_2 0]]),(b42,aE5 (r43 ++ v41.window_)),(b44,aE5 (r45 ++ v41.least_)),(b46,aE5 (r47 ++ v41.most_)),(b_2,.cells [.sl 2 b31 0 l32.length]),(b31,aE6 l32)]⟩) ?_ ?_
          · refine ATodo.cond J (fun hc=>?_) (fun hc=>?_)
            · exact have h := iteT hc h; tR<|rM J J<|rM J J<|ARun.qv (q_nilCheck_ptr J) J<|rF J J J<|n_store_ptr J J J J .p0 J J<|rN<|ATodo.stop<|ImpX.lq [0,0,0,0,0,0] ⟨v33,h,J⟩ J J
            · exact have h := iteFb hc h; tK<|ATodo.stop<|ImpX.lq [0,0,0,0,0,0] ⟨v41.began_,h,J⟩ J J
          · rintro σ' ⟨n52, h, rfl⟩
            unfold rule_track_advance_c0x9xrule_spansOf_1x_j2 at h
            exact ATodo.regionM (id := 8) (A := [0,1,3,7,0,0,32,96,224,511]) 9 mixed J (by kernel_rfl) (by kernel_rfl)<|AM.qv (q_move J) J<|AM.qv (q_nilCheck_ptr J) J<|AM.qv (n_field_ptr J J) J<|AM.qv (q_load_ptr J J .p0 J) J<|AM.qv (q_move J) J<|AM.qv (q_move J) J<|AM.qv (q_nilCheck_ptr J) J<|AM.qv (n_field_ptr J J) J<|AM.qv (q_load_ptr J J .p0 J) J<|AM.nil<|bndE h fun v53 e4 h=>t_callv1 J J J (rule_spansOf_1x_c e4) (CoL.refl _) (.cons .p4 (.cons .p4 .nil)) (fun _=>J) J fun b54=>rN<|ATodo.stop<|ImpX.lq [2,2,2,2,0,0] ⟨b54,!v41.firing_,n52,v53,h,J⟩ J J
        · exact have h := iteF hc h; tK<|ATodo.stop<|ImpX.lq [0,0,0,0,0,0] ⟨b31,v41.firing_,v41.began_,l32,h,J⟩ J J
      · rintro σ' ⟨b50, c48, n49, l51, h, rfl⟩
        unfold rule_track_advance_c0x9xrule_spansOf_1x_j1 at h
        refine ATodo.blk<|ATodo.stop<|?_
        obtain rfl := Option.some.inj h
        exact hJ1 _ _ J<|ImpX.lq [0,0,0,0,0,0] ⟨b42,r43,b44,r45,b46,r47,b50,J⟩ J J

theorem rule_track_put_c [GI : GTab] {b_0 : Bk} {b_0x1 : Bk} {r_0x1 : List Rule_sample} {b_0x2 : Bk} {r_0x2 : List Rule_sample} {b_0x3 : Bk} {r_0x3 : List Rule_sample} {f_0x9F : Fn} {f_0x9C : List AV} {p0x0 : Rule_track} {p1x0 : Rule_sample} {r : Rule_track} (h : rule_track_put p0x0 p1x0 = some r) : ACall Tryz.prog 172 [.ptr b_0 0,Rule_sample.av p1x0] [(b_0,.cells [.rptr [.str p0x0.rule_.Key,.str p0x0.rule_.Metric,I p0x0.rule_.Agg,I p0x0.rule_.Long,.bool p0x0.rule_.Above,I p0x0.rule_.On,I p0x0.rule_.Off,I p0x0.rule_.Hold,I p0x0.rule_.Rest,I p0x0.rule_.Empty],.sl 2 b_0x1 r_0x1.length p0x0.window_.length,.sl 2 b_0x2 r_0x2.length p0x0.least_.length,.sl 2 b_0x3 r_0x3.length p0x0.most_.length,I p0x0.sum_,I p0x0.state_,I p0x0.since_,.bool p0x0.firing_,I p0x0.began_,.func f_0x9F f_0x9C]),(b_0x1,aE5 (r_0x1 ++ p0x0.window_)),(b_0x2,aE5 (r_0x2 ++ p0x0.least_)),(b_0x3,aE5 (r_0x3 ++ p0x0.most_))] (T6 (fun c_0x1 s_0x1 c_0x2 s_0x2 c_0x3 s_0x3=>[(b_0,.cells [.rptr [.str p0x0.rule_.Key,.str p0x0.rule_.Metric,I p0x0.rule_.Agg,I p0x0.rule_.Long,.bool p0x0.rule_.Above,I p0x0.rule_.On,I p0x0.rule_.Off,I p0x0.rule_.Hold,I p0x0.rule_.Rest,I p0x0.rule_.Empty],.sl 2 c_0x1 s_0x1.length r.window_.length,.sl 2 c_0x2 s_0x2.length r.least_.length,.sl 2 c_0x3 s_0x3.length r.most_.length,I r.sum_,I r.state_,I r.since_,.bool r.firing_,I r.began_,.func f_0x9F f_0x9C]),(c_0x1,aE5 (s_0x1 ++ r.window_)),(c_0x2,aE5 (s_0x2 ++ r.least_)),(c_0x3,aE5 (s_0x3 ++ r.most_))]) (fun c_0x1 s_0x1 c_0x2 s_0x2 c_0x3 s_0x3=>.tup [])) := by
  unfold rule_track_put at h
  refine ACall.lessH ?_
  refine ACall.bodyN Tryz.func172 J Tryz.ntmps172 Tryz.results172 J J ?_
  refine tSR<|n_box J J J J fun b1=>rN<|tSR<|rM J J<|rF J J J<|rL J J .p0 J J<|bndE h fun v2 e1 h=>t_call6 J (rule_track_drop_c e1) (CoL.refl _) (.cons .p1 (.cons .p1 (.cons .p1 (.cons .p1 .nil)))) (fun _ _ _ _ _ _=>J) J fun b3 r4 b5 r6 b7 r8=>rN<|tS<|bndE h fun l9 e2 h=>ATodo.regionT (id := 2) (A := [0,0,2,6,14,0,32,126,255,511,1023]) (H0 := [(b3,aE5 (r4 ++ v2.window_))]) (HH := fun β=>[((β 7),aE5 ((preO b3 (β 7) r4) ++ l9)),(b_0,.cells [.rptr [.str p0x0.rule_.Key,.str p0x0.rule_.Metric,I p0x0.rule_.Agg,I p0x0.rule_.Long,.bool p0x0.rule_.Above,I p0x0.rule_.On,I p0x0.rule_.Off,I p0x0.rule_.Hold,I p0x0.rule_.Rest,I p0x0.rule_.Empty],.sl 2 b3 r4.length v2.window_.length,.sl 2 b5 r6.length v2.least_.length,.sl 2 b7 r8.length v2.most_.length,I v2.sum_,I v2.state_,I v2.since_,.bool v2.firing_,I v2.began_,.func f_0x9F f_0x9C]),(b5,aE5 (r6 ++ v2.least_)),(b7,aE5 (r8 ++ v2.most_)),(b1,.cells [I p1x0.at_,I p1x0.value_])]) 8 mixed J (by kernel_rfl) (by kernel_rfl) [⟨none,some 7,[],fun _=>(b3,aE5 (r4 ++ v2.window_)),none,[]⟩,⟨some 7,none,[],fun b=>(b,aE5 ((preO b3 b r4) ++ l9)),none,[]⟩] [7] J (by kernel_rfl) J (.cons .p1 .nil) (fun _=>J)<|AT.am 7 J J<|AM.qv (q_move J) J<|AM.qv (q_move J) J<|AM.qv (q_nilCheck_ptr J) J<|AM.qv (n_field_ptr J J) J<|AM.qv (q_load_ptr J J .p0 J) J<|AM.qv (q_load_ptr_all J J .p3 J) J<|AM.buildSliceL (xs := ([p1x0] : List Rule_sample).map Rule_sample.av) J J J J J J<|AM.nil<|AT.runD (V := fun b=>.sl 2 b (preO b3 b r4).length l9.length) (Ti := [(b3,aE5 (r4 ++ v2.window_))]) (Pi := fun b=>[(b,aE5 ((preO b3 b r4) ++ l9))]) (fun _=>J) (fun _=>J) (fun _ _=>J) J (fun _=>J) J J J ?_ ?_
  · exact t_appendO (g := Rule_sample.av) (Ps := r4) (Xs := v2.window_) J J J J J J J J (.list _) e2 (fun _=>.p0) fun b10=>ARun.nil ⟨b10,_,J,J⟩
  refine AT.nilN (fun _=>J) fun β=>?_
  generalize β 7 = b10
  clear β
  refine ARun.qv (q_nilCheck_ptr J) J<|rF J J J<|n_store_ptr J J J J .p1 J J<|rN<|tS<|ATodo.regionM (id := 3) (A := [0,1,3,7,0,16,63,127,255,511]) 9 mixed J (by kernel_rfl) (by kernel_rfl)<|AM.qv (q_move J) J<|AM.qv (q_nilCheck_ptr J) J<|AM.qv (n_field_ptr J J) J<|AM.qv (q_load_ptr J J .p1 J) J<|AM.qv (n_field_ptr J J) J<|AM.qv (q_load_ptr J J .p4 J) J<|AM.qv (q_addw J J) J<|AM.qv (q_nilCheck_ptr J) J<|AM.qv (n_field_ptr J J) J<|AM.nil<|n_store_ptr J J J J .p1 J J<|rN<|tS<|tSR<|rM J J<|ARun.qv (q_nilCheck_ptr J) J<|rF J J J<|rL J J .p1 J J<|ARun.qv (q_len_sl J) J<|rA J J<|rN<|ATodo.block<|ATodo.loopI (fun x : (List Rule_sample) × Int=>rule_track_put_b1 p0x0 p1x0 v2 l9 x.1 x.2) (fun x σ'=>σ' = ⟨119,[(0,.ptr b_0 0),(3,.ptr b1 0),(4,I x.2)],[(b_0,.cells [.rptr [.str p0x0.rule_.Key,.str p0x0.rule_.Metric,I p0x0.rule_.Agg,I p0x0.rule_.Long,.bool p0x0.rule_.Above,I p0x0.rule_.On,I p0x0.rule_.Off,I p0x0.rule_.Hold,I p0x0.rule_.Rest,I p0x0.rule_.Empty],.sl 2 b10 (preO b3 b10 r4).length l9.length,.sl 2 b5 r6.length x.1.length,.sl 2 b7 r8.length v2.most_.length,I (w64 (v2.sum_ + p1x0.value_)),I v2.state_,I v2.since_,.bool v2.firing_,I v2.began_,.func f_0x9F f_0x9C]),(b10,aE5 ((preO b3 b10 r4) ++ l9)),(b5,aE5 (r6 ++ x.1)),(b7,aE5 (r8 ++ v2.most_)),(b1,.cells [I p1x0.at_,I p1x0.value_])]⟩) h ?_ ?_
  · exact ImpX.lq [1,0,0,0,0] J J J
  · intro x z1 σ' J1 hmk h hJ1 hA1
    obtain ⟨l13, n14⟩ := x
    obtain rfl := hmk
    replace h : rule_track_put_b1 p0x0 p1x0 v2 l9 l13 n14 = some z1 := h
    unfold rule_track_put_b1 at h
    refine tS<|tS<|ATodo.cut (fun σ'=>∃ (c15 : Bool),rule_track_put_j1 p0x0 p1x0 v2 l9 l13 n14 c15 = some z1 ∧ σ' = ⟨119,[(0,.ptr b_0 0),(3,.ptr b1 0),(4,I n14),(49,.bool c15)],[(b_0,.cells [.rptr [.str p0x0.rule_.Key,.str p0x0.rule_.Metric,I p0x0.rule_.Agg,I p0x0.rule_.Long,.bool p0x0.rule_.Above,I p0x0.rule_.On,I p0x0.rule_.Off,I p0x0.rule_.Hold,I p0x0.rule_.Rest,I p0x0.rule_.Empty],.sl 2 b10 (preO b3 b10 r4).length l9.length,.sl 2 b5 r6.length l13.length,.sl 2 b7 r8.length v2.most_.length,I (w64 (v2.sum_ + p1x0.value_)),I v2.state_,I v2.since_,.bool v2.firing_,I v2.began_,.func f_0x9F f_0x9C]),(b10,aE5 ((preO b3 b10 r4) ++ l9)),(b5,aE5 (r6 ++ l13)),(b7,aE5 (r8 ++ v2.most_)),(b1,.cells [I p1x0.at_,I p1x0.value_])]⟩) ?_ ?_
    · refine ATodo.regionM (id := 5) (A := [0,1,3,7,15,31,63,7,135,511,1023,2047,7,4103,16383,32767]) 16 mixed J (by kernel_rfl) (by kernel_rfl)<|AM.qv (q_move J) J<|AM.qv (q_gtr J J) J<|AM.qv (q_move J) J<|AM.guard_dt J J J (fun hc=>?_) (fun hc=>?_)
      · exact have h := iteT hc h; AM.qv (q_move J) J<|AM.guard_yes J J J<|AM.qv (q_nilCheck_ptr J) J<|AM.guard_yes J J J<|AM.qv (n_field_ptr J J) J<|AM.guard_yes J J J<|AM.qv (q_load_ptr J J .p0 J) J<|AM.guard_yes J J J<|AM.qv (q_move J) J<|AM.guard_yes J J J<|AM.qv (q_subw J J) J<|AM.guard_yes J J J<|bndE h fun v16 e3 h=>AM.qv (t_index_dq (Ps := r6) (Xs := l13) J J J e3) J<|AM.guard_yes J J J<|AM.qv (t_field_aptr J J) J<|AM.guard_yes J J J<|AM.qv (t_load_dq (g := Rule_sample.av) (Ps := r6) (Xs := l13) J J .p2 e3 J) J<|AM.guard_yes J J J<|AM.qv (n_field_ptr J J) J<|AM.guard_yes J J J<|AM.qv (q_load_ptr J J .p4 J) J<|AM.guard_yes J J J<|AM.qv (q_geq J J) J<|AM.qv (q_pick_t J J) J<|AM.nil<|rN<|ATodo.stop<|ImpX.lq [0,0,0,0,0] ⟨decide (p1x0.value_ ≤ v16.value_),h,J⟩ J J
      · exact have h := iteF hc h; AM.guard_no J J J J<|AM.guard_no J J J J<|AM.guard_no J J J J<|AM.guard_no J J J J<|AM.guard_no J J J J<|AM.guard_no J J J J<|AM.guard_no J J J J<|AM.guard_no J J J J<|AM.guard_no J J J J<|AM.guard_no J J J J<|AM.guard_no J J J J<|AM.qv (q_pick_f J J) J<|AM.nil<|rN<|ATodo.stop<|ImpX.lq [0,0,0,0,0] ⟨false,h,J⟩ J J
    · rintro σ' ⟨c15, h, rfl⟩
      unfold rule_track_put_j1 at h
      refine ATodo.cond J (fun hc=>?_) (fun hc=>?_)
      · refine have h := iteT hc h; tK<|tS<|ATodo.block<|tR<|rM J J<|rM J J<|ARun.qv (q_nilCheck_ptr J) J<|rF J J J<|rL J J .p0 J J<|rM J J<|ARun.qv (q_subw J J) J<|bndE h fun l17 e4 h=>ARun.qv (t_slice_dq (Ps := r6) (Xs := l13) J J .none (.some _ _ _ J) J J e4) J<|ARun.qv (q_nilCheck_ptr J) J<|rF J J J<|n_store_ptr J J J J .p0 J J<|ARun.ghost<|ImpX.dqTake (g := Rule_sample.av) (Ps := r6) (Xs := l13) e4 .p2<|ImpX.here<|rN<|ATodo.blk<|tR<|rM J J<|ARun.qv (q_subw J J) J<|rA J J<|rN<|ATodo.stop<|?_
        obtain rfl := Option.some.inj h
        exact hJ1 _ _ J<|ImpX.lq [0,0,0,0,0] J J J
      · refine have h := iteFb hc h; ATodo.exit J<|have h := outL h hA1; ?_
        unfold rule_track_put_k4 at h
        refine tS<|bndE h fun l18 e5 h=>ATodo.regionT (id := 8) (A := [0,0,2,6,14,0,32,126,255,511,1023]) (H0 := [(b5,aE5 (r6 ++ l13))]) (HH := fun β=>[((β 7),aE5 ((preO b5 (β 7) r6) ++ l18)),(b_0,.cells [.rptr [.str p0x0.rule_.Key,.str p0x0.rule_.Metric,I p0x0.rule_.Agg,I p0x0.rule_.Long,.bool p0x0.rule_.Above,I p0x0.rule_.On,I p0x0.rule_.Off,I p0x0.rule_.Hold,I p0x0.rule_.Rest,I p0x0.rule_.Empty],.sl 2 b10 (preO b3 b10 r4).length l9.length,.sl 2 b5 r6.length l13.length,.sl 2 b7 r8.length v2.most_.length,I (w64 (v2.sum_ + p1x0.value_)),I v2.state_,I v2.since_,.bool v2.firing_,I v2.began_,.func f_0x9F f_0x9C]),(b10,aE5 ((preO b3 b10 r4) ++ l9)),(b7,aE5 (r8 ++ v2.most_)),(b1,.cells [I p1x0.at_,I p1x0.value_])]) 8 mixed J (by kernel_rfl) (by kernel_rfl) [⟨none,some 7,[],fun _=>(b5,aE5 (r6 ++ l13)),none,[]⟩,⟨some 7,none,[],fun b=>(b,aE5 ((preO b5 b r6) ++ l18)),none,[]⟩] [7] J (by kernel_rfl) J (.cons .p2 .nil) (fun _=>J)<|AT.am 7 J J<|AM.qv (q_move J) J<|AM.qv (q_move J) J<|AM.qv (q_nilCheck_ptr J) J<|AM.qv (n_field_ptr J J) J<|AM.qv (q_load_ptr J J .p0 J) J<|AM.qv (q_load_ptr_all J J .p3 J) J<|AM.buildSliceL (xs := ([p1x0] : List Rule_sample).map Rule_sample.av) J J J J J J<|AM.nil<|AT.runD (V := fun b=>.sl 2 b (preO b5 b r6).length l18.length) (Ti := [(b5,aE5 (r6 ++ l13))]) (Pi := fun b=>[(b,aE5 ((preO b5 b r6) ++ l18))]) (fun _=>J) (fun _=>J) (fun _ _=>J) J (fun _=>J) J J J ?_ ?_
        · exact t_appendO (g := Rule_sample.av) (Ps := r6) (Xs := l13) J J J J J J J J (.list _) e5 (fun _=>.p0) fun b19=>ARun.nil ⟨b19,_,J,J⟩
        refine AT.nilN (fun _=>J) fun β=>?_
        generalize β 7 = b19
        clear β
        refine ARun.qv (q_nilCheck_ptr J) J<|rF J J J<|n_store_ptr J J J J .p1 J J<|rN<|tS<|tSR<|rM J J<|ARun.qv (q_nilCheck_ptr J) J<|rF J J J<|rL J J .p1 J J<|ARun.qv (q_len_sl J) J<|rA J J<|rN<|ATodo.block<|ATodo.loopI (fun x : (List Rule_sample) × Int=>rule_track_put_b2 p0x0 p1x0 v2 l9 l18 x.1 x.2) (fun x σ'=>σ' = ⟨119,[(0,.ptr b_0 0),(3,.ptr b1 0),(5,I x.2)],[(b_0,.cells [.rptr [.str p0x0.rule_.Key,.str p0x0.rule_.Metric,I p0x0.rule_.Agg,I p0x0.rule_.Long,.bool p0x0.rule_.Above,I p0x0.rule_.On,I p0x0.rule_.Off,I p0x0.rule_.Hold,I p0x0.rule_.Rest,I p0x0.rule_.Empty],.sl 2 b10 (preO b3 b10 r4).length l9.length,.sl 2 b19 (preO b5 b19 r6).length l18.length,.sl 2 b7 r8.length x.1.length,I (w64 (v2.sum_ + p1x0.value_)),I v2.state_,I v2.since_,.bool v2.firing_,I v2.began_,.func f_0x9F f_0x9C]),(b10,aE5 ((preO b3 b10 r4) ++ l9)),(b19,aE5 ((preO b5 b19 r6) ++ l18)),(b7,aE5 (r8 ++ x.1)),(b1,.cells [I p1x0.at_,I p1x0.value_])]⟩) h ?_ ?_
        · exact ImpX.lq [1,1,0,0,0] J J J
        · intro x z2 σ' J2 hmk h hJ2 hA2
          obtain ⟨l22, n23⟩ := x
          obtain rfl := hmk
          replace h : rule_track_put_b2 p0x0 p1x0 v2 l9 l18 l22 n23 = some z2 := h
          unfold rule_track_put_b2 at h
          refine tS<|tS<|ATodo.cut (fun σ'=>∃ (c24 : Bool),rule_track_put_j2 p0x0 p1x0 v2 l9 l18 l22 n23 c24 = some z2 ∧ σ' = ⟨119,[(0,.ptr b_0 0),(3,.ptr b1 0),(5,I n23),(92,.bool c24)],[(b_0,.cells [.rptr [.str p0x0.rule_.Key,.str p0x0.rule_.Metric,I p0x0.rule_.Agg,I p0x0.rule_.Long,.bool p0x0.rule_.Above,I p0x0.rule_.On,I p0x0.rule_.Off,I p0x0.rule_.Hold,I p0x0.rule_.Rest,I p0x0.rule_.Empty],.sl 2 b10 (preO b3 b10 r4).length l9.length,.sl 2 b19 (preO b5 b19 r6).length l18.length,.sl 2 b7 r8.length l22.length,I (w64 (v2.sum_ + p1x0.value_)),I v2.state_,I v2.since_,.bool v2.firing_,I v2.began_,.func f_0x9F f_0x9C]),(b10,aE5 ((preO b3 b10 r4) ++ l9)),(b19,aE5 ((preO b5 b19 r6) ++ l18)),(b7,aE5 (r8 ++ l22)),(b1,.cells [I p1x0.at_,I p1x0.value_])]⟩) ?_ ?_
          · refine ATodo.regionM (id := 10) (A := [0,1,3,7,15,31,63,7,135,511,1023,2047,7,4103,16383,32767]) 16 mixed J (by kernel_rfl) (by kernel_rfl)<|AM.qv (q_move J) J<|AM.qv (q_gtr J J) J<|AM.qv (q_move J) J<|AM.guard_dt J J J (fun hc=>?_) (fun hc=>?_)
            · exact have h := iteT hc h; AM.qv (q_move J) J<|AM.guard_yes J J J<|AM.qv (q_nilCheck_ptr J) J<|AM.guard_yes J J J<|AM.qv (n_field_ptr J J) J<|AM.guard_yes J J J<|AM.qv (q_load_ptr J J .p0 J) J<|AM.guard_yes J J J<|AM.qv (q_move J) J<|AM.guard_yes J J J<|AM.qv (q_subw J J) J<|AM.guard_yes J J J<|bndE h fun v25 e6 h=>AM.qv (t_index_dq (Ps := r8) (Xs := l22) J J J e6) J<|AM.guard_yes J J J<|AM.qv (t_field_aptr J J) J<|AM.guard_yes J J J<|AM.qv (t_load_dq (g := Rule_sample.av) (Ps := r8) (Xs := l22) J J .p3 e6 J) J<|AM.guard_yes J J J<|AM.qv (n_field_ptr J J) J<|AM.guard_yes J J J<|AM.qv (q_load_ptr J J .p4 J) J<|AM.guard_yes J J J<|AM.qv (q_leq J J) J<|AM.qv (q_pick_t J J) J<|AM.nil<|rN<|ATodo.stop<|ImpX.lq [0,0,0,0,0] ⟨decide (v25.value_ ≤ p1x0.value_),h,J⟩ J J
            · exact have h := iteF hc h; AM.guard_no J J J J<|AM.guard_no J J J J<|AM.guard_no J J J J<|AM.guard_no J J J J<|AM.guard_no J J J J<|AM.guard_no J J J J<|AM.guard_no J J J J<|AM.guard_no J J J J<|AM.guard_no J J J J<|AM.guard_no J J J J<|AM.guard_no J J J J<|AM.qv (q_pick_f J J) J<|AM.nil<|rN<|ATodo.stop<|ImpX.lq [0,0,0,0,0] ⟨false,h,J⟩ J J
          · rintro σ' ⟨c24, h, rfl⟩
            unfold rule_track_put_j2 at h
            refine ATodo.cond J (fun hc=>?_) (fun hc=>?_)
            · refine have h := iteT hc h; tK<|tS<|ATodo.block<|tR<|rM J J<|rM J J<|ARun.qv (q_nilCheck_ptr J) J<|rF J J J<|rL J J .p0 J J<|rM J J<|ARun.qv (q_subw J J) J<|bndE h fun l26 e7 h=>ARun.qv (t_slice_dq (Ps := r8) (Xs := l22) J J .none (.some _ _ _ J) J J e7) J<|ARun.qv (q_nilCheck_ptr J) J<|rF J J J<|n_store_ptr J J J J .p0 J J<|ARun.ghost<|ImpX.dqTake (g := Rule_sample.av) (Ps := r8) (Xs := l22) e7 .p3<|ImpX.here<|rN<|ATodo.blk<|tR<|rM J J<|ARun.qv (q_subw J J) J<|rA J J<|rN<|ATodo.stop<|?_
              obtain rfl := Option.some.inj h
              exact hJ2 _ _ J<|ImpX.lq [0,0,0,0,0] J J J
            · refine have h := iteFb hc h; ATodo.exit J<|have h := outL h hA2; ?_
              unfold rule_track_put_k3 at h
              refine tS<|bndE h fun l27 e8 h=>ATodo.regionT (id := 13) (A := [0,0,2,6,14,0,32,126,255,511,1023]) (H0 := [(b7,aE5 (r8 ++ l22))]) (HH := fun β=>[((β 7),aE5 ((preO b7 (β 7) r8) ++ l27)),(b_0,.cells [.rptr [.str p0x0.rule_.Key,.str p0x0.rule_.Metric,I p0x0.rule_.Agg,I p0x0.rule_.Long,.bool p0x0.rule_.Above,I p0x0.rule_.On,I p0x0.rule_.Off,I p0x0.rule_.Hold,I p0x0.rule_.Rest,I p0x0.rule_.Empty],.sl 2 b10 (preO b3 b10 r4).length l9.length,.sl 2 b19 (preO b5 b19 r6).length l18.length,.sl 2 b7 r8.length l22.length,I (w64 (v2.sum_ + p1x0.value_)),I v2.state_,I v2.since_,.bool v2.firing_,I v2.began_,.func f_0x9F f_0x9C]),(b10,aE5 ((preO b3 b10 r4) ++ l9)),(b19,aE5 ((preO b5 b19 r6) ++ l18)),(b1,.cells [I p1x0.at_,I p1x0.value_])]) 8 mixed J (by kernel_rfl) (by kernel_rfl) [⟨none,some 7,[],fun _=>(b7,aE5 (r8 ++ l22)),none,[]⟩,⟨some 7,none,[],fun b=>(b,aE5 ((preO b7 b r8) ++ l27)),none,[]⟩] [7] J (by kernel_rfl) J (.cons .p3 .nil) (fun _=>J)<|AT.am 7 J J<|AM.qv (q_move J) J<|AM.qv (q_move J) J<|AM.qv (q_nilCheck_ptr J) J<|AM.qv (n_field_ptr J J) J<|AM.qv (q_load_ptr J J .p0 J) J<|AM.qv (q_load_ptr_all J J .p3 J) J<|AM.buildSliceL (xs := ([p1x0] : List Rule_sample).map Rule_sample.av) J J J J J J<|AM.nil<|AT.runD (V := fun b=>.sl 2 b (preO b7 b r8).length l27.length) (Ti := [(b7,aE5 (r8 ++ l22))]) (Pi := fun b=>[(b,aE5 ((preO b7 b r8) ++ l27))]) (fun _=>J) (fun _=>J) (fun _ _=>J) J (fun _=>J) J J J ?_ ?_
              · exact t_appendO (g := Rule_sample.av) (Ps := r8) (Xs := l22) J J J J J J J J (.list _) e8 (fun _=>.p0) fun b28=>ARun.nil ⟨b28,_,J,J⟩
              refine AT.nilN (fun _=>J) fun β=>?_
              generalize β 7 = b28
              clear β
              refine ARun.qv (q_nilCheck_ptr J) J<|rF J J J<|n_store_ptr J J J J .p1 J J<|rN<|tR<|rM J J<|rF J J J<|rL J J .p4 J J<|bndE h fun v29 e9 h=>t_call6 J (rule_track_update_c e9) (CoL.refl _) (.cons .p1 (.cons .p1 (.cons .p1 (.cons .p0 .nil)))) (fun _ _ _ _ _ _=>J) J fun b30 r31 b32 r33 b34 r35=>rN<|ATodo.nil<|?_
              obtain rfl := Option.some.inj h
              exact ImpX.here ⟨_,.nil,_,.cons .p0 (.cons .p0 (.cons .p0 (.cons .p0 .nil))),⟨b30,r31,b32,r33,b34,r35,J,J⟩⟩

theorem rule_spansOf_c [GI : GTab] {p0x0 : Rule} {p1x0 : List Rule_sample} {r : (List Rule_span)} (h : rule_spansOf p0x0 p1x0 = some r) : ACall Tryz.prog 99 [.rptr [.str p0x0.Key,.str p0x0.Metric,I p0x0.Agg,I p0x0.Long,.bool p0x0.Above,I p0x0.On,I p0x0.Off,I p0x0.Hold,I p0x0.Rest,I p0x0.Empty],lE5 p1x0] [] (T1 (fun d_0=>[(d_0,aE6 r)]) (fun d_0=>.sl 2 d_0 0 r.length)) := by
  unfold rule_spansOf at h
  refine ACall.lessH ?_
  refine ACall.bodyN Tryz.func99 J Tryz.ntmps99 Tryz.results99 J J ?_
  refine tSR<|rA J J<|rN<|tSR<|n_alloc J J J J fun b1=>rN<|tSR<|rM J J<|ARun.qv (q_makeFunc J) J<|bndE h fun v2 e1 h=>t_call7 J (rule_newTrack_c e1) (CoL.refl _) .nil (fun _ _ _ _ _ _ _=>J) J fun b3 b4 r5 b6 r7 b8 r9=>rA J J<|rN<|tS<|tSR<|rM J J<|ARun.qv (t_len J) J<|rM J J<|rN<|ATodo.block<|ATodo.loopI (fun x : (List Rule_span) × (List Rule_sample) × (List Rule_sample) × (List Rule_sample) × Int × Int × Int × Bool × Int × Int=>rule_spansOf_b1 p0x0 p1x0 x.1 x.2.1 x.2.2.1 x.2.2.2.1 x.2.2.2.2.1 x.2.2.2.2.2.1 x.2.2.2.2.2.2.1 x.2.2.2.2.2.2.2.1 x.2.2.2.2.2.2.2.2.1 x.2.2.2.2.2.2.2.2.2) (fun x σ'=>∃ (b27 : Bk) (b29 : Bk) (r31 : List Rule_sample) (b32 : Bk) (r34 : List Rule_sample) (b35 : Bk) (r37 : List Rule_sample),σ' = ⟨29,[(5,.ptr b1 0),(6,.ptr b3 0),(12,lE5 p1x0),(13,I (p1x0.length : Int)),(14,I x.2.2.2.2.2.2.2.2.2)],[(b1,.cells [.sl 2 b27 0 x.1.length]),(b27,aE6 x.1),(b3,.cells [.rptr [.str p0x0.Key,.str p0x0.Metric,I p0x0.Agg,I p0x0.Long,.bool p0x0.Above,I p0x0.On,I p0x0.Off,I p0x0.Hold,I p0x0.Rest,I p0x0.Empty],.sl 2 b29 r31.length x.2.1.length,.sl 2 b32 r34.length x.2.2.1.length,.sl 2 b35 r37.length x.2.2.2.1.length,I x.2.2.2.2.1,I x.2.2.2.2.2.1,I x.2.2.2.2.2.2.1,.bool x.2.2.2.2.2.2.2.1,I x.2.2.2.2.2.2.2.2.1,.func (.func 170) [.ptr b1 0]]),(b29,aE5 (r31 ++ x.2.1)),(b32,aE5 (r34 ++ x.2.2.1)),(b35,aE5 (r37 ++ x.2.2.2.1))]⟩) h ?_ ?_
  · exact ImpX.arrBox (j := 0) 2 (fun _=>.p4) J (fun _=>J) (fun _=>J) fun b44=>ImpX.lq [5,0,0,0,0,0] ⟨b44,b4,r5,b6,r7,b8,r9,J⟩ J J
  · intro x z1 σ' J1 hmk h hJ1 hA1
    obtain ⟨l28, l30, l33, l36, n38, n39, n40, c41, n42, n43⟩ := x
    obtain ⟨b27, b29, r31, b32, r34, b35, r37, rfl⟩ := hmk
    replace h : rule_spansOf_b1 p0x0 p1x0 l28 l30 l33 l36 n38 n39 n40 c41 n42 n43 = some z1 := h
    unfold rule_spansOf_b1 at h
    refine tSR<|ARun.qv (q_lss J J) J<|rN<|tS<|ATodo.cond_d J (fun hc=>?_) (fun hc=>?_)
    · refine have h := iteT hc h; tK<|tS<|ATodo.block<|tSR<|bndE h fun v45 e2 h=>ARun.qv (t_index J J J e2 J J) J<|ARun.qv (q_load_rptr_agg J J J) J<|n_alloc J J J J fun b46=>n_store_ptr J J J J .p0 J J<|rN<|tSR<|rM J J<|rF J J J<|rL J J .p0 J J<|bndE h fun v47 e3 h=>t_call7 J (rule_track_advance_c0x9xrule_spansOf_1x_c e3) (CoL.refl _) (.cons .p3 (.cons .p3 (.cons .p3 (.cons .p3 (.cons .p1 (.cons .p1 .nil)))))) (fun _ _ _ _ _ _ _=>J) J fun b48 r49 b50 r51 b52 r53 b54=>rN<|tR<|rM J J<|ARun.qv (q_load_ptr_all J J .p6 J) J<|bndE h fun v55 e4 h=>t_call6 J (rule_track_put_c e4) (CoL.refl _) (.cons .p0 (.cons .p0 (.cons .p0 (.cons .p0 .nil)))) (fun _ _ _ _ _ _=>J) J fun b56 r57 b58 r59 b60 r61=>rN<|ATodo.blk<|tR<|ARun.qv (q_addw J J) J<|rM J J<|rN<|ATodo.stop<|?_
      obtain rfl := Option.some.inj h
      exact hJ1 _ _ J<|ImpX.lq [4,4,0,0,0,0] ⟨b54,b56,r57,b58,r59,b60,r61,J⟩ J J
    · refine have h := iteF hc h; ATodo.exit J<|have h := outL h hA1; ?_
      unfold rule_spansOf_k1 at h
      refine tSR<|rM J J<|bndE h fun v62 e5 h=>t_call7 J (rule_track_advance_c0x9xrule_spansOf_1x_c e5) (CoL.refl _) (.cons .p2 (.cons .p2 (.cons .p2 (.cons .p2 (.cons .p0 (.cons .p0 .nil)))))) (fun _ _ _ _ _ _ _=>J) J fun b63 r64 b65 r66 b67 r68 b69=>rN<|tSR<|rL J J .p4 J J<|rA J J<|rN<|ATodo.ret<|?_
      obtain rfl := Option.some.inj h
      exact ImpX.here ⟨_,.cons (.tmp _ _ J) .nil,_,.cons .p5 .nil,⟨b69,J,J⟩⟩

theorem rule_whole_c [GI : GTab] {p0x0 : Rule} {p1x0 : List Sample} {r : (List Spell)} (h : rule_whole p0x0 p1x0 = some r) : ACall Tryz.prog 87 [.rptr [.str p0x0.Key,.str p0x0.Metric,I p0x0.Agg,I p0x0.Long,.bool p0x0.Above,I p0x0.On,I p0x0.Off,I p0x0.Hold,I p0x0.Rest,I p0x0.Empty],lE4 p1x0] [] (T1 (fun d_0=>[(d_0,aE7 r)]) (fun d_0=>.sl 4 d_0 0 r.length)) := by
  unfold rule_whole at h
  refine ACall.lessH ?_
  refine ACall.bodyN Tryz.func87 J Tryz.ntmps87 Tryz.results87 J J ?_
  refine tSR<|rA J J<|rN<|tSR<|t_makeMapO (gk := AV.str) (kp := (keptS 2 Rule_sample.av)) (β := (fun _=>⟨none,0⟩)) J fun b1 b2=>rA J J<|rN<|tS<|tSR<|rM J J<|ARun.qv (t_len J) J<|rM J J<|rN<|ATodo.block<|ATodo.loopI (fun x : (List (Str × (List Rule_sample))) × Int=>rule_whole_b1 p0x0 p1x0 x.1 x.2) (fun x σ'=>∃ (be7 : Str → Bk),σ' = ⟨79,[(0,.rptr [.str p0x0.Key,.str p0x0.Metric,I p0x0.Agg,I p0x0.Long,.bool p0x0.Above,I p0x0.On,I p0x0.Off,I p0x0.Hold,I p0x0.Rest,I p0x0.Empty]),(1,lE4 p1x0),(5,.mref b1),(14,lE4 p1x0),(15,I (p1x0.length : Int)),(16,I x.2)],[(b1,.mp (mapE AV.str (keptS 2 Rule_sample.av) be7 x.1)),(b2,.pool (poolE (keptS 2 Rule_sample.av) be7 x.1))]⟩) h ?_ ?_
  · exact ImpX.lq [0,0] ⟨(fun _=>⟨none,0⟩),J⟩ J J
  · intro x z1 σ' J1 hmk h hJ1 hA1
    obtain ⟨l6, n8⟩ := x
    obtain ⟨be7, rfl⟩ := hmk
    replace h : rule_whole_b1 p0x0 p1x0 l6 n8 = some z1 := h
    unfold rule_whole_b1 at h
    refine tSR<|ARun.qv (q_lss J J) J<|rN<|tS<|ATodo.cond_d J (fun hc=>?_) (fun hc=>?_)
    · refine have h := iteT hc h; tK<|tS<|ATodo.block<|tSR<|bndE h fun v9 e1 h=>ARun.qv (t_index J J J e1 J J) J<|ARun.qv (q_load_rptr_agg J J J) J<|n_alloc J J J J fun b10=>n_store_ptr J J J J .p0 J J<|rN<|tS<|ATodo.regionM (id := 5) (A := [0,1,0,4,12,28,63]) 7 mixed J (by kernel_rfl) (by kernel_rfl)<|AM.qv (n_field_ptr J J) J<|AM.qv (q_load_ptr J J .p0 J) J<|AM.qv (q_move J) J<|AM.qv (q_nilCheck_rptr J) J<|AM.qv (n_field_rptr J J) J<|AM.qv (q_load_rptr J J J) J<|AM.qv (q_seq J J) J<|AM.nil<|rN<|ATodo.cut (fun σ'=>∃ (be12 : Str → Bk) (l11 : List (Str × (List Rule_sample))),rule_whole_j1 n8 l11 = some z1 ∧ σ' = ⟨79,[(0,.rptr [.str p0x0.Key,.str p0x0.Metric,I p0x0.Agg,I p0x0.Long,.bool p0x0.Above,I p0x0.On,I p0x0.Off,I p0x0.Hold,I p0x0.Rest,I p0x0.Empty]),(1,lE4 p1x0),(5,.mref b1),(14,lE4 p1x0),(15,I (p1x0.length : Int)),(16,I n8)],[(b1,.mp (mapE AV.str (keptS 2 Rule_sample.av) be12 l11)),(b2,.pool (poolE (keptS 2 Rule_sample.av) be12 l11))]⟩) ?_ ?_
      · refine ATodo.cond_d J (fun hc=>?_) (fun hc=>?_)
        · refine have h := iteT hc h; bndE h fun v13 e2 h=>bndE h fun l15 e3 h=>ATodo.regionT (id := 6) (A := [0,0,2,0,0,16,56,0,128,0,512,1920,3968,8184,16383]) (H0 := [(b1,.mp (mapE AV.str (keptS 2 Rule_sample.av) be7 l6)),(b2,.pool (poolE (keptS 2 Rule_sample.av) be7 l6))]) (HH := fun β=>[(b1,.mp (mapE AV.str (keptS 2 Rule_sample.av) be7 l6)),(b2,.pool (poolE (keptS 2 Rule_sample.av) be7 (mdel l6 v9.Device))),((β 13),aE5 l15),(b10,.cells (cE1 v9))]) 14 mixed J (by kernel_rfl) (by kernel_rfl) [⟨none,some 6,[],fun _=>(b1,.mp (mapE AV.str (keptS 2 Rule_sample.av) be7 l6)),none,[]⟩,⟨none,some 6,[],fun _=>(b2,.pool (poolE (keptS 2 Rule_sample.av) be7 l6)),none,[]⟩,⟨some 6,some 13,[],fun b=>(b,aE5 v13),none,[]⟩,⟨some 6,none,[],fun b=>(b1,.mp (mapE AV.str (keptS 2 Rule_sample.av) be7 l6)),none,[]⟩,⟨some 6,none,[],fun b=>(b2,.pool (poolE (keptS 2 Rule_sample.av) be7 (mdel l6 v9.Device))),none,[]⟩,⟨some 13,none,[],fun b=>(b,aE5 l15),none,[]⟩] [6,13] J (by kernel_rfl) J (.cons .p1 (.cons .p1 .nil)) (fun _=>J)<|AT.am 6 J J<|AM.qv (q_move J) J<|AM.qv (n_field_ptr J J) J<|AM.qv (q_load_ptr J J .p0 J) J<|AM.qv (q_move J) J<|AM.qv (n_field_ptr J J) J<|AM.qv (q_load_ptr J J .p0 J) J<|AM.nil<|AT.runD (V := fun b=>.sl 2 b 0 v13.length) (Ti := [(b1,.mp (mapE AV.str (keptS 2 Rule_sample.av) be7 l6)),(b2,.pool (poolE (keptS 2 Rule_sample.av) be7 l6))]) (Pi := fun b=>[(b,aE5 v13),(b1,.mp (mapE AV.str (keptS 2 Rule_sample.av) be7 l6)),(b2,.pool (poolE (keptS 2 Rule_sample.av) be7 (mdel l6 v9.Device)))]) (fun _=>J) (fun _=>J) (fun _ _=>J) J (fun _=>J) J J J ?_ ?_
          · exact t_lookupS (gk := AV.str) (sz := 2) (g := Rule_sample.av) (β := be7) (M := l6) (key := v9.Device) J J .p0 .p1 J e2 J fun b14 hbe2=>ARun.nil ⟨b14,_,J,J⟩
          refine AT.am 6 J J<|AM.qv (n_field_ptr J J) J<|AM.qv (q_load_ptr J J .p0 J) J<|AM.qv (n_field_ptr J J) J<|AM.qv (q_load_ptr J J .p0 J) J<|AM.qv (n_build J J J J J) J<|AM.buildSliceL (xs := ([(⟨v9.At,v9.Value⟩ : Rule_sample)]).map Rule_sample.av) J J J J J J<|AM.nil<|AT.runE (V := fun b=>.sl 2 b 0 l15.length) (Ti := fun β=>[((β 6),aE5 v13)]) (Pi := fun b=>[(b,aE5 l15)]) (fun _=>J) (fun _=>J) (fun _ _=>J) (fun _=>J) (fun _=>J) J J J (fun β=>?_) ?_
          · generalize β 6 = b14
            exact t_append (g := Rule_sample.av) J J J J J J J J (.list _) e3 (fun _=>.p0) J fun b16=>ARun.nil ⟨b16,_,J,J⟩
          refine AT.nilN (fun _=>J) fun β=>?_
          generalize β 6 = b14
          generalize β 13 = b16
          clear β
          exact t_mapUpdateO (gk := AV.str) (kp := (keptS 2 Rule_sample.av)) (β := be7) (M := l6) (key := v9.Device) (v := l15) (b := b16) J J J J .p0<|ARun.ghost<|ImpX.poolPut (kp := (keptS 2 Rule_sample.av)) (β := be7) (M := l6) (key := v9.Device) (v := l15) J .p2 .p1<|ImpX.here<|rN<|ATodo.stop<|ImpX.lq [0,0] ⟨(updK be7 v9.Device b16),mset l6 v9.Device l15,h,J⟩ J J
        · exact have h := iteF hc h; tK<|ATodo.stop<|ImpX.lq [1,1] ⟨be7,l6,h,J⟩ J J
      · rintro σ' ⟨be12, l11, h, rfl⟩
        unfold rule_whole_j1 at h
        refine ATodo.blk<|tR<|ARun.qv (q_addw J J) J<|rM J J<|rN<|ATodo.stop<|?_
        obtain rfl := Option.some.inj h
        exact hJ1 _ _ J<|ImpX.lq [0,0] ⟨be12,J⟩ J J
    · refine have h := iteF hc h; ATodo.exit J<|have h := outL h hA1; ?_
      unfold rule_whole_k2 at h
      refine tSR<|rA J J<|rN<|tS<|tSR<|rM J J<|rM J J<|ARun.qv (q_nilCheck_rptr J) J<|ARun.qv (n_field_rptr J J) J<|ARun.qv (q_load_rptr J J J) J<|bndE h fun v17 e4 h=>t_call1 J (rule_devices_c e4) (CoL.refl _) .nil (fun _=>J) J fun b18=>ARun.qv (t_len_sl J) J<|rM J J<|rN<|ATodo.block<|ATodo.loopI (fun x : (List Spell) × Int=>rule_whole_b2 p0x0 l6 v17 x.1 x.2) (fun x σ'=>∃ (b22 : Bk),σ' = ⟨79,[(0,.rptr [.str p0x0.Key,.str p0x0.Metric,I p0x0.Agg,I p0x0.Long,.bool p0x0.Above,I p0x0.On,I p0x0.Off,I p0x0.Hold,I p0x0.Rest,I p0x0.Empty]),(5,.mref b1),(8,.sl 4 b22 0 x.1.length),(47,.sl 1 b18 0 v17.length),(48,I (v17.length : Int)),(49,I x.2)],[(b1,.mp (mapE AV.str (keptS 2 Rule_sample.av) be7 l6)),(b2,.pool (poolE (keptS 2 Rule_sample.av) be7 l6)),(b22,aE7 x.1),(b18,aE1 v17)]⟩) h ?_ ?_
      · exact ImpX.arr (s := 8) 4 J fun b25=>ImpX.lq [2,2,0,0] ⟨b25,J⟩ J J
      · intro x z2 σ' J2 hmk h hJ2 hA2
        obtain ⟨l23, n24⟩ := x
        obtain ⟨b22, rfl⟩ := hmk
        replace h : rule_whole_b2 p0x0 l6 v17 l23 n24 = some z2 := h
        unfold rule_whole_b2 at h
        refine tSR<|ARun.qv (q_lss J J) J<|rN<|tS<|ATodo.cond_d J (fun hc=>?_) (fun hc=>?_)
        · refine have h := iteT hc h; tK<|tS<|ATodo.block<|tSR<|bndE h fun v26 e5 h=>ARun.qv (t_index_sl J J J e5) J<|ARun.qv (t_load_aptr (g := AV.str) J J (.inl .p3) e5 J) J<|rA J J<|rN<|tSR<|rM J J<|rM J J<|rM J J<|bndE h fun v27 e6 h=>t_lookupS (gk := AV.str) (sz := 2) (g := Rule_sample.av) (β := be7) (M := l6) (key := v26) J J .p0 .p1 J e6 J fun b28 hbe6=>bndE h fun v29 e7 h=>t_callL1 J (rule_spansOf_c e7) .nil (.cons (.co (.refl _)) (.cons (CoB.arrT .p0) .nil)) (fun _=>J) (fun _=>J) (fun _=>(.cons (NoS.arrT (fun _=>J)) .nil)) J fun b30=>ARun.qv (t_len_sl J) J<|rM J J<|ARun.ghost<|ImpX.backS (gk := AV.str) (sz := 2) (g := Rule_sample.av) (β := be7) (M := l6) (key := v26) (MKey.inj Tryz.prog 9) e6 hbe6 .p2 .p1 .p2<|ImpX.here<|rN<|ATodo.block<|ATodo.loopI (fun x : (List Spell) × Int=>rule_whole_b3 p0x0 n24 v26 v29 x.1 x.2) (fun x σ'=>∃ (b34 : Bk),σ' = ⟨79,[(0,.rptr [.str p0x0.Key,.str p0x0.Metric,I p0x0.Agg,I p0x0.Long,.bool p0x0.Above,I p0x0.On,I p0x0.Off,I p0x0.Hold,I p0x0.Rest,I p0x0.Empty]),(5,.mref b1),(8,.sl 4 b34 0 x.1.length),(10,.str v26),(47,.sl 1 b18 0 v17.length),(48,I (v17.length : Int)),(49,I n24),(57,.sl 2 b30 0 v29.length),(58,I (v29.length : Int)),(59,I x.2)],[(b1,.mp (mapE AV.str (keptS 2 Rule_sample.av) be7 l6)),(b2,.pool (poolE (keptS 2 Rule_sample.av) be7 l6)),(b34,aE7 x.1),(b18,aE1 v17),(b30,aE6 v29)]⟩) h ?_ ?_
          · exact ImpX.lq [1,1,1,1,0] ⟨b22,J⟩ J J
          · intro x z3 σ' J3 hmk h hJ3 hA3
            obtain ⟨l35, n36⟩ := x
            obtain ⟨b34, rfl⟩ := hmk
            replace h : rule_whole_b3 p0x0 n24 v26 v29 l35 n36 = some z3 := h
            unfold rule_whole_b3 at h
            refine tSR<|ARun.qv (q_lss J J) J<|rN<|tS<|ATodo.cond_d J (fun hc=>?_) (fun hc=>?_)
            · refine have h := iteT hc h; tK<|tS<|ATodo.block<|tSR<|bndE h fun v37 e8 h=>ARun.qv (t_index_sl J J J e8) J<|ARun.qv (t_load_aptr_agg (g := Rule_span.av) J J (.inl .p4) J e8 J) J<|n_alloc J J J J fun b38=>n_store_ptr J J J J .p0 J J<|rN<|ATodo.regionM (id := 15) (A := [0,0,0,4,12,28,0,64,0,256,1022,2046,4095,8191]) 12 mixed J (by kernel_rfl) (by kernel_rfl)<|AM.qv (q_move J) J<|AM.qv (q_move J) J<|AM.qv (q_move J) J<|AM.qv (q_nilCheck_rptr J) J<|AM.qv (n_field_rptr J J) J<|AM.qv (q_load_rptr J J J) J<|AM.qv (n_field_ptr J J) J<|AM.qv (q_load_ptr J J .p0 J) J<|AM.qv (n_field_ptr J J) J<|AM.qv (q_load_ptr J J .p0 J) J<|AM.qv (n_build J J J J J) J<|AM.buildSliceL (xs := ([(⟨v26,p0x0.Key,v37.from_,v37.to_⟩ : Spell)]).map Spell.av) J J J J J J<|AM.nil<|bndE h fun l39 e9 h=>t_append (g := Spell.av) J J J J J J J J (.list _) e9 (fun _=>.p3) J fun b40=>rA J J<|rN<|ATodo.blk<|tR<|ARun.qv (q_addw J J) J<|rM J J<|rN<|ATodo.stop<|?_
              obtain rfl := Option.some.inj h
              exact hJ3 _ _ J<|ImpX.lq [1,1,1,1,1] ⟨b40,J⟩ J J
            · refine have h := iteF hc h; ATodo.exit J<|have h := outL h hA3; ATodo.blk<|tR<|ARun.qv (q_addw J J) J<|rM J J<|rN<|ATodo.stop<|?_
              obtain rfl := Option.some.inj h
              exact hJ2 _ _ J<|ImpX.lq [0,0,0,0] ⟨b34,J⟩ J J
        · refine have h := iteF hc h; ATodo.exit J<|have h := outL h hA2; tSR<|rM J J<|rA J J<|rN<|ATodo.ret<|?_
          obtain rfl := Option.some.inj h
          exact ImpX.here ⟨_,.cons (.tmp _ _ J) .nil,_,.cons .p2 .nil,⟨b22,J,J⟩⟩

theorem rule_cut_c [GI : GTab] {p0x0 : List Spell} {p1x0 : Window} {r : (List Spell)} (h : rule_cut p0x0 p1x0 = some r) : ACall Tryz.prog 86 [lE7 p0x0,Window.av p1x0] [] (T1 (fun d_0=>[(d_0,aE7 r)]) (fun d_0=>.sl 4 d_0 0 r.length)) := by
  unfold rule_cut at h
  refine ACall.lessH ?_
  refine ACall.bodyN Tryz.func86 J Tryz.ntmps86 Tryz.results86 J J ?_
  refine tSR<|n_box J J J J fun b1=>rA J J<|rN<|tSR<|rA J J<|rN<|tS<|tSR<|rM J J<|ARun.qv (t_len J) J<|rM J J<|rN<|ATodo.block<|ATodo.loopI (fun x : (List Spell) × Int=>rule_cut_b1 p0x0 p1x0 x.1 x.2) (fun x σ'=>∃ (b5 : Bk),σ' = ⟨37,[(3,.ptr b1 0),(5,.sl 4 b5 0 x.1.length),(8,lE7 p0x0),(9,I (p0x0.length : Int)),(10,I x.2)],[(b1,.cells [I p1x0.From,I p1x0.To]),(b5,aE7 x.1)]⟩) h ?_ ?_
  · exact ImpX.arr (s := 5) 4 J fun b8=>ImpX.lq [1,0] ⟨b8,J⟩ J J
  · intro x z1 σ' J1 hmk h hJ1 hA1
    obtain ⟨l6, n7⟩ := x
    obtain ⟨b5, rfl⟩ := hmk
    replace h : rule_cut_b1 p0x0 p1x0 l6 n7 = some z1 := h
    unfold rule_cut_b1 at h
    refine tSR<|ARun.qv (q_lss J J) J<|rN<|tS<|ATodo.cond_d J (fun hc=>?_) (fun hc=>?_)
    · refine have h := iteT hc h; tK<|tS<|ATodo.block<|tSR<|bndE h fun v9 e1 h=>ARun.qv (t_index J J J e1 J J) J<|ARun.qv (q_load_rptr_agg J J J) J<|n_alloc J J J J fun b10=>n_store_ptr J J J J .p0 J J<|rN<|tS<|ATodo.regionT (id := 5) (A := [0,1,0,4,15,0,32,0,128,480,127,1151,4095,8191]) (H0 := [(b10,.cells [.str v9.Device,.str v9.Rule,I v9.From,I v9.To])]) (HH := fun β=>[(b10,.cells [.str v9.Device,.str v9.Rule,I (max v9.From p1x0.From),I v9.To]),(b1,.cells [I p1x0.From,I p1x0.To]),(b5,aE7 l6)]) 12 mixed J (by kernel_rfl) (by kernel_rfl) [⟨none,some 11,[1,6],fun _=>(b10,.cells [.str v9.Device,.str v9.Rule,I v9.From,I v9.To]),none,[]⟩,⟨some 11,none,[],fun _=>(b10,.cells [.str v9.Device,.str v9.Rule,I (max v9.From p1x0.From),I v9.To]),none,[]⟩] [] J (by kernel_rfl) J (.cons .p0 .nil) (fun _=>J)<|AT.am 1 J J<|AM.qv (n_field_ptr J J) J<|AM.nil<|AT.rd (Rs := [(b10,.cells [.str v9.Device,.str v9.Rule,I v9.From,I v9.To])]) (fun _=>J) J (fun _=>J) (fun _=>J) (q_load_ptr J J .p0 J) J<|AT.am 4 J J<|AM.qv (n_field_ptr J J) J<|AM.qv (q_load_ptr J J .p0 J) J<|AM.qv (q_max J J) J<|AM.qv (n_field_ptr J J) J<|AM.nil<|AT.rd (Rs := [(b10,.cells [.str v9.Device,.str v9.Rule,I v9.From,I v9.To])]) (fun _=>J) J (fun _=>J) (fun _=>J) (q_load_ptr J J .p0 J) J<|AT.am 4 J J<|AM.qv (n_field_ptr J J) J<|AM.qv (q_load_ptr J J .p0 J) J<|AM.qv (q_min J J) J<|AM.qv (n_field_ptr J J) J<|AM.nil<|AT.run0 (Ti := [(b10,.cells [.str v9.Device,.str v9.Rule,I v9.From,I v9.To])]) (Pi := [(b10,.cells [.str v9.Device,.str v9.Rule,I (max v9.From p1x0.From),I v9.To])]) (fun _=>J) (fun _=>J) (fun _=>J) J J ?_ ?_
      · exact n_store_ptr J J J J .p0 J J<|ARun.nil ⟨_,J⟩
      refine AT.nilN (fun _=>J) fun β=>rF J J J<|n_store_ptr J J J J .p0 J J<|rN<|tSR<|rF J J J<|rL J J .p0 J J<|rF J J J<|rL J J .p0 J J<|ARun.qv (q_lss J J) J<|rN<|ATodo.cut (fun σ'=>∃ (b11 : Bk) (l12 : List Spell),rule_cut_j1 n7 l12 = some z1 ∧ σ' = ⟨37,[(3,.ptr b1 0),(5,.sl 4 b11 0 l12.length),(8,lE7 p0x0),(9,I (p0x0.length : Int)),(10,I n7)],[(b1,.cells [I p1x0.From,I p1x0.To]),(b11,aE7 l12)]⟩) ?_ ?_
      · refine ATodo.cond_d J (fun hc=>?_) (fun hc=>?_)
        · exact have h := iteT hc h; tR<|rM J J<|ARun.qv (q_load_ptr_all J J .p0 J) J<|n_buildSliceL (xs := ([(⟨v9.Device,v9.Rule,max v9.From p1x0.From,min v9.To p1x0.To⟩ : Spell)]).map Spell.av) J J J J J J<|bndE h fun l13 e2 h=>t_append (g := Spell.av) J J J J J J J J (.list _) e2 (fun _=>.p2) J fun b14=>rA J J<|rN<|ATodo.stop<|ImpX.lq [1,1] ⟨b14,l13,h,J⟩ J J
        · exact have h := iteF hc h; tK<|ATodo.stop<|ImpX.lq [1,1] ⟨b5,l6,h,J⟩ J J
      · rintro σ' ⟨b11, l12, h, rfl⟩
        unfold rule_cut_j1 at h
        refine ATodo.blk<|tR<|ARun.qv (q_addw J J) J<|rM J J<|rN<|ATodo.stop<|?_
        obtain rfl := Option.some.inj h
        exact hJ1 _ _ J<|ImpX.lq [0,0] ⟨b11,J⟩ J J
    · refine have h := iteF hc h; ATodo.exit J<|have h := outL h hA1; tSR<|rM J J<|rA J J<|rN<|ATodo.ret<|?_
      obtain rfl := Option.some.inj h
      exact ImpX.here ⟨_,.cons (.tmp _ _ J) .nil,_,.cons .p1 .nil,⟨b5,J,J⟩⟩

theorem rule_byFrom_c [GI : GTab] {p0x0 : Spell} {p1x0 : Spell} {r : Int} (h : rule_byFrom p0x0 p1x0 = some r) : Pu Tryz.prog 107 [Spell.av p0x0,Spell.av p1x0] (I r) := by
  unfold rule_byFrom at h
  refine ACall.bodyN Tryz.func107 J Tryz.ntmps107 Tryz.results107 J J ?_
  refine tSR<|n_box J J J J fun b1=>n_box J J J J fun b2=>rA J J<|rN<|tS<|ATodo.regionM (id := 1) (A := [0,1,0,4,15,0,32,0,128,511,0,1024,0,4096,16383,32767,65535,131071]) 18 mixed J (by kernel_rfl) (by kernel_rfl)<|AM.qv (n_field_ptr J J) J<|AM.qv (q_load_ptr J J .p1 J) J<|AM.qv (n_field_ptr J J) J<|AM.qv (q_load_ptr J J .p0 J) J<|AM.callp J (cmp_Compare_int_c J) (CoL.refl _) J<|AM.qv (n_field_ptr J J) J<|AM.qv (q_load_ptr J J .p1 J) J<|AM.qv (n_field_ptr J J) J<|AM.qv (q_load_ptr J J .p0 J) J<|AM.callp J (strings_Compare_c J) (CoL.refl _) J<|AM.qv (n_field_ptr J J) J<|AM.qv (q_load_ptr J J .p1 J) J<|AM.qv (n_field_ptr J J) J<|AM.qv (q_load_ptr J J .p0 J) J<|AM.callp J (strings_Compare_c J) (CoL.refl _) J<|AM.buildSliceL (xs := ([(cmp_Compare_int p0x0.From p1x0.From),(Lib.compareBytes p0x0.Device p1x0.Device),(Lib.compareBytes p0x0.Rule p1x0.Rule)] : List Int).map I) J J J J J J<|bndE h fun v3 e1 h=>AM.callp J (cmp_Or_int_c e1) (CoL.refl _) J<|AM.qv (q_assign J) J<|AM.nil<|rN<|ATodo.ret<|?_
  obtain rfl := Option.some.inj h
  exact ImpX.here ⟨_,.cons (.tmp _ _ J) .nil,J⟩

theorem slices_SortFunc_Spell_Spell_k : SortK Tryz.prog 106 4 := ⟨fun enc hk h1 cf hO g cb blk off cap d w eg hc hH hb hs=>AnyQ.slices_SortFunc_eq Tryz.sortF106 4 Tryz.isAgg60 Tryz.sizeOf60 enc hk h1 cf hO g cb blk off cap d w eg hc hH hb hs,fun p cap fv w=>AnyF.slices_SortFunc_none Tryz.sortF106 p cap fv w⟩
theorem slices_SortFunc_Spell_Spell_c [GI : GTab] {b_0 : Bk} {p0x0 : List Spell} {fnb : Spell → Spell → Option Int} {fnb_F : FuncId} [IsFn Tryz.prog fnb_F] {fnb_C : List AV} (fnb_h : ∀ {y0 y1 : _} {u : Int},fnb y0 y1 = some u → @Pu strongT Tryz.prog fnb_F (Spell.av y0 :: Spell.av y1 :: fnb_C) (I u)) {r : (List Spell)} (h : slices_SortFunc_Spell_Spell p0x0 fnb = some r) : ACall Tryz.prog 106 [.sl 4 b_0 0 p0x0.length,.func (.func fnb_F) fnb_C] [(b_0,.arr 4 (p0x0.map Spell.av))] (T0 [(b_0,.arr 4 (r.map Spell.av))] (.tup [])) :=
  sort_acall (fn := fnb) slices_SortFunc_Spell_Spell_k J @fnb_h (fun _=>J) h

theorem rule_Spells_c [GI : GTab] {p0x0 : List Rule} {p1x0 : List Sample} {p2x0 : Window} {r : (List Spell) × Int} (h : rule_Spells p0x0 p1x0 p2x0 = some r) : ACall Tryz.prog 113 [lE2 p0x0,lE4 p1x0,Window.av p2x0] [] (T1 (fun d_0=>[(d_0,aE7 r.1)]) (fun d_0=>.tup [.sl 4 d_0 0 r.1.length,I r.2])) := by
  unfold rule_Spells at h
  refine ACall.lessH ?_
  refine ACall.bodyN Tryz.func113 J Tryz.ntmps113 Tryz.results113 J J ?_
  refine tSR<|n_box J J J J fun b1=>rA J J<|rA J J<|rN<|tS<|tSR<|rM J J<|rM J J<|ARun.qv (q_load_ptr_all J J .p0 J) J<|bndE h fun v2 e1 h=>r_callp J (rule_fault_c e1) (CoL.refl _) J<|rA J J<|rN<|tSR<|rM J J<|ARun.qv (q_neq J J) J<|rN<|ATodo.cond_d J (fun hc=>?_) (fun hc=>?_)
  · refine have h := iteT hc h; tSR<|rM J J<|rA J J<|rA J J<|rN<|ATodo.ret<|?_
    obtain rfl := Option.some.inj h
    exact ImpX.arr (s := 6) 4 J fun b3=>ImpX.here ⟨_,.cons (.tmp _ _ J) (.cons (.tmp _ _ J) .nil),_,.cons .p0 .nil,⟨b3,J,J⟩⟩
  · refine have h := iteF hc h; tK<|tSR<|rA J J<|rN<|tS<|tSR<|rM J J<|ARun.qv (t_len J) J<|rM J J<|rN<|ATodo.block<|ATodo.loopI (fun x : (List Spell) × Int=>rule_Spells_b1 p0x0 p1x0 p2x0 x.1 x.2) (fun x σ'=>∃ (b7 : Bk),σ' = ⟨36,[(0,lE2 p0x0),(1,lE4 p1x0),(5,.ptr b1 0),(9,.sl 4 b7 0 x.1.length),(19,I (p0x0.length : Int)),(20,I x.2)],[(b1,.cells [I p2x0.From,I p2x0.To]),(b7,aE7 x.1)]⟩) h ?_ ?_
    · exact ImpX.arr (s := 9) 4 J fun b10=>ImpX.lq [1,0] ⟨b10,J⟩ J J
    · intro x z1 σ' J1 hmk h hJ1 hA1
      obtain ⟨l8, n9⟩ := x
      obtain ⟨b7, rfl⟩ := hmk
      replace h : rule_Spells_b1 p0x0 p1x0 p2x0 l8 n9 = some z1 := h
      unfold rule_Spells_b1 at h
      refine tSR<|ARun.qv (q_lss J J) J<|rN<|tS<|ATodo.cond_d J (fun hc=>?_) (fun hc=>?_)
      · refine have h := iteT hc h; tK<|tS<|ATodo.block<|tSR<|rM J J<|rA J J<|rN<|bndE h fun v11 e2 h=>bndE h fun v12 e3 h=>bndE h fun v14 e4 h=>ATodo.regionT (id := 8) (A := [0,0,0,6,0,30,0,126,255,511]) (H0 := []) (HH := fun β=>[((β 7),aE7 v14),(b1,.cells [I p2x0.From,I p2x0.To]),(b7,aE7 l8)]) 8 mixed J (by kernel_rfl) (by kernel_rfl) [⟨some 5,some 7,[],fun b=>(b,aE7 v12),none,[]⟩,⟨some 7,none,[],fun b=>(b,aE7 v14),none,[]⟩] [5,7] J (by kernel_rfl) J .nil (fun _=>J)<|AT.am 5 J J<|AM.qv (q_move J) J<|AM.qv (q_move J) J<|AM.qv (q_move J) J<|AM.qv (t_index J J J e2 J J) J<|AM.qv (q_move J) J<|AM.nil<|AT.runD (V := fun b=>.sl 4 b 0 v12.length) (Ti := []) (Pi := fun b=>[(b,aE7 v12)]) (fun _=>J) (fun _=>J) (fun _ _=>J) J (fun _=>J) J J J ?_ ?_
        · exact t_call1 J (rule_whole_c e3) (CoL.refl _) .nil (fun _=>J) J fun b13=>ARun.nil ⟨b13,_,J,J⟩
        refine AT.am 1 J J<|AM.qv (q_load_ptr_all J J .p0 J) J<|AM.nil<|AT.runE (V := fun b=>.sl 4 b 0 v14.length) (Ti := fun β=>[((β 5),aE7 v12)]) (Pi := fun b=>[(b,aE7 v14)]) (fun _=>J) (fun _=>J) (fun _ _=>J) (fun _=>J) (fun _=>J) J J J (fun β=>?_) ?_
        · generalize β 5 = b13
          exact t_callL1 J (rule_cut_c e4) .nil (.cons (CoB.arrT .p0) (.cons (.co (.refl _)) .nil)) (fun _=>J) (fun _=>J) (fun _=>(.cons (NoS.arrT (fun _=>J)) .nil)) J fun b15=>ARun.ghost<|ImpX.drop .p1<|ImpX.here<|ARun.nil ⟨b15,_,J,J⟩
        refine AT.nilN (fun _=>J) fun β=>?_
        generalize β 5 = b13
        generalize β 7 = b15
        clear β
        refine bndE h fun l16 e5 h=>t_append (g := Spell.av) J J J J J J J J (bound_src (.inl .p0) J) e5 (fun _=>.p2) J fun b17=>rA J J<|rN<|ATodo.blk<|tR<|ARun.qv (q_addw J J) J<|rM J J<|rN<|ATodo.stop<|?_
        obtain rfl := Option.some.inj h
        exact hJ1 _ _ J<|ImpX.lq [1,1] ⟨b17,J⟩ J J
      · refine have h := iteF hc h; ATodo.exit J<|have h := outL h hA1; ?_
        unfold rule_Spells_k1 at h
        refine tSR<|rM J J<|bndE h fun v18 e6 h=>t_call0 J (slices_SortFunc_Spell_Spell_c (fun e=>rule_byFrom_c (GI := strongT) e) (lenOk_f e6)) (CoL.refl _) (.cons .p1 .nil) J J<|ARun.ghost<|ImpX.eqs (s := 9) (av' := .sl 4 b7 0 v18.length) J (congrArg (AV.sl 4 b7 0) (lenOk_l e6))<|ImpX.here<|ARun.ghost<|ImpX.eqs (s := 33) (av' := .sl 4 b7 0 v18.length) J (congrArg (AV.sl 4 b7 0) (lenOk_l e6))<|ImpX.here<|rN<|tSR<|rM J J<|rA J J<|rA J J<|rN<|ATodo.ret<|?_
        obtain rfl := Option.some.inj h
        exact ImpX.here ⟨_,.cons (.tmp _ _ J) (.cons (.tmp _ _ J) .nil),_,.cons .p0 .nil,⟨b7,J,J⟩⟩

theorem slices_Equal_Spell_Spell_c [GI : GTab] {p0x0 : List Spell} {p1x0 : List Spell} {r : Bool} (h : slices_Equal_Spell_Spell p0x0 p1x0 = some r) : Pu Tryz.prog 28 [lE7 p0x0,lE7 p1x0] (.bool r) := by
  unfold slices_Equal_Spell_Spell at h
  refine ACall.bodyN Tryz.func28 J Tryz.ntmps28 Tryz.results28 J J ?_
  refine tSR<|rA J J<|rN<|tS<|tSR<|rM J J<|ARun.qv (t_len J) J<|rM J J<|ARun.qv (t_len J) J<|ARun.qv (q_neq J J) J<|rN<|ATodo.cond_d J (fun hc=>?_) (fun hc=>?_)
  · refine have h := iteT hc h; tSR<|rA J J<|rN<|ATodo.ret<|?_
    obtain rfl := Option.some.inj h
    exact ImpX.here ⟨_,.cons (.tmp _ _ J) .nil,J⟩
  · refine have h := iteF hc h; tK<|tS<|tSR<|rM J J<|ARun.qv (t_len J) J<|rM J J<|rN<|ATodo.block<|ATodo.loopI (fun x : Int=>slices_Equal_Spell_Spell_b1 p0x0 p1x0 x) (fun x σ'=>σ' = ⟨26,[(0,lE7 p0x0),(1,lE7 p1x0),(12,I (p0x0.length : Int)),(13,I x)],[]⟩) h ?_ ?_
    · exact ImpX.lq [] J J J
    · intro n2 z1 σ' J1 hmk h hJ1 hA1
      obtain rfl := hmk
      replace h : slices_Equal_Spell_Spell_b1 p0x0 p1x0 n2 = some z1 := h
      unfold slices_Equal_Spell_Spell_b1 at h
      refine tSR<|ARun.qv (q_lss J J) J<|rN<|tS<|ATodo.cond_d J (fun hc=>?_) (fun hc=>?_)
      · refine have h := iteT hc h; tK<|tS<|ATodo.block<|tSR<|rM J J<|rA J J<|rN<|tS<|ATodo.regionM (id := 6) (A := [0,0,3,7,0,0,48,112,255]) 9 mixed J (by kernel_rfl) (by kernel_rfl)<|AM.qv (q_move J) J<|AM.qv (q_move J) J<|bndE h fun v3 e1 h=>AM.qv (t_index J J J e1 J J) J<|AM.qv (q_load_rptr_agg J J J) J<|AM.qv (q_move J) J<|AM.qv (q_move J) J<|bndE h fun v4 e2 h=>AM.qv (t_index J J J e2 J J) J<|AM.qv (q_load_rptr_agg J J J) J<|AM.qv (t_tne (g := Spell.av) (X := v3) (Y := v4) J J J J J) J<|AM.nil<|rN<|ATodo.cond_d J (fun hc=>?_) (fun hc=>?_)
        · refine have h := iteT hc h; tSR<|rA J J<|rN<|ATodo.ret<|have h := outL h hA1; ?_
          obtain rfl := Option.some.inj h
          exact ImpX.here ⟨_,.cons (.tmp _ _ J) .nil,J⟩
        · refine have h := iteF hc h; tK<|ATodo.blk<|tR<|ARun.qv (q_addw J J) J<|rM J J<|rN<|ATodo.stop<|?_
          obtain rfl := Option.some.inj h
          exact hJ1 _ _ J<|ImpX.lq [] J J J
      · refine have h := iteF hc h; ATodo.exit J<|have h := outL h hA1; tSR<|rA J J<|rN<|ATodo.ret<|?_
        obtain rfl := Option.some.inj h
        exact ImpX.here ⟨_,.cons (.tmp _ _ J) .nil,J⟩

theorem L_ruled_c [GI : GTab] {r : Bool} (h : L_ruled = some r) : Pu Tryz.prog 40 [] (.bool r) := by
  unfold L_ruled at h
  refine ACall.bodyN Tryz.func40 J Tryz.ntmps40 Tryz.results40 J J ?_
  refine tSR<|rA J J<|rN<|tSR<|ARun.qv (n_build J J J J J) J<|n_alloc J J J J fun b1=>n_store_ptr J J J J .p0 J J<|rN<|tSR<|ARun.qv (q_load_ptr_all J J .p0 J) J<|n_buildSliceL (xs := ([(⟨([114] : Str),([116] : Str),(1 : Int),(10 : Int),true,(1 : Int),(1 : Int),(0 : Int),(0 : Int),(0 : Int)⟩ : Rule)]).map Rule.av) J J J J J J<|ARun.qv (n_build J J J J J) J<|n_buildSliceL (xs := ([(⟨([100] : Str),([116] : Str),(0 : Int),(1 : Int)⟩ : Sample)]).map Sample.av) J J J J J J<|ARun.qv (n_build J J J J J) J<|bndE h fun v2 e1 h=>t_call1 J (rule_Spells_c e1) (CoL.refl _) .nil (fun _=>J) J fun b3=>rM J J<|rX J J J<|rX J J J<|rA J J<|rA J J<|rN<|tS<|ATodo.cut (fun σ'=>∃ (c4 : Bool),L_ruled_j1 c4 = some r ∧ σ' = ⟨22,[(0,.bool c4)],[]⟩) ?_ ?_
  · refine tR<|rM J J<|ARun.qv (q_eql J J) J<|rM J J<|ARun.guard_dt J J J (fun hc=>?_) (fun hc=>?_)
    · exact have h := iteT hc h; rM J J<|rY J J J<|ARun.qv (n_build J J J J J) J<|rY J J J<|n_buildSliceL (xs := ([(⟨([100] : Str),([114] : Str),(0 : Int),(5 : Int)⟩ : Spell)]).map Spell.av) J J J J J J<|rY J J J<|bndE h fun v5 e2 h=>r_callpB J (slices_Equal_Spell_Spell_c e2) (.cons (CoB.arrT .p0) (.cons (.co (.refl _)) .nil)) J J<|rT J J J<|rA J J<|rN<|ATodo.stop<|ImpX.lq [] ⟨v5,h,J⟩ J J
    · exact have h := iteF hc h; rG J J J J<|rG J J J J<|rG J J J J<|rE J J J<|rA J J<|rN<|ATodo.stop<|ImpX.lq [] ⟨false,h,J⟩ J J
  · rintro σ' ⟨c4, h, rfl⟩
    unfold L_ruled_j1 at h
    refine ATodo.ret<|?_
    obtain rfl := Option.some.inj h
    exact ImpX.here ⟨_,.cons (.tmp _ _ J) .nil,J⟩

theorem L_RuleTexts_c {p0x0 : List Int} {r : Bool} (h : L_RuleTexts p0x0 = some r) : Pu Tryz.prog 5 [lE0 p0x0] (.bool r) := by
  unfold L_RuleTexts at h
  refine ACall.bodyN Tryz.func5 J Tryz.ntmps5 Tryz.results5 J J ?_
  refine tSR<|rA J J<|rN<|tSR<|rM J J<|ARun.qv (n_build J J J J J) J<|n_box J J J J fun b1=>rA J J<|rN<|tSR<|rM J J<|bndE h fun v2 e1 h=>t_call1 J (Stream_Rules_c e1) (CoL.refl _) (.cons .p0 .nil) (fun _=>J) J fun b3=>rA J J<|rN<|tSR<|rM J J<|bndE h fun v4 e2 h=>r_callpB J (rule_Text_c e2) (.cons (CoB.arrT .p1) .nil) J J<|rM J J<|rX J J J<|rX J J J<|rA J J<|rA J J<|rN<|tS<|tSR<|rM J J<|bndE h fun v5 e3 h=>r_callpB J (Q_RulesFault_c e3) (.cons (CoB.arrT .p1) .nil) J J<|rA J J<|rN<|tS<|ATodo.cut (fun σ'=>∃ (c6 : Bool),L_RuleTexts_j1 v2 c6 = some r ∧ σ' = ⟨78,[(3,.ptr b1 0),(47,.bool c6)],[(b1,.cells [lE0 v2.2.L,I v2.2.at_])]⟩) ?_ ?_
  · refine tR<|rM J J<|rM J J<|ARun.qv (q_neq J J) J<|rM J J<|ARun.guard_df J J J (fun hc=>?_) (fun hc=>?_)
    · refine have h := iteF hc h; rM J J<|rY J J J<|ARun.qv (q_eql J J) J<|rY J J J<|rM J J<|ARun.guard_dt J J J (fun hc=>?_) (fun hc=>?_)
      · refine have h := iteT hc h; rM J J<|rY J J J<|rM J J<|rY J J J<|bndE h fun v7 e4 h=>r_callpB J (Q_RuleLines_c e4) (.cons (CoB.arrT .p1) .nil) J J<|rY J J J<|ARun.qv (q_sne J J) J<|rY J J J<|rT J J J<|rE J J J<|rM J J<|ARun.guard_df J J J (fun hc=>?_) (fun hc=>?_)
        · rw [orFd hc] at h
          refine rM J J<|rY J J J<|ARun.qv (q_neq J J) J<|rY J J J<|rM J J<|ARun.guard_dt J J J (fun hc=>?_) (fun hc=>?_)
          · rw [andTd hc] at h
            exact rM J J<|rY J J J<|ARun.qv (q_sne J J) J<|rY J J J<|rT J J J<|rE J J J<|rN<|ATodo.stop<|ImpX.lq [0] ⟨decide (v4.1 ≠ ([] : Str)),h,J⟩ J J
          · rw [andFd hc] at h
            exact rG J J J J<|rY J J J<|rE J J J<|rE J J J<|rN<|ATodo.stop<|ImpX.lq [0] ⟨false,h,J⟩ J J
        · rw [orTd hc] at h
          exact rG J J J J<|rG J J J J<|ARun.guard_und J J J<|ARun.guard_und J J J<|rG J J J J<|rT J J J<|rN<|ATodo.stop<|ImpX.lq [0] ⟨true,h,J⟩ J J
      · refine have h := iteF hc h; rG J J J J<|rG J J J J<|rG J J J J<|rY J J J<|rE J J J<|rE J J J<|rM J J<|rY J J J<|rM J J<|rY J J J<|ARun.qv (q_neq J J) J<|rY J J J<|rM J J<|ARun.guard_dt J J J (fun hc=>?_) (fun hc=>?_)
        · rw [andTd hc] at h
          exact rM J J<|rY J J J<|ARun.qv (q_sne J J) J<|rY J J J<|rT J J J<|rE J J J<|rN<|ATodo.stop<|ImpX.lq [0] ⟨decide (v4.1 ≠ ([] : Str)),h,J⟩ J J
        · rw [andFd hc] at h
          exact rG J J J J<|rY J J J<|rE J J J<|rE J J J<|rN<|ATodo.stop<|ImpX.lq [0] ⟨false,h,J⟩ J J
    · exact have h := iteT hc h; rG J J J J<|rG J J J J<|ARun.guard_und J J J<|ARun.guard_und J J J<|ARun.guard_und J J J<|ARun.guard_und J J J<|rG J J J J<|rT J J J<|rM J J<|rG J J J J<|rG J J J J<|rG J J J J<|ARun.guard_und J J J<|ARun.guard_und J J J<|rG J J J J<|rT J J J<|rN<|ATodo.stop<|ImpX.lq [0] ⟨true,h,J⟩ J J
  · rintro σ' ⟨c6, h, rfl⟩
    unfold L_RuleTexts_j1 at h
    refine ATodo.cond J (fun hc=>?_) (fun hc=>?_)
    · refine have h := iteT hc h; tSR<|rA J J<|rN<|ATodo.ret<|?_
      obtain rfl := Option.some.inj h
      exact ImpX.here ⟨_,.cons (.tmp _ _ J) .nil,J⟩
    · refine have h := iteFb hc h; tK<|tSR<|rM J J<|bndE h fun v8 e5 h=>t_call0 J (Stream_RuleString_c e5) (CoL.refl _) (.cons .p0 .nil) J J<|rA J J<|rN<|tSR<|rM J J<|bndE h fun v9 e6 h=>t_call1 J (rule_Read_c e6) (CoL.refl _) .nil (fun _=>J) J fun b10=>rM J J<|rX J J J<|rX J J J<|rX J J J<|rA J J<|rA J J<|rA J J<|rN<|tSR<|rM J J<|bndE h fun v11 e7 h=>t_call1 J (Q_RulesRead_c e7) (CoL.refl _) .nil (fun _=>J) J fun b12=>rM J J<|rX J J J<|rX J J J<|rX J J J<|rA J J<|rA J J<|rA J J<|rN<|tS<|ATodo.cut (fun σ'=>∃ (c13 : Bool),L_RuleTexts_j2 c13 = some r ∧ σ' = ⟨78,[(2,.bool c13)],[]⟩) ?_ ?_
      · refine tR<|rM J J<|rM J J<|ARun.qv (q_eql J J) J<|rM J J<|ARun.guard_dt J J J (fun hc=>?_) (fun hc=>?_)
        · refine have h := iteT hc h; rM J J<|rY J J J<|rM J J<|rY J J J<|ARun.qv (q_eql J J) J<|rT J J J<|rM J J<|ARun.guard_dt J J J (fun hc=>?_) (fun hc=>?_)
          · refine have h := iteT hc h; rM J J<|rY J J J<|rM J J<|rY J J J<|bndE h fun v14 e8 h=>r_callpB J (slices_Equal_Rule_Rule_c e8) (.cons (CoB.arrT .p1) (.cons (CoB.arrT .p0) .nil)) J J<|rT J J J<|rM J J<|ARun.guard J J J (fun hc=>?_) (fun hc=>?_)
            · exact have h := iteT hc h; bndE h fun v15 e9 h=>r_callp J (L_ruled_c e9) (CoL.refl _) J<|rT J J J<|rA J J<|rN<|ATodo.stop<|ImpX.lq [] ⟨v15,h,J⟩ J J
            · exact have h := iteFb hc h; rE J J J<|rA J J<|rN<|ATodo.stop<|ImpX.lq [] ⟨false,h,J⟩ J J
          · exact have h := iteF hc h; rG J J J J<|rG J J J J<|rE J J J<|rM J J<|rG J J J J<|rE J J J<|rA J J<|rN<|ATodo.stop<|ImpX.lq [] ⟨false,h,J⟩ J J
        · exact have h := iteF hc h; rG J J J J<|rG J J J J<|rE J J J<|rM J J<|rG J J J J<|rG J J J J<|rG J J J J<|rE J J J<|rM J J<|rG J J J J<|rE J J J<|rA J J<|rN<|ATodo.stop<|ImpX.lq [] ⟨false,h,J⟩ J J
      · rintro σ' ⟨c13, h, rfl⟩
        unfold L_RuleTexts_j2 at h
        refine ATodo.ret<|?_
        obtain rfl := Option.some.inj h
        exact ImpX.here ⟨_,.cons (.tmp _ _ J) .nil,J⟩

end Go.Proofs.YtkggljololbmiaaGreatDoor

