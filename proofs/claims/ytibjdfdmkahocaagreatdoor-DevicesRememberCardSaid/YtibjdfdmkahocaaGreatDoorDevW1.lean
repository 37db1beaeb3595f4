/- The code computes the plain functions: proofs written by shal.py. -/
import Derived.Test.YtibjdfdmkahocaaGreatDoorDevP
import Derived.Test.YtibjdfdmkahocaaGreatDoorLib
set_option maxRecDepth 100000
set_option linter.unusedVariables false
set_option linter.unusedSimpArgs false
namespace Go.Proofs.YtibjdfdmkahocaaGreatDoor
open Go Go.Eng Go.Proofs Go.Beacon
attribute [local irreducible] ARun ATodo AQ QV ACall ImpX AWp AM
set_option maxHeartbeats 4000000 in
theorem Below_c [GI : GTab] {p0x0 : Int} {p1x0 : Int} {r : Int} (h : Below p0x0 p1x0 = some r) : Pu Tryz.prog 68 [I p0x0, I p1x0] (I r) := by
  unfold Below at h
  refine ACall.bodyN Tryz.func68 rfl Tryz.ntmps68 Tryz.results68 rfl rfl ?_
  refine tSR <| rA rfl rfl <| rN <| tS <| tSR <| rM rfl rfl <| ARun.qv (q_lss rfl rfl) rfl <| rN <| ATodo.cond_d rfl (fun hc => ?_) (fun hc => ?_)
  · refine have h := iteT hc h; tSR <| rA rfl rfl <| rN <| ATodo.ret <| ?_
    obtain rfl := Option.some.inj h
    exact ImpX.here ⟨_, .cons (.tmp _ _ rfl) .nil, rfl⟩
  · refine have h := iteF hc h; tK <| tSR <| rM rfl rfl <| rM rfl rfl <| bndE h fun n1 e1 h => ARun.qv (t_remS rfl rfl e1) rfl <| rA rfl rfl <| rN <| tS <| tSR <| rM rfl rfl <| ARun.qv (q_lss rfl rfl) rfl <| rN <| ATodo.cut (fun σ' => ∃ (n2 : Int), Below_j1 n2 = some r ∧ σ' = ⟨16, [(0, I n2)], []⟩) ?_ ?_
    · refine ATodo.cond_d rfl (fun hc => ?_) (fun hc => ?_)
      · exact have h := iteT hc h; tR <| rM rfl rfl <| rM rfl rfl <| ARun.qv (q_addw rfl rfl) rfl <| rA rfl rfl <| rN <| ATodo.stop <| ImpX.lq [] ⟨w64 (n1 + p1x0), h, rfl⟩ rfl rfl
      · exact have h := iteF hc h; tK <| ATodo.stop <| ImpX.lq [] ⟨n1, h, rfl⟩ rfl rfl
    · rintro σ' ⟨n2, h, rfl⟩
      unfold Below_j1 at h
      refine tSR <| rM rfl rfl <| rA rfl rfl <| rN <| ATodo.ret <| ?_
      obtain rfl := Option.some.inj h
      exact ImpX.here ⟨_, .cons (.tmp _ _ rfl) .nil, rfl⟩

set_option maxHeartbeats 4000000 in
theorem Stream_Next_c [GI : GTab] {b_0 : Bk} {p0x0 : Fleetmake_Stream} {p1x0 : Int} {r : Int × Fleetmake_Stream} (h : Stream_Next p0x0 p1x0 = some r) : ACall Tryz.prog 25 [.ptr b_0 0, I p1x0] [(b_0, .cells [.list 1 (p0x0.L.map I), I p0x0.at_])] (T0 ([(b_0, .cells [.list 1 (r.2.L.map I), I r.2.at_])]) (I r.1)) := by
  unfold Stream_Next at h
  refine ACall.lessH ?_
  refine ACall.bodyN Tryz.func25 rfl Tryz.ntmps25 Tryz.results25 rfl rfl ?_
  refine tSR <| rA rfl rfl <| rN <| tSR <| rM rfl rfl <| ARun.qv (q_nilCheck_ptr rfl) rfl <| rF rfl rfl rfl <| rL rfl rfl .p0 rfl rfl <| ARun.qv (q_addw rfl rfl) rfl <| ARun.qv (q_nilCheck_ptr rfl) rfl <| rF rfl rfl rfl <| n_store_ptr rfl rfl rfl rfl .p0 rfl rfl <| rN <| tS <| tSR <| rM rfl rfl <| ARun.qv (q_nilCheck_ptr rfl) rfl <| rF rfl rfl rfl <| rL rfl rfl .p0 rfl rfl <| ARun.qv (t_len rfl) rfl <| ARun.qv (q_eql rfl rfl) rfl <| rN <| ATodo.cond_d rfl (fun hc => ?_) (fun hc => ?_)
  · refine have h := iteT hc h; tSR <| rM rfl rfl <| ARun.qv (q_nilCheck_ptr rfl) rfl <| rF rfl rfl rfl <| rL rfl rfl .p0 rfl rfl <| ARun.qv (q_mulw rfl rfl) rfl <| rM rfl rfl <| bndE h fun v1 e1 h => r_callp rfl (Below_c e1) (CoL.refl _) rfl <| rA rfl rfl <| rN <| ATodo.ret <| ?_
    obtain rfl := Option.some.inj h
    exact ImpX.here ⟨_, .cons (.tmp _ _ rfl) .nil, _, .cons .p0 .nil, ⟨rfl, rfl⟩⟩
  · refine have h := iteF hc h; tK <| tS <| ATodo.regionM (id := 4) (A := [0, 1, 3, 7, 15, 0, 32, 96, 224, 480, 1023, 2047]) 12 mixed rfl (by kernel_rfl) (by kernel_rfl) <| AM.qv (q_move rfl) rfl <| AM.qv (q_nilCheck_ptr rfl) rfl <| AM.qv (n_field_ptr rfl rfl) rfl <| AM.qv (q_load_ptr rfl rfl .p0 rfl) rfl <| AM.qv (q_subw rfl rfl) rfl <| AM.qv (q_move rfl) rfl <| AM.qv (q_nilCheck_ptr rfl) rfl <| AM.qv (n_field_ptr rfl rfl) rfl <| AM.qv (q_load_ptr rfl rfl .p0 rfl) rfl <| AM.qv (t_len rfl) rfl <| bndE h fun n2 e2 h => AM.qv (t_remS rfl rfl e2) rfl <| AM.qv (q_assign rfl) rfl <| AM.nil <| rN <| tS <| ATodo.regionM (id := 5) (A := [0, 1, 3, 7, 15, 0, 32, 96, 224, 480, 1023, 2047]) 12 mixed rfl (by kernel_rfl) (by kernel_rfl) <| AM.qv (q_move rfl) rfl <| AM.qv (q_nilCheck_ptr rfl) rfl <| AM.qv (n_field_ptr rfl rfl) rfl <| AM.qv (q_load_ptr rfl rfl .p0 rfl) rfl <| AM.qv (q_subw rfl rfl) rfl <| AM.qv (q_move rfl) rfl <| AM.qv (q_nilCheck_ptr rfl) rfl <| AM.qv (n_field_ptr rfl rfl) rfl <| AM.qv (q_load_ptr rfl rfl .p0 rfl) rfl <| AM.qv (t_len rfl) rfl <| bndE h fun n3 e3 h => AM.qv (t_quoS rfl rfl e3) rfl <| AM.qv (q_assign rfl) rfl <| AM.nil <| rN <| tSR <| rM rfl rfl <| ARun.qv (q_nilCheck_ptr rfl) rfl <| rF rfl rfl rfl <| rL rfl rfl .p0 rfl rfl <| rM rfl rfl <| bndE h fun v4 e4 h => ARun.qv (t_index rfl rfl rfl e4 rfl rfl) rfl <| ARun.qv (q_load_rptr rfl rfl rfl) rfl <| bndE h fun v5 e5 h => r_callp rfl (Below_c e5) (CoL.refl _) rfl <| rM rfl rfl <| rM rfl rfl <| ARun.qv (q_addw rfl rfl) rfl <| ARun.qv (q_mulw rfl rfl) rfl <| ARun.qv (q_addw rfl rfl) rfl <| rM rfl rfl <| bndE h fun v6 e6 h => r_callp rfl (Below_c e6) (CoL.refl _) rfl <| rA rfl rfl <| rN <| ATodo.ret <| ?_
    obtain rfl := Option.some.inj h
    exact ImpX.here ⟨_, .cons (.tmp _ _ rfl) .nil, _, .cons .p0 .nil, ⟨rfl, rfl⟩⟩

set_option maxHeartbeats 4000000 in
theorem Stream_Pick_c [GI : GTab] {b_0 : Bk} {p0x0 : Fleetmake_Stream} {p1x0 : List Int} {r : Int × Fleetmake_Stream} (h : Stream_Pick p0x0 p1x0 = some r) : ACall Tryz.prog 5 [.ptr b_0 0, .list 1 (p1x0.map I)] [(b_0, .cells [.list 1 (p0x0.L.map I), I p0x0.at_])] (T0 ([(b_0, .cells [.list 1 (r.2.L.map I), I r.2.at_])]) (I r.1)) := by
  unfold Stream_Pick at h
  refine ACall.lessH ?_
  refine ACall.bodyN Tryz.func5 rfl Tryz.ntmps5 Tryz.results5 rfl rfl ?_
  refine tSR <| rA rfl rfl <| rN <| tSR <| rM rfl rfl <| rM rfl rfl <| rM rfl rfl <| ARun.qv (t_len rfl) rfl <| bndE h fun v1 e1 h => t_call0 rfl (Stream_Next_c e1) (CoL.refl _) (.cons .p0 .nil) rfl rfl <| bndE h fun v2 e2 h => ARun.qv (t_index rfl rfl rfl e2 rfl rfl) rfl <| ARun.qv (q_load_rptr rfl rfl rfl) rfl <| rA rfl rfl <| rN <| ATodo.ret <| ?_
  obtain rfl := Option.some.inj h
  exact ImpX.here ⟨_, .cons (.tmp _ _ rfl) .nil, _, .cons .p0 .nil, ⟨rfl, rfl⟩⟩

set_option maxHeartbeats 4000000 in
theorem base_Out_c [GI : GTab] {p0x0 : Int} {p1x0 : Int} {p2x0 : Int} {r : Bool} (h : base_Out p0x0 p1x0 p2x0 = r) : Pu Tryz.prog 26 [I p0x0, I p1x0, I p2x0] (.bool r) := by
  unfold base_Out at h
  refine ACall.bodyN Tryz.func26 rfl Tryz.ntmps26 Tryz.results26 rfl rfl ?_
  refine tSR <| rA rfl rfl <| rN <| tS <| ATodo.cut (fun σ' => ∃ (c1 : Bool), base_Out_j1 c1 = r ∧ σ' = ⟨15, [(6, .bool c1)], []⟩) ?_ ?_
  · refine tR <| rM rfl rfl <| rM rfl rfl <| ARun.qv (q_lss rfl rfl) rfl <| rM rfl rfl <| ARun.guard_df rfl rfl rfl (fun hc => ?_) (fun hc => ?_)
    · rw [orFd hc] at h
      exact rM rfl rfl <| rY rfl rfl rfl <| rM rfl rfl <| rY rfl rfl rfl <| ARun.qv (q_gtr rfl rfl) rfl <| rE rfl rfl rfl <| rA rfl rfl <| rN <| ATodo.stop <| ImpX.lq [] ⟨decide (p2x0 < p0x0), h, rfl⟩ rfl rfl
    · rw [orTd hc] at h
      exact rG rfl rfl rfl rfl <| rG rfl rfl rfl rfl <| rT rfl rfl rfl <| rA rfl rfl <| rN <| ATodo.stop <| ImpX.lq [] ⟨true, h, rfl⟩ rfl rfl
  · rintro σ' ⟨c1, h, rfl⟩
    unfold base_Out_j1 at h
    refine ATodo.ret <| ?_
    obtain rfl := h
    exact ImpX.here ⟨_, .cons (.tmp _ _ rfl) .nil, rfl⟩

set_option maxHeartbeats 4000000 in
theorem command_NewDoer_c [GI : GTab] {p0x0 : Int} {r : (Option Command_Doer) × Int} (h : command_NewDoer p0x0 = r) : ACall Tryz.prog 6 [I p0x0] [] (TM r.1 (T0 ([]) (.tup [.raw (.pointer none), I r.2])) (fun x => T2 (fun d_0 d_0x1 => [(d_0, .cells [I x.most_, .sl 2 d_0x1 0 x.l_.length, I x.time_]), (d_0x1, .arr 2 (x.l_.map Command_done.av))]) (fun d_0 d_0x1 => .tup [.ptr d_0 0, I r.2]))) := by
  unfold command_NewDoer at h
  refine ACall.lessH ?_
  refine ACall.bodyN Tryz.func6 rfl Tryz.ntmps6 Tryz.results6 rfl rfl ?_
  refine tSR <| rA rfl rfl <| rA rfl rfl <| rN <| tS <| tSR <| rM rfl rfl <| r_callp rfl (base_Out_c rfl) (CoL.refl _) rfl <| rN <| ATodo.cond rfl (fun hc => ?_) (fun hc => ?_)
  · refine have h := iteT hc h; tSR <| rA rfl rfl <| rA rfl rfl <| rN <| ATodo.ret <| ?_
    obtain rfl := h
    exact ImpX.here ⟨_, .cons (.tmp _ _ rfl) (.cons (.tmp _ _ rfl) .nil), _, .nil, ⟨rfl, rfl⟩⟩
  · refine have h := iteFb hc h; tK <| tSR <| rM rfl rfl <| ARun.qv (n_build rfl rfl rfl rfl rfl) rfl <| n_box rfl rfl rfl rfl fun b1 => rA rfl rfl <| rA rfl rfl <| rN <| ATodo.ret <| ?_
    obtain rfl := h
    exact ImpX.arrBox (j := 1) 2 (fun _ => .p0) rfl (fun _ => rfl) (fun _ => rfl) fun b2 => ImpX.here ⟨_, .cons (.tmp _ _ rfl) (.cons (.tmp _ _ rfl) .nil), _, .cons .p1 (.cons .p0 .nil), ⟨b1, b2, rfl, rfl⟩⟩

set_option maxHeartbeats 4000000 in
theorem L_when_c [GI : GTab] {p0x0 : Bool} {p1x0 : Int} {r : Int} (h : L_when p0x0 p1x0 = r) : Pu Tryz.prog 7 [.bool p0x0, I p1x0] (I r) := by
  unfold L_when at h
  refine ACall.bodyN Tryz.func7 rfl Tryz.ntmps7 Tryz.results7 rfl rfl ?_
  refine tSR <| rA rfl rfl <| rN <| tS <| tSR <| rM rfl rfl <| rN <| ATodo.cond rfl (fun hc => ?_) (fun hc => ?_)
  · refine have h := iteT hc h; tSR <| rM rfl rfl <| rA rfl rfl <| rN <| ATodo.ret <| ?_
    obtain rfl := h
    exact ImpX.here ⟨_, .cons (.tmp _ _ rfl) .nil, rfl⟩
  · refine have h := iteFb hc h; tK <| tSR <| rA rfl rfl <| rN <| ATodo.ret <| ?_
    obtain rfl := h
    exact ImpX.here ⟨_, .cons (.tmp _ _ rfl) .nil, rfl⟩

set_option maxHeartbeats 4000000 in
theorem command_CheckPost_c [GI : GTab] {p0x0 : Post} {r : Int} (h : command_CheckPost p0x0 = r) : Pu Tryz.prog 45 [.agg [I p0x0.Room, I p0x0.Timeout, I p0x0.Tries, I p0x0.Kept]] (I r) := by
  unfold command_CheckPost at h
  refine ACall.bodyN Tryz.func45 rfl Tryz.ntmps45 Tryz.results45 rfl rfl ?_
  refine tSR <| n_box rfl rfl rfl rfl fun b1 => rA rfl rfl <| rN <| tS <| tS <| ATodo.cut (fun σ' => ∃ (c2 : Bool), command_CheckPost_j1 c2 = r ∧ σ' = ⟨21, [(20, .bool c2)], []⟩) ?_ ?_
  · refine tR <| rF rfl rfl rfl <| rL rfl rfl .p0 rfl rfl <| r_callp rfl (base_Out_c rfl) (CoL.refl _) rfl <| rM rfl rfl <| ARun.guard rfl rfl rfl (fun hc => ?_) (fun hc => ?_)
    · rw [orFb hc] at h
      refine rF rfl rfl rfl <| rY rfl rfl rfl <| rL rfl rfl .p0 rfl rfl <| rY rfl rfl rfl <| r_callp rfl (base_Out_c rfl) (CoL.refl _) rfl <| rE rfl rfl rfl <| rM rfl rfl <| ARun.guard rfl rfl rfl (fun hc => ?_) (fun hc => ?_)
      · rw [orFb hc] at h
        refine rF rfl rfl rfl <| rY rfl rfl rfl <| rL rfl rfl .p0 rfl rfl <| rY rfl rfl rfl <| r_callp rfl (base_Out_c rfl) (CoL.refl _) rfl <| rE rfl rfl rfl <| rM rfl rfl <| ARun.guard rfl rfl rfl (fun hc => ?_) (fun hc => ?_)
        · rw [orFb hc] at h
          exact rF rfl rfl rfl <| rY rfl rfl rfl <| rL rfl rfl .p0 rfl rfl <| rY rfl rfl rfl <| r_callp rfl (base_Out_c rfl) (CoL.refl _) rfl <| rE rfl rfl rfl <| rN <| ATodo.stop <| ImpX.lq [] ⟨(base_Out p0x0.Kept (0 : Int) (1000 : Int)), h, rfl⟩ rfl rfl
        · rw [orTb hc] at h
          exact rG rfl rfl rfl rfl <| rG rfl rfl rfl rfl <| rT rfl rfl rfl <| rN <| ATodo.stop <| ImpX.lq [] ⟨true, h, rfl⟩ rfl rfl
      · rw [orTb hc] at h
        exact rG rfl rfl rfl rfl <| rG rfl rfl rfl rfl <| rT rfl rfl rfl <| rM rfl rfl <| rG rfl rfl rfl rfl <| rG rfl rfl rfl rfl <| rG rfl rfl rfl rfl <| rT rfl rfl rfl <| rN <| ATodo.stop <| ImpX.lq [] ⟨true, h, rfl⟩ rfl rfl
    · rw [orTb hc] at h
      exact rG rfl rfl rfl rfl <| rG rfl rfl rfl rfl <| rT rfl rfl rfl <| rM rfl rfl <| rG rfl rfl rfl rfl <| rG rfl rfl rfl rfl <| rG rfl rfl rfl rfl <| rT rfl rfl rfl <| rM rfl rfl <| rG rfl rfl rfl rfl <| rG rfl rfl rfl rfl <| rG rfl rfl rfl rfl <| rT rfl rfl rfl <| rN <| ATodo.stop <| ImpX.lq [] ⟨true, h, rfl⟩ rfl rfl
  · rintro σ' ⟨c2, h, rfl⟩
    unfold command_CheckPost_j1 at h
    refine ATodo.cond rfl (fun hc => ?_) (fun hc => ?_)
    · refine have h := iteT hc h; tSR <| rA rfl rfl <| rN <| ATodo.ret <| ?_
      obtain rfl := h
      exact ImpX.here ⟨_, .cons (.tmp _ _ rfl) .nil, rfl⟩
    · refine have h := iteFb hc h; tK <| tSR <| rA rfl rfl <| rN <| ATodo.ret <| ?_
      obtain rfl := h
      exact ImpX.here ⟨_, .cons (.tmp _ _ rfl) .nil, rfl⟩

set_option maxHeartbeats 4000000 in
theorem command_New_c [GI : GTab] {p0x0 : Post} {r : (Option Command_Office) × Int} (h : command_New p0x0 = r) : ACall Tryz.prog 18 [.agg [I p0x0.Room, I p0x0.Timeout, I p0x0.Tries, I p0x0.Kept]] [] (TM r.1 (T0 ([]) (.tup [.raw (.pointer none), I r.2])) (fun x => T2 (fun d_0 d_0x4 => [(d_0, .cells [I x.post_.Room, I x.post_.Timeout, I x.post_.Tries, I x.post_.Kept, .mref d_0x4, I x.time_]), (d_0x4, .mp (x.notes_.map (fun e => (AV.str e.1, Note.av e.2))))]) (fun d_0 d_0x4 => .tup [.ptr d_0 0, I r.2]))) := by
  unfold command_New at h
  refine ACall.lessH ?_
  refine ACall.bodyN Tryz.func18 rfl Tryz.ntmps18 Tryz.results18 rfl rfl ?_
  refine tSR <| n_box rfl rfl rfl rfl fun b1 => rA rfl rfl <| rA rfl rfl <| rN <| tS <| tSR <| ARun.qv (q_load_ptr_all rfl rfl .p0 rfl) rfl <| r_callp rfl (command_CheckPost_c rfl) (CoL.refl _) rfl <| rA rfl rfl <| rN <| tSR <| rM rfl rfl <| ARun.qv (q_neq rfl rfl) rfl <| rN <| ATodo.cond_d rfl (fun hc => ?_) (fun hc => ?_)
  · refine have h := iteT hc h; tSR <| rM rfl rfl <| rA rfl rfl <| rA rfl rfl <| rN <| ATodo.ret <| ?_
    obtain rfl := h
    exact ImpX.here ⟨_, .cons (.tmp _ _ rfl) (.cons (.tmp _ _ rfl) .nil), _, .nil, ⟨rfl, rfl⟩⟩
  · refine have h := iteF hc h; tK <| tSR <| ARun.qv (q_load_ptr_all rfl rfl .p0 rfl) rfl <| t_makeMap rfl fun b2 => ARun.qv (n_build rfl rfl rfl rfl rfl) rfl <| n_box rfl rfl rfl rfl fun b3 => rA rfl rfl <| rA rfl rfl <| rN <| ATodo.ret <| ?_
    obtain rfl := h
    exact ImpX.here ⟨_, .cons (.tmp _ _ rfl) (.cons (.tmp _ _ rfl) .nil), _, .cons .p0 (.cons .p0 .nil), ⟨b3, b2, rfl, rfl⟩⟩

set_option maxHeartbeats 4000000 in
theorem base_Key_c [GI : GTab] {p0x0 : Str} {r : Bool} (h : base_Key p0x0 = some r) : Pu Tryz.prog 77 [.str p0x0] (.bool r) := by
  unfold base_Key at h
  refine ACall.bodyN Tryz.func77 rfl Tryz.ntmps77 Tryz.results77 rfl rfl ?_
  refine tSR <| rA rfl rfl <| rN <| tS <| tS <| ATodo.cut (fun σ' => ∃ (c1 : Bool), base_Key_j1 p0x0 c1 = some r ∧ σ' = ⟨54, [(0, .str p0x0), (21, .bool c1)], []⟩) ?_ ?_
  · refine tR <| rM rfl rfl <| ARun.qv (q_seq rfl rfl) rfl <| rM rfl rfl <| ARun.guard_df rfl rfl rfl (fun hc => ?_) (fun hc => ?_)
    · refine have h := iteF hc h; rM rfl rfl <| rY rfl rfl rfl <| ARun.qv (q_len_str rfl) rfl <| rY rfl rfl rfl <| ARun.qv (q_gtr rfl rfl) rfl <| rE rfl rfl rfl <| rM rfl rfl <| ARun.guard_df rfl rfl rfl (fun hc => ?_) (fun hc => ?_)
      · refine have h := iteF hc h; rM rfl rfl <| rY rfl rfl rfl <| bndE h fun c2 e1 h => ARun.qv (t_index_str rfl rfl e1) rfl <| rY rfl rfl rfl <| ARun.qv (q_lss rfl rfl) rfl <| rE rfl rfl rfl <| rM rfl rfl <| ARun.guard_df rfl rfl rfl (fun hc => ?_) (fun hc => ?_)
        · exact have h := iteF hc h; rM rfl rfl <| rY rfl rfl rfl <| bndE h fun c3 e2 h => ARun.qv (t_index_str rfl rfl e2) rfl <| rY rfl rfl rfl <| ARun.qv (q_gtr rfl rfl) rfl <| rE rfl rfl rfl <| rN <| ATodo.stop <| ImpX.lq [] ⟨decide ((122 : Int) < (c3.toNat : Int)), h, rfl⟩ rfl rfl
        · exact have h := iteT hc h; rG rfl rfl rfl rfl <| rG rfl rfl rfl rfl <| rT rfl rfl rfl <| rN <| ATodo.stop <| ImpX.lq [] ⟨true, h, rfl⟩ rfl rfl
      · exact have h := iteT hc h; rG rfl rfl rfl rfl <| rG rfl rfl rfl rfl <| rT rfl rfl rfl <| rM rfl rfl <| rG rfl rfl rfl rfl <| rG rfl rfl rfl rfl <| rG rfl rfl rfl rfl <| rT rfl rfl rfl <| rN <| ATodo.stop <| ImpX.lq [] ⟨true, h, rfl⟩ rfl rfl
    · exact have h := iteT hc h; rG rfl rfl rfl rfl <| rG rfl rfl rfl rfl <| rT rfl rfl rfl <| rM rfl rfl <| rG rfl rfl rfl rfl <| rG rfl rfl rfl rfl <| rG rfl rfl rfl rfl <| rT rfl rfl rfl <| rM rfl rfl <| rG rfl rfl rfl rfl <| rG rfl rfl rfl rfl <| rG rfl rfl rfl rfl <| rT rfl rfl rfl <| rN <| ATodo.stop <| ImpX.lq [] ⟨true, h, rfl⟩ rfl rfl
  · rintro σ' ⟨c1, h, rfl⟩
    unfold base_Key_j1 at h
    refine ATodo.cond rfl (fun hc => ?_) (fun hc => ?_)
    · refine have h := iteT hc h; tSR <| rA rfl rfl <| rN <| ATodo.ret <| ?_
      obtain rfl := Option.some.inj h
      exact ImpX.here ⟨_, .cons (.tmp _ _ rfl) .nil, rfl⟩
    · refine have h := iteFb hc h; tK <| tS <| tSR <| rM rfl rfl <| ARun.qv (q_len_str rfl) rfl <| rM rfl rfl <| rN <| ATodo.block <| ATodo.loopI (fun x : Int => base_Key_b1 p0x0 x) (fun x σ' => σ' = ⟨54, [(0, .str p0x0), (23, I (p0x0.length : Int)), (24, I x)], []⟩) h ?_ ?_
      · exact ImpX.lq [] rfl rfl rfl
      · intro n5 z1 σ' J1 hmk h hJ1 hA1
        obtain rfl := hmk
        replace h : base_Key_b1 p0x0 n5 = some z1 := h
        unfold base_Key_b1 at h
        refine tSR <| ARun.qv (q_lss rfl rfl) rfl <| rN <| tS <| ATodo.cond_d rfl (fun hc => ?_) (fun hc => ?_)
        · refine have h := iteT hc h; tK <| tS <| ATodo.block <| tSR <| rM rfl rfl <| rA rfl rfl <| rN <| tSR <| rM rfl rfl <| rM rfl rfl <| bndE h fun c6 e3 h => ARun.qv (t_index_str rfl rfl e3) rfl <| rA rfl rfl <| rN <| tS <| ATodo.cut (fun σ' => ∃ (c7 : Bool), base_Key_j2 n5 c7 = some z1 ∧ σ' = ⟨54, [(0, .str p0x0), (23, I (p0x0.length : Int)), (24, I n5), (52, .bool c7)], []⟩) ?_ ?_
          · refine tR <| rM rfl rfl <| ARun.qv (q_geq rfl rfl) rfl <| rM rfl rfl <| ARun.guard_dt rfl rfl rfl (fun hc => ?_) (fun hc => ?_)
            · rw [if_pos hc] at h
              refine rM rfl rfl <| rY rfl rfl rfl <| ARun.qv (q_leq rfl rfl) rfl <| rT rfl rfl rfl <| rM rfl rfl <| ARun.guard_df rfl rfl rfl (fun hc => ?_) (fun hc => ?_)
              · rw [if_neg hc] at h
                refine rM rfl rfl <| rY rfl rfl rfl <| ARun.qv (q_geq rfl rfl) rfl <| rY rfl rfl rfl <| rM rfl rfl <| ARun.guard_dt rfl rfl rfl (fun hc => ?_) (fun hc => ?_)
                · rw [if_pos hc] at h
                  refine rM rfl rfl <| rY rfl rfl rfl <| ARun.qv (q_leq rfl rfl) rfl <| rY rfl rfl rfl <| rT rfl rfl rfl <| rE rfl rfl rfl <| rM rfl rfl <| ARun.guard_df rfl rfl rfl (fun hc => ?_) (fun hc => ?_)
                  · rw [if_neg hc] at h
                    refine rM rfl rfl <| rY rfl rfl rfl <| ARun.qv (q_eql rfl rfl) rfl <| rE rfl rfl rfl <| rM rfl rfl <| ARun.guard_df rfl rfl rfl (fun hc => ?_) (fun hc => ?_)
                    · rw [if_neg hc] at h
                      exact rM rfl rfl <| rY rfl rfl rfl <| ARun.qv (q_eql rfl rfl) rfl <| rE rfl rfl rfl <| ARun.qv (q_not_d rfl) rfl <| rN <| ATodo.stop <| ImpX.lq [] ⟨decide (¬ ((c6.toNat : Int) = (95 : Int))), h, rfl⟩ rfl rfl
                    · rw [if_pos hc] at h
                      exact rG rfl rfl rfl rfl <| rT rfl rfl rfl <| ARun.qv (q_not rfl) rfl <| rN <| ATodo.stop <| ImpX.lq [] ⟨!true, h, rfl⟩ rfl rfl
                  · rw [if_pos hc] at h
                    exact rG rfl rfl rfl rfl <| rT rfl rfl rfl <| rM rfl rfl <| rG rfl rfl rfl rfl <| rG rfl rfl rfl rfl <| rT rfl rfl rfl <| ARun.qv (q_not rfl) rfl <| rN <| ATodo.stop <| ImpX.lq [] ⟨!true, h, rfl⟩ rfl rfl
                · rw [if_neg hc] at h
                  refine rG rfl rfl rfl rfl <| rY rfl rfl rfl <| rE rfl rfl rfl <| rE rfl rfl rfl <| rM rfl rfl <| rY rfl rfl rfl <| rM rfl rfl <| rY rfl rfl rfl <| ARun.qv (q_eql rfl rfl) rfl <| rE rfl rfl rfl <| rM rfl rfl <| ARun.guard_df rfl rfl rfl (fun hc => ?_) (fun hc => ?_)
                  · rw [if_neg hc] at h
                    exact rM rfl rfl <| rY rfl rfl rfl <| ARun.qv (q_eql rfl rfl) rfl <| rE rfl rfl rfl <| ARun.qv (q_not_d rfl) rfl <| rN <| ATodo.stop <| ImpX.lq [] ⟨decide (¬ ((c6.toNat : Int) = (95 : Int))), h, rfl⟩ rfl rfl
                  · rw [if_pos hc] at h
                    exact rG rfl rfl rfl rfl <| rT rfl rfl rfl <| ARun.qv (q_not rfl) rfl <| rN <| ATodo.stop <| ImpX.lq [] ⟨!true, h, rfl⟩ rfl rfl
              · rw [if_pos hc] at h
                exact rG rfl rfl rfl rfl <| rG rfl rfl rfl rfl <| ARun.guard_und rfl rfl rfl <| ARun.guard_und rfl rfl rfl <| rG rfl rfl rfl rfl <| rT rfl rfl rfl <| rM rfl rfl <| rG rfl rfl rfl rfl <| rG rfl rfl rfl rfl <| rT rfl rfl rfl <| rM rfl rfl <| rG rfl rfl rfl rfl <| rG rfl rfl rfl rfl <| rT rfl rfl rfl <| ARun.qv (q_not rfl) rfl <| rN <| ATodo.stop <| ImpX.lq [] ⟨!true, h, rfl⟩ rfl rfl
            · rw [if_neg hc] at h
              refine rG rfl rfl rfl rfl <| rE rfl rfl rfl <| rM rfl rfl <| rY rfl rfl rfl <| rM rfl rfl <| rY rfl rfl rfl <| ARun.qv (q_geq rfl rfl) rfl <| rY rfl rfl rfl <| rM rfl rfl <| ARun.guard_dt rfl rfl rfl (fun hc => ?_) (fun hc => ?_)
              · rw [if_pos hc] at h
                refine rM rfl rfl <| rY rfl rfl rfl <| ARun.qv (q_leq rfl rfl) rfl <| rY rfl rfl rfl <| rT rfl rfl rfl <| rE rfl rfl rfl <| rM rfl rfl <| ARun.guard_df rfl rfl rfl (fun hc => ?_) (fun hc => ?_)
                · rw [if_neg hc] at h
                  refine rM rfl rfl <| rY rfl rfl rfl <| ARun.qv (q_eql rfl rfl) rfl <| rE rfl rfl rfl <| rM rfl rfl <| ARun.guard_df rfl rfl rfl (fun hc => ?_) (fun hc => ?_)
                  · rw [if_neg hc] at h
                    exact rM rfl rfl <| rY rfl rfl rfl <| ARun.qv (q_eql rfl rfl) rfl <| rE rfl rfl rfl <| ARun.qv (q_not_d rfl) rfl <| rN <| ATodo.stop <| ImpX.lq [] ⟨decide (¬ ((c6.toNat : Int) = (95 : Int))), h, rfl⟩ rfl rfl
                  · rw [if_pos hc] at h
                    exact rG rfl rfl rfl rfl <| rT rfl rfl rfl <| ARun.qv (q_not rfl) rfl <| rN <| ATodo.stop <| ImpX.lq [] ⟨!true, h, rfl⟩ rfl rfl
                · rw [if_pos hc] at h
                  exact rG rfl rfl rfl rfl <| rT rfl rfl rfl <| rM rfl rfl <| rG rfl rfl rfl rfl <| rG rfl rfl rfl rfl <| rT rfl rfl rfl <| ARun.qv (q_not rfl) rfl <| rN <| ATodo.stop <| ImpX.lq [] ⟨!true, h, rfl⟩ rfl rfl
              · rw [if_neg hc] at h
                refine rG rfl rfl rfl rfl <| rY rfl rfl rfl <| rE rfl rfl rfl <| rE rfl rfl rfl <| rM rfl rfl <| rY rfl rfl rfl <| rM rfl rfl <| rY rfl rfl rfl <| ARun.qv (q_eql rfl rfl) rfl <| rE rfl rfl rfl <| rM rfl rfl <| ARun.guard_df rfl rfl rfl (fun hc => ?_) (fun hc => ?_)
                · rw [if_neg hc] at h
                  exact rM rfl rfl <| rY rfl rfl rfl <| ARun.qv (q_eql rfl rfl) rfl <| rE rfl rfl rfl <| ARun.qv (q_not_d rfl) rfl <| rN <| ATodo.stop <| ImpX.lq [] ⟨decide (¬ ((c6.toNat : Int) = (95 : Int))), h, rfl⟩ rfl rfl
                · rw [if_pos hc] at h
                  exact rG rfl rfl rfl rfl <| rT rfl rfl rfl <| ARun.qv (q_not rfl) rfl <| rN <| ATodo.stop <| ImpX.lq [] ⟨!true, h, rfl⟩ rfl rfl
          · rintro σ' ⟨c7, h, rfl⟩
            unfold base_Key_j2 at h
            refine ATodo.cond rfl (fun hc => ?_) (fun hc => ?_)
            · refine have h := iteT hc h; tSR <| rA rfl rfl <| rN <| ATodo.ret <| have h := outL h hA1; ?_
              obtain rfl := Option.some.inj h
              exact ImpX.here ⟨_, .cons (.tmp _ _ rfl) .nil, rfl⟩
            · refine have h := iteFb hc h; tK <| ATodo.blk <| tR <| ARun.qv (q_addw rfl rfl) rfl <| rM rfl rfl <| rN <| ATodo.stop <| ?_
              obtain rfl := Option.some.inj h
              exact hJ1 _ _ rfl <| ImpX.lq [] rfl rfl rfl
        · refine have h := iteF hc h; ATodo.exit rfl <| have h := outL h hA1; tSR <| rA rfl rfl <| rN <| ATodo.ret <| ?_
          obtain rfl := Option.some.inj h
          exact ImpX.here ⟨_, .cons (.tmp _ _ rfl) .nil, rfl⟩

set_option maxHeartbeats 4000000 in
theorem base_Unmarked_c {p0x0 : Str} {r : Bool} (h : base_Unmarked p0x0 = some r) : Pu Tryz.prog 78 [.str p0x0] (.bool r) := by
  unfold base_Unmarked at h
  refine ACall.bodyN Tryz.func78 rfl Tryz.ntmps78 Tryz.results78 rfl rfl ?_
  refine tSR <| rA rfl rfl <| rN <| tS <| tSR <| rM rfl rfl <| ARun.qv (q_len_str rfl) rfl <| rM rfl rfl <| rN <| ATodo.block <| ATodo.loopI (fun x : Int => base_Unmarked_b1 p0x0 x) (fun x σ' => σ' = ⟨22, [(0, .str p0x0), (5, I (p0x0.length : Int)), (6, I x)], []⟩) h ?_ ?_
  · exact ImpX.lq [] rfl rfl rfl
  · intro n2 z1 σ' J1 hmk h hJ1 hA1
    obtain rfl := hmk
    replace h : base_Unmarked_b1 p0x0 n2 = some z1 := h
    unfold base_Unmarked_b1 at h
    refine tSR <| ARun.qv (q_lss rfl rfl) rfl <| rN <| tS <| ATodo.cond_d rfl (fun hc => ?_) (fun hc => ?_)
    · refine have h := iteT hc h; tK <| tS <| ATodo.block <| tSR <| rM rfl rfl <| rA rfl rfl <| rN <| tS <| ATodo.cut (fun σ' => ∃ (c3 : Bool), base_Unmarked_j1 n2 c3 = some z1 ∧ σ' = ⟨22, [(0, .str p0x0), (5, I (p0x0.length : Int)), (6, I n2), (18, .bool c3)], []⟩) ?_ ?_
      · refine tR <| rM rfl rfl <| rM rfl rfl <| bndE h fun c4 e1 h => ARun.qv (t_index_str rfl rfl e1) rfl <| ARun.qv (q_lss rfl rfl) rfl <| rM rfl rfl <| ARun.guard_df rfl rfl rfl (fun hc => ?_) (fun hc => ?_)
        · exact have h := iteF hc h; rM rfl rfl <| rY rfl rfl rfl <| rM rfl rfl <| rY rfl rfl rfl <| bndE h fun c5 e2 h => ARun.qv (t_index_str rfl rfl e2) rfl <| rY rfl rfl rfl <| ARun.qv (q_eql rfl rfl) rfl <| rE rfl rfl rfl <| rN <| ATodo.stop <| ImpX.lq [] ⟨decide ((c5.toNat : Int) = (127 : Int)), h, rfl⟩ rfl rfl
        · exact have h := iteT hc h; rG rfl rfl rfl rfl <| rG rfl rfl rfl rfl <| rG rfl rfl rfl rfl <| rT rfl rfl rfl <| rN <| ATodo.stop <| ImpX.lq [] ⟨true, h, rfl⟩ rfl rfl
      · rintro σ' ⟨c3, h, rfl⟩
        unfold base_Unmarked_j1 at h
        refine ATodo.cond rfl (fun hc => ?_) (fun hc => ?_)
        · refine have h := iteT hc h; tSR <| rA rfl rfl <| rN <| ATodo.ret <| have h := outL h hA1; ?_
          obtain rfl := Option.some.inj h
          exact ImpX.here ⟨_, .cons (.tmp _ _ rfl) .nil, rfl⟩
        · refine have h := iteFb hc h; tK <| ATodo.blk <| tR <| ARun.qv (q_addw rfl rfl) rfl <| rM rfl rfl <| rN <| ATodo.stop <| ?_
          obtain rfl := Option.some.inj h
          exact hJ1 _ _ rfl <| ImpX.lq [] rfl rfl rfl
    · refine have h := iteF hc h; ATodo.exit rfl <| have h := outL h hA1; ?_
      unfold base_Unmarked_k2 at h
      refine tSR <| rM rfl rfl <| bndE h fun v6 e3 h => r_callp rfl (utf8_ValidString_c e3) (CoL.refl _) rfl <| rA rfl rfl <| rN <| ATodo.ret <| ?_
      obtain rfl := Option.some.inj h
      exact ImpX.here ⟨_, .cons (.tmp _ _ rfl) .nil, rfl⟩

set_option maxHeartbeats 4000000 in
theorem base_Moment_c [GI : GTab] {p0x0 : Int} {r : Bool} (h : base_Moment p0x0 = r) : Pu Tryz.prog 33 [I p0x0] (.bool r) := by
  unfold base_Moment at h
  refine ACall.bodyN Tryz.func33 rfl Tryz.ntmps33 Tryz.results33 rfl rfl ?_
  refine tSR <| rA rfl rfl <| rN <| tSR <| rM rfl rfl <| r_callp rfl (base_Out_c rfl) (CoL.refl _) rfl <| ARun.qv (q_not rfl) rfl <| rA rfl rfl <| rN <| ATodo.ret <| ?_
  obtain rfl := h
  exact ImpX.here ⟨_, .cons (.tmp _ _ rfl) .nil, rfl⟩

set_option maxHeartbeats 4000000 in
theorem command_CheckLetter_c {p0x0 : Letter} {r : Int} (h : command_CheckLetter p0x0 = some r) : Pu Tryz.prog 32 [.agg [.str p0x0.Id, .str p0x0.Slot, .str p0x0.Body, I p0x0.Prio, I p0x0.At, I p0x0.Until]] (I r) := by
  unfold command_CheckLetter at h
  refine ACall.bodyN Tryz.func32 rfl Tryz.ntmps32 Tryz.results32 rfl rfl ?_
  refine tSR <| n_box rfl rfl rfl rfl fun b1 => rA rfl rfl <| rN <| tS <| ATodo.block <| tS <| ATodo.cut (fun σ' => ∃ (c2 : Bool), command_CheckLetter_j1 p0x0 c2 = some r ∧ σ' = ⟨51, [(1, .ptr b1 0), (3, .bool c2)], [(b1, .cells [.str p0x0.Id, .str p0x0.Slot, .str p0x0.Body, I p0x0.Prio, I p0x0.At, I p0x0.Until])]⟩) ?_ ?_
  · refine tR <| rF rfl rfl rfl <| rL rfl rfl .p0 rfl rfl <| bndE h fun v3 e1 h => r_callp rfl (base_Key_c e1) (CoL.refl _) rfl <| ARun.qv (q_not rfl) rfl <| rM rfl rfl <| ARun.guard rfl rfl rfl (fun hc => ?_) (fun hc => ?_)
    · refine have h := iteFb hc h; rF rfl rfl rfl <| rY rfl rfl rfl <| rL rfl rfl .p0 rfl rfl <| rY rfl rfl rfl <| ARun.qv (q_sne rfl rfl) rfl <| rY rfl rfl rfl <| rM rfl rfl <| ARun.guard_dt rfl rfl rfl (fun hc => ?_) (fun hc => ?_)
      · exact have h := iteT hc h; rF rfl rfl rfl <| rY rfl rfl rfl <| rL rfl rfl .p0 rfl rfl <| rY rfl rfl rfl <| bndE h fun v4 e2 h => r_callp rfl (base_Key_c e2) (CoL.refl _) rfl <| rY rfl rfl rfl <| ARun.qv (q_not rfl) rfl <| rY rfl rfl rfl <| rT rfl rfl rfl <| rE rfl rfl rfl <| rA rfl rfl <| rN <| ATodo.stop <| ImpX.lq [0] ⟨!v4, h, rfl⟩ rfl rfl
      · exact have h := iteF hc h; rG rfl rfl rfl rfl <| rG rfl rfl rfl rfl <| rG rfl rfl rfl rfl <| rY rfl rfl rfl <| rE rfl rfl rfl <| rE rfl rfl rfl <| rA rfl rfl <| rN <| ATodo.stop <| ImpX.lq [0] ⟨false, h, rfl⟩ rfl rfl
    · exact have h := iteT hc h; rG rfl rfl rfl rfl <| rG rfl rfl rfl rfl <| rG rfl rfl rfl rfl <| ARun.guard_und rfl rfl rfl <| ARun.guard_und rfl rfl rfl <| ARun.guard_und rfl rfl rfl <| ARun.guard_und rfl rfl rfl <| rG rfl rfl rfl rfl <| rT rfl rfl rfl <| rA rfl rfl <| rN <| ATodo.stop <| ImpX.lq [0] ⟨true, h, rfl⟩ rfl rfl
  · rintro σ' ⟨c2, h, rfl⟩
    unfold command_CheckLetter_j1 at h
    refine ATodo.cond rfl (fun hc => ?_) (fun hc => ?_)
    · refine have h := iteT hc h; tSR <| rA rfl rfl <| rN <| ATodo.ret <| ?_
      obtain rfl := Option.some.inj h
      exact ImpX.here ⟨_, .cons (.tmp _ _ rfl) .nil, rfl⟩
    · refine have h := iteFb hc h; tSR <| rF rfl rfl rfl <| rL rfl rfl .p0 rfl rfl <| ARun.qv (q_len_str rfl) rfl <| ARun.qv (q_gtr rfl rfl) rfl <| rA rfl rfl <| rN <| ATodo.cond_d rfl (fun hc => ?_) (fun hc => ?_)
      · refine have h := iteT hc h; tSR <| rA rfl rfl <| rN <| ATodo.ret <| ?_
        obtain rfl := Option.some.inj h
        exact ImpX.here ⟨_, .cons (.tmp _ _ rfl) .nil, rfl⟩
      · refine have h := iteF hc h; tSR <| rF rfl rfl rfl <| rL rfl rfl .p0 rfl rfl <| bndE h fun v5 e3 h => r_callp rfl (base_Unmarked_c e3) (CoL.refl _) rfl <| ARun.qv (q_not rfl) rfl <| rA rfl rfl <| rN <| ATodo.cond rfl (fun hc => ?_) (fun hc => ?_)
        · refine have h := iteT hc h; tSR <| rA rfl rfl <| rN <| ATodo.ret <| ?_
          obtain rfl := Option.some.inj h
          exact ImpX.here ⟨_, .cons (.tmp _ _ rfl) .nil, rfl⟩
        · refine have h := iteFb hc h; tS <| ATodo.cut (fun σ' => ∃ (c6 : Bool), command_CheckLetter_j2 c6 = some r ∧ σ' = ⟨51, [(29, .bool c6)], []⟩) ?_ ?_
          · refine tR <| rF rfl rfl rfl <| rL rfl rfl .p0 rfl rfl <| r_callp rfl (base_Out_c rfl) (CoL.refl _) rfl <| rM rfl rfl <| ARun.guard rfl rfl rfl (fun hc => ?_) (fun hc => ?_)
            · rw [orFb hc] at h
              refine rF rfl rfl rfl <| rY rfl rfl rfl <| rL rfl rfl .p0 rfl rfl <| rY rfl rfl rfl <| r_callp rfl (base_Moment_c rfl) (CoL.refl _) rfl <| rY rfl rfl rfl <| ARun.qv (q_not rfl) rfl <| rE rfl rfl rfl <| rM rfl rfl <| ARun.guard rfl rfl rfl (fun hc => ?_) (fun hc => ?_)
              · rw [orFb hc] at h
                refine rF rfl rfl rfl <| rY rfl rfl rfl <| rL rfl rfl .p0 rfl rfl <| rY rfl rfl rfl <| rF rfl rfl rfl <| rY rfl rfl rfl <| rL rfl rfl .p0 rfl rfl <| rY rfl rfl rfl <| ARun.qv (q_leq rfl rfl) rfl <| rE rfl rfl rfl <| rM rfl rfl <| ARun.guard_df rfl rfl rfl (fun hc => ?_) (fun hc => ?_)
                · rw [orFd hc] at h
                  exact rF rfl rfl rfl <| rY rfl rfl rfl <| rL rfl rfl .p0 rfl rfl <| rY rfl rfl rfl <| ARun.qv (q_gtr rfl rfl) rfl <| rE rfl rfl rfl <| rA rfl rfl <| rN <| ATodo.stop <| ImpX.lq [] ⟨decide ((345686400000 : Int) < p0x0.Until), h, rfl⟩ rfl rfl
                · rw [orTd hc] at h
                  exact rG rfl rfl rfl rfl <| rG rfl rfl rfl rfl <| rT rfl rfl rfl <| rA rfl rfl <| rN <| ATodo.stop <| ImpX.lq [] ⟨true, h, rfl⟩ rfl rfl
              · rw [orTb hc] at h
                exact rG rfl rfl rfl rfl <| rG rfl rfl rfl rfl <| rG rfl rfl rfl rfl <| rG rfl rfl rfl rfl <| rT rfl rfl rfl <| rM rfl rfl <| rG rfl rfl rfl rfl <| rG rfl rfl rfl rfl <| rG rfl rfl rfl rfl <| rT rfl rfl rfl <| rA rfl rfl <| rN <| ATodo.stop <| ImpX.lq [] ⟨true, h, rfl⟩ rfl rfl
            · rw [orTb hc] at h
              exact rG rfl rfl rfl rfl <| rG rfl rfl rfl rfl <| rG rfl rfl rfl rfl <| rT rfl rfl rfl <| rM rfl rfl <| rG rfl rfl rfl rfl <| rG rfl rfl rfl rfl <| rG rfl rfl rfl rfl <| rG rfl rfl rfl rfl <| rG rfl rfl rfl rfl <| rT rfl rfl rfl <| rM rfl rfl <| rG rfl rfl rfl rfl <| rG rfl rfl rfl rfl <| rG rfl rfl rfl rfl <| rT rfl rfl rfl <| rA rfl rfl <| rN <| ATodo.stop <| ImpX.lq [] ⟨true, h, rfl⟩ rfl rfl
          · rintro σ' ⟨c6, h, rfl⟩
            unfold command_CheckLetter_j2 at h
            refine ATodo.cond rfl (fun hc => ?_) (fun hc => ?_)
            · refine have h := iteT hc h; tSR <| rA rfl rfl <| rN <| ATodo.ret <| ?_
              obtain rfl := Option.some.inj h
              exact ImpX.here ⟨_, .cons (.tmp _ _ rfl) .nil, rfl⟩
            · refine have h := iteFb hc h; tK <| ATodo.blk <| tSR <| rA rfl rfl <| rN <| ATodo.ret <| ?_
              obtain rfl := Option.some.inj h
              exact ImpX.here ⟨_, .cons (.tmp _ _ rfl) .nil, rfl⟩

set_option maxHeartbeats 4000000 in
theorem command_Office_timeFault_c [GI : GTab] {b_0 : Bk} {b_0x4 : Bk} {p0x0 : Command_Office} {p1x0 : Int} {r : Int} (h : command_Office_timeFault p0x0 p1x0 = r) : ACall Tryz.prog 60 [.ptr b_0 0, I p1x0] [(b_0, .cells [I p0x0.post_.Room, I p0x0.post_.Timeout, I p0x0.post_.Tries, I p0x0.post_.Kept, .mref b_0x4, I p0x0.time_])] (T0 ([(b_0, .cells [I p0x0.post_.Room, I p0x0.post_.Timeout, I p0x0.post_.Tries, I p0x0.post_.Kept, .mref b_0x4, I p0x0.time_])]) (I r)) := by
  unfold command_Office_timeFault at h
  refine ACall.lessH ?_
  refine ACall.bodyN Tryz.func60 rfl Tryz.ntmps60 Tryz.results60 rfl rfl ?_
  refine tSR <| rA rfl rfl <| rN <| tS <| ATodo.block <| tSR <| rM rfl rfl <| r_callp rfl (base_Moment_c rfl) (CoL.refl _) rfl <| ARun.qv (q_not rfl) rfl <| rA rfl rfl <| rN <| ATodo.cond rfl (fun hc => ?_) (fun hc => ?_)
  · refine have h := iteT hc h; tSR <| rA rfl rfl <| rN <| ATodo.ret <| ?_
    obtain rfl := h
    exact ImpX.here ⟨_, .cons (.tmp _ _ rfl) .nil, _, .cons .p0 .nil, ⟨rfl, rfl⟩⟩
  · refine have h := iteFb hc h; tSR <| rM rfl rfl <| rM rfl rfl <| ARun.qv (q_nilCheck_ptr rfl) rfl <| rF rfl rfl rfl <| rL rfl rfl .p0 rfl rfl <| ARun.qv (q_lss rfl rfl) rfl <| rA rfl rfl <| rN <| ATodo.cond_d rfl (fun hc => ?_) (fun hc => ?_)
    · refine have h := iteT hc h; tSR <| rA rfl rfl <| rN <| ATodo.ret <| ?_
      obtain rfl := h
      exact ImpX.here ⟨_, .cons (.tmp _ _ rfl) .nil, _, .cons .p0 .nil, ⟨rfl, rfl⟩⟩
    · refine have h := iteF hc h; tK <| ATodo.blk <| tSR <| rA rfl rfl <| rN <| ATodo.ret <| ?_
      obtain rfl := h
      exact ImpX.here ⟨_, .cons (.tmp _ _ rfl) .nil, _, .cons .p0 .nil, ⟨rfl, rfl⟩⟩

set_option maxHeartbeats 4000000 in
theorem base_First_c [GI : GTab] {p0x0 : List Int} {r : Int} (h : base_First p0x0 = some r) : Pu Tryz.prog 69 [.list 1 (p0x0.map I)] (I r) := by
  unfold base_First at h
  refine ACall.bodyN Tryz.func69 rfl Tryz.ntmps69 Tryz.results69 rfl rfl ?_
  refine tSR <| rA rfl rfl <| rN <| tS <| tSR <| rM rfl rfl <| ARun.qv (t_len rfl) rfl <| rM rfl rfl <| rN <| ATodo.block <| ATodo.loopI (fun x : Int => base_First_b1 p0x0 x) (fun x σ' => σ' = ⟨15, [(5, .list 1 (p0x0.map I)), (6, I (p0x0.length : Int)), (7, I x)], []⟩) h ?_ ?_
  · exact ImpX.lq [] rfl rfl rfl
  · intro n2 z1 σ' J1 hmk h hJ1 hA1
    obtain rfl := hmk
    replace h : base_First_b1 p0x0 n2 = some z1 := h
    unfold base_First_b1 at h
    refine tSR <| ARun.qv (q_lss rfl rfl) rfl <| rN <| tS <| ATodo.cond_d rfl (fun hc => ?_) (fun hc => ?_)
    · refine have h := iteT hc h; tK <| tS <| ATodo.block <| tSR <| bndE h fun v3 e1 h => ARun.qv (t_index rfl rfl rfl e1 rfl rfl) rfl <| ARun.qv (q_load_rptr rfl rfl rfl) rfl <| rA rfl rfl <| rN <| tSR <| rM rfl rfl <| ARun.qv (q_neq rfl rfl) rfl <| rN <| ATodo.cond_d rfl (fun hc => ?_) (fun hc => ?_)
      · refine have h := iteT hc h; tSR <| rM rfl rfl <| rA rfl rfl <| rN <| ATodo.ret <| have h := outL h hA1; ?_
        obtain rfl := Option.some.inj h
        exact ImpX.here ⟨_, .cons (.tmp _ _ rfl) .nil, rfl⟩
      · refine have h := iteF hc h; tK <| ATodo.blk <| tR <| ARun.qv (q_addw rfl rfl) rfl <| rM rfl rfl <| rN <| ATodo.stop <| ?_
        obtain rfl := Option.some.inj h
        exact hJ1 _ _ rfl <| ImpX.lq [] rfl rfl rfl
    · refine have h := iteF hc h; ATodo.exit rfl <| have h := outL h hA1; tSR <| rA rfl rfl <| rN <| ATodo.ret <| ?_
      obtain rfl := Option.some.inj h
      exact ImpX.here ⟨_, .cons (.tmp _ _ rfl) .nil, rfl⟩

set_option maxHeartbeats 4000000 in
theorem command_ended_c [GI : GTab] {p0x0 : Int} {r : Bool} (h : command_ended p0x0 = r) : Pu Tryz.prog 92 [I p0x0] (.bool r) := by
  unfold command_ended at h
  refine ACall.bodyN Tryz.func92 rfl Tryz.ntmps92 Tryz.results92 rfl rfl ?_
  refine tSR <| rA rfl rfl <| rN <| tSR <| rM rfl rfl <| ARun.qv (q_geq rfl rfl) rfl <| rA rfl rfl <| rN <| ATodo.ret <| ?_
  obtain rfl := h
  exact ImpX.here ⟨_, .cons (.tmp _ _ rfl) .nil, rfl⟩

set_option maxHeartbeats 4000000 in
theorem command_Office_turn_c [GI : GTab] {b_0 : Bk} {b_0x4 : Bk} {p0x0 : Command_Office} {p1x0 : Note} {r : Int} (h : command_Office_turn p0x0 p1x0 = r) : ACall Tryz.prog 95 [.ptr b_0 0, .agg [.str p1x0.Letter.Id, .str p1x0.Letter.Slot, .str p1x0.Letter.Body, I p1x0.Letter.Prio, I p1x0.Letter.At, I p1x0.Letter.Until, I p1x0.State, I p1x0.Tries, I p1x0.Since]] [(b_0, .cells [I p0x0.post_.Room, I p0x0.post_.Timeout, I p0x0.post_.Tries, I p0x0.post_.Kept, .mref b_0x4, I p0x0.time_])] (T0 ([(b_0, .cells [I p0x0.post_.Room, I p0x0.post_.Timeout, I p0x0.post_.Tries, I p0x0.post_.Kept, .mref b_0x4, I p0x0.time_])]) (I r)) := by
  unfold command_Office_turn at h
  refine ACall.lessH ?_
  refine ACall.bodyN Tryz.func95 rfl Tryz.ntmps95 Tryz.results95 rfl rfl ?_
  refine tSR <| n_box rfl rfl rfl rfl fun b1 => rA rfl rfl <| rN <| tS <| tSR <| rF rfl rfl rfl <| rL rfl rfl .p0 rfl rfl <| ARun.qv (q_eql rfl rfl) rfl <| rN <| ATodo.cond_d rfl (fun hc => ?_) (fun hc => ?_)
  · refine have h := iteT hc h; tS <| ATodo.regionM (id := 2) (A := [0, 1, 3, 0, 8, 0, 32, 96, 224, 480, 1016, 2047, 4095]) 13 mixed rfl (by kernel_rfl) (by kernel_rfl) <| AM.qv (n_field_ptr rfl rfl) rfl <| AM.qv (n_field_ptr rfl rfl) rfl <| AM.qv (q_load_ptr rfl rfl .p0 rfl) rfl <| AM.qv (n_field_ptr rfl rfl) rfl <| AM.qv (q_load_ptr rfl rfl .p0 rfl) rfl <| AM.qv (q_move rfl) rfl <| AM.qv (q_nilCheck_ptr rfl) rfl <| AM.qv (n_field_ptr rfl rfl) rfl <| AM.qv (n_field_ptr rfl rfl) rfl <| AM.qv (q_load_ptr rfl rfl .p1 rfl) rfl <| AM.qv (q_addw rfl rfl) rfl <| AM.qv (q_min rfl rfl) rfl <| AM.qv (q_assign rfl) rfl <| AM.nil <| rN <| ATodo.ret <| ?_
    obtain rfl := h
    exact ImpX.here ⟨_, .cons (.tmp _ _ rfl) .nil, _, .cons .p1 .nil, ⟨rfl, rfl⟩⟩
  · refine have h := iteF hc h; tK <| tSR <| rF rfl rfl rfl <| rF rfl rfl rfl <| rL rfl rfl .p0 rfl rfl <| rA rfl rfl <| rN <| ATodo.ret <| ?_
    obtain rfl := h
    exact ImpX.here ⟨_, .cons (.tmp _ _ rfl) .nil, _, .cons .p1 .nil, ⟨rfl, rfl⟩⟩

set_option maxHeartbeats 4000000 in
theorem command_Office_grown_c [GI : GTab] {b_0 : Bk} {b_0x4 : Bk} {p0x0 : Command_Office} {p1x0 : Note} {p2x0 : Int} {r : Note} (h : command_Office_grown p0x0 p1x0 p2x0 = some r) : ACall Tryz.prog 97 [.ptr b_0 0, .agg [.str p1x0.Letter.Id, .str p1x0.Letter.Slot, .str p1x0.Letter.Body, I p1x0.Letter.Prio, I p1x0.Letter.At, I p1x0.Letter.Until, I p1x0.State, I p1x0.Tries, I p1x0.Since], I p2x0] [(b_0, .cells [I p0x0.post_.Room, I p0x0.post_.Timeout, I p0x0.post_.Tries, I p0x0.post_.Kept, .mref b_0x4, I p0x0.time_])] (T0 ([(b_0, .cells [I p0x0.post_.Room, I p0x0.post_.Timeout, I p0x0.post_.Tries, I p0x0.post_.Kept, .mref b_0x4, I p0x0.time_])]) (.agg [.str r.Letter.Id, .str r.Letter.Slot, .str r.Letter.Body, I r.Letter.Prio, I r.Letter.At, I r.Letter.Until, I r.State, I r.Tries, I r.Since])) := by
  unfold command_Office_grown at h
  refine ACall.lessH ?_
  refine ACall.bodyN Tryz.func97 rfl Tryz.ntmps97 Tryz.results97 rfl rfl ?_
  refine tSR <| n_box rfl rfl rfl rfl fun b1 => n_alloc rfl rfl rfl rfl fun b2 => rN <| tS <| ATodo.cut (fun σ' => ∃ (n3 : Int) (n4 : Int), command_Office_grown_j1 p1x0 n3 n4 = some r ∧ σ' = ⟨39, [(4, .ptr b1 0), (6, .ptr b2 0)], [(b_0, .cells [I p0x0.post_.Room, I p0x0.post_.Timeout, I p0x0.post_.Tries, I p0x0.post_.Kept, .mref b_0x4, I p0x0.time_]), (b1, .cells [.str p1x0.Letter.Id, .str p1x0.Letter.Slot, .str p1x0.Letter.Body, I p1x0.Letter.Prio, I p1x0.Letter.At, I p1x0.Letter.Until, I n3, I p1x0.Tries, I n4]), (b2, .cells [.str [], .str [], .str [], I (0 : Int), I (0 : Int), I (0 : Int), I (0 : Int), I (0 : Int), I (0 : Int)])]⟩) ?_ ?_
  · refine ATodo.block <| ATodo.loopI (fun x : Int × Int => command_Office_grown_b1 p0x0 p1x0 p2x0 x.1 x.2) (fun x σ' => σ' = ⟨39, [(0, .ptr b_0 0), (2, I p2x0), (4, .ptr b1 0), (6, .ptr b2 0)], [(b_0, .cells [I p0x0.post_.Room, I p0x0.post_.Timeout, I p0x0.post_.Tries, I p0x0.post_.Kept, .mref b_0x4, I p0x0.time_]), (b1, .cells [.str p1x0.Letter.Id, .str p1x0.Letter.Slot, .str p1x0.Letter.Body, I p1x0.Letter.Prio, I p1x0.Letter.At, I p1x0.Letter.Until, I x.1, I p1x0.Tries, I x.2]), (b2, .cells [.str [], .str [], .str [], I (0 : Int), I (0 : Int), I (0 : Int), I (0 : Int), I (0 : Int), I (0 : Int)])]⟩) h ?_ ?_
    · exact ImpX.lq [2, 1, 0] rfl rfl rfl
    · intro x z1 σ' J1 hmk h hJ1 hA1
      obtain ⟨n7, n8⟩ := x
      obtain rfl := hmk
      replace h : command_Office_grown_b1 p0x0 p1x0 p2x0 n7 n8 = some z1 := h
      unfold command_Office_grown_b1 at h
      refine tS <| tSR <| rF rfl rfl rfl <| rL rfl rfl .p1 rfl rfl <| r_callp rfl (command_ended_c rfl) (CoL.refl _) rfl <| ARun.qv (q_not rfl) rfl <| rN <| ATodo.cond rfl (fun hc => ?_) (fun hc => ?_)
      · refine have h := iteT hc h; tK <| ATodo.block <| tSR <| rM rfl rfl <| ARun.qv (q_load_ptr_all rfl rfl .p1 rfl) rfl <| t_call0 rfl (command_Office_turn_c (rfl : command_Office_turn p0x0 (⟨p1x0.Letter, n7, p1x0.Tries, n8⟩ : Note) = _)) (CoL.refl _) (.cons .p0 .nil) rfl rfl <| rA rfl rfl <| rN <| tS <| tSR <| rM rfl rfl <| rM rfl rfl <| ARun.qv (q_gtr rfl rfl) rfl <| rN <| ATodo.cond_d rfl (fun hc => ?_) (fun hc => ?_)
        · exact have h := iteT hc h; ATodo.exit rfl <| have h := outL h hA1; ATodo.stop <| ImpX.lq [0, 0, 0] ⟨n7, n8, h, rfl⟩ rfl rfl
        · refine have h := iteF hc h; tK <| tSR <| rM rfl rfl <| rF rfl rfl rfl <| n_store_ptr rfl rfl rfl rfl .p1 rfl rfl <| rN <| ATodo.block <| tSR <| rM rfl rfl <| rF rfl rfl rfl <| rF rfl rfl rfl <| rL rfl rfl .p1 rfl rfl <| ARun.qv (q_eql rfl rfl) rfl <| rA rfl rfl <| rN <| ATodo.cut (fun σ' => ∃ (n9 : Int), command_Office_grown_j2 p0x0 p1x0 n7 n8 n9 = some z1 ∧ σ' = ⟨39, [(0, .ptr b_0 0), (2, I p2x0), (4, .ptr b1 0), (6, .ptr b2 0)], [(b_0, .cells [I p0x0.post_.Room, I p0x0.post_.Timeout, I p0x0.post_.Tries, I p0x0.post_.Kept, .mref b_0x4, I p0x0.time_]), (b1, .cells [.str p1x0.Letter.Id, .str p1x0.Letter.Slot, .str p1x0.Letter.Body, I p1x0.Letter.Prio, I p1x0.Letter.At, I p1x0.Letter.Until, I n9, I p1x0.Tries, I (command_Office_turn p0x0 (⟨p1x0.Letter, n7, p1x0.Tries, n8⟩ : Note))]), (b2, .cells [.str [], .str [], .str [], I (0 : Int), I (0 : Int), I (0 : Int), I (0 : Int), I (0 : Int), I (0 : Int)])]⟩) ?_ ?_
          · refine ATodo.cond_d rfl (fun hc => ?_) (fun hc => ?_)
            · exact have h := iteT hc h; tR <| rF rfl rfl rfl <| n_store_ptr rfl rfl rfl rfl .p1 rfl rfl <| rN <| ATodo.stop <| ImpX.lq [0, 0, 0] ⟨(5 : Int), h, rfl⟩ rfl rfl
            · refine have h := iteF hc h; tS <| ATodo.regionM (id := 8) (A := [0, 1, 0, 4, 12, 28, 60, 127, 255]) 9 mixed rfl (by kernel_rfl) (by kernel_rfl) <| AM.qv (n_field_ptr rfl rfl) rfl <| AM.qv (q_load_ptr rfl rfl .p1 rfl) rfl <| AM.qv (q_move rfl) rfl <| AM.qv (q_nilCheck_ptr rfl) rfl <| AM.qv (n_field_ptr rfl rfl) rfl <| AM.qv (n_field_ptr rfl rfl) rfl <| AM.qv (q_load_ptr rfl rfl .p0 rfl) rfl <| AM.qv (q_eql rfl rfl) rfl <| AM.qv (q_assign rfl) rfl <| AM.nil <| rN <| ATodo.cut (fun σ' => ∃ (n10 : Int), command_Office_grown_j3 p0x0 p1x0 n7 n8 n10 = some z1 ∧ σ' = ⟨39, [(0, .ptr b_0 0), (2, I p2x0), (4, .ptr b1 0), (6, .ptr b2 0)], [(b_0, .cells [I p0x0.post_.Room, I p0x0.post_.Timeout, I p0x0.post_.Tries, I p0x0.post_.Kept, .mref b_0x4, I p0x0.time_]), (b1, .cells [.str p1x0.Letter.Id, .str p1x0.Letter.Slot, .str p1x0.Letter.Body, I p1x0.Letter.Prio, I p1x0.Letter.At, I p1x0.Letter.Until, I n10, I p1x0.Tries, I (command_Office_turn p0x0 (⟨p1x0.Letter, n7, p1x0.Tries, n8⟩ : Note))]), (b2, .cells [.str [], .str [], .str [], I (0 : Int), I (0 : Int), I (0 : Int), I (0 : Int), I (0 : Int), I (0 : Int)])]⟩) ?_ ?_
              · refine ATodo.cond_d rfl (fun hc => ?_) (fun hc => ?_)
                · exact have h := iteT hc h; tR <| rF rfl rfl rfl <| n_store_ptr rfl rfl rfl rfl .p1 rfl rfl <| rN <| ATodo.stop <| ImpX.lq [0, 0, 0] ⟨(7 : Int), h, rfl⟩ rfl rfl
                · exact have h := iteF hc h; tR <| rF rfl rfl rfl <| n_store_ptr rfl rfl rfl rfl .p1 rfl rfl <| rN <| ATodo.stop <| ImpX.lq [0, 0, 0] ⟨(1 : Int), h, rfl⟩ rfl rfl
              · rintro σ' ⟨n10, h, rfl⟩
                unfold command_Office_grown_j3 at h
                exact ATodo.stop <| ImpX.lq [0, 0, 0] ⟨n10, h, rfl⟩ rfl rfl
          · rintro σ' ⟨n9, h, rfl⟩
            unfold command_Office_grown_j2 at h
            refine ATodo.blk <| ATodo.blk <| ATodo.stop <| ?_
            obtain rfl := Option.some.inj h
            exact hJ1 _ _ rfl <| ImpX.lq [0, 0, 0] rfl rfl rfl
      · exact have h := iteFb hc h; ATodo.exit rfl <| have h := outL h hA1; ATodo.stop <| ImpX.lq [0, 0, 0] ⟨n7, n8, h, rfl⟩ rfl rfl
  · rintro σ' ⟨n3, n4, h, rfl⟩
    unfold command_Office_grown_j1 at h
    refine tSR <| ARun.qv (q_load_ptr_all rfl rfl .p1 rfl) rfl <| n_store_ptr rfl rfl rfl rfl .p2 rfl rfl <| rN <| ATodo.ret <| ?_
    obtain rfl := Option.some.inj h
    exact ImpX.here ⟨_, .cons (.all _ _ _ _ _ _ rfl .p2 TUnder.h TInfo.h rfl rfl) .nil, _, .cons .p0 .nil, ⟨rfl, rfl⟩⟩

set_option maxHeartbeats 4000000 in
theorem cmp_isNaN_int_c [GI : GTab] {p0x0 : Int} {r : Bool} (h : cmp_isNaN_int p0x0 = r) : Pu Tryz.prog 117 [I p0x0] (.bool r) := by
  unfold cmp_isNaN_int at h
  refine ACall.bodyN Tryz.func117 rfl Tryz.ntmps117 Tryz.results117 rfl rfl ?_
  refine tSR <| rA rfl rfl <| rN <| tSR <| rM rfl rfl <| rM rfl rfl <| ARun.qv (q_neq rfl rfl) rfl <| rA rfl rfl <| rN <| ATodo.ret <| ?_
  obtain rfl := h
  exact ImpX.here ⟨_, .cons (.tmp _ _ rfl) .nil, rfl⟩

set_option maxHeartbeats 4000000 in
theorem cmp_Compare_int_c [GI : GTab] {p0x0 : Int} {p1x0 : Int} {r : Int} (h : cmp_Compare_int p0x0 p1x0 = r) : Pu Tryz.prog 100 [I p0x0, I p1x0] (I r) := by
  unfold cmp_Compare_int at h
  refine ACall.bodyN Tryz.func100 rfl Tryz.ntmps100 Tryz.results100 rfl rfl ?_
  refine tSR <| rA rfl rfl <| rN <| tSR <| rM rfl rfl <| r_callp rfl (cmp_isNaN_int_c rfl) (CoL.refl _) rfl <| rA rfl rfl <| rN <| tSR <| rM rfl rfl <| r_callp rfl (cmp_isNaN_int_c rfl) (CoL.refl _) rfl <| rA rfl rfl <| rN <| tS <| tSR <| rM rfl rfl <| rN <| ATodo.cond rfl (fun hc => ?_) (fun hc => ?_)
  · refine have h := iteT hc h; tS <| tSR <| rM rfl rfl <| rN <| ATodo.cond rfl (fun hc => ?_) (fun hc => ?_)
    · refine have h := iteT hc h; tSR <| rA rfl rfl <| rN <| ATodo.ret <| ?_
      obtain rfl := h
      exact ImpX.here ⟨_, .cons (.tmp _ _ rfl) .nil, rfl⟩
    · refine have h := iteFb hc h; tK <| tSR <| rA rfl rfl <| rN <| ATodo.ret <| ?_
      obtain rfl := h
      exact ImpX.here ⟨_, .cons (.tmp _ _ rfl) .nil, rfl⟩
  · refine have h := iteFb hc h; tK <| tS <| tSR <| rM rfl rfl <| rN <| ATodo.cond rfl (fun hc => ?_) (fun hc => ?_)
    · refine have h := iteT hc h; tSR <| rA rfl rfl <| rN <| ATodo.ret <| ?_
      obtain rfl := h
      exact ImpX.here ⟨_, .cons (.tmp _ _ rfl) .nil, rfl⟩
    · refine have h := iteFb hc h; tK <| tS <| tSR <| rM rfl rfl <| rM rfl rfl <| ARun.qv (q_lss rfl rfl) rfl <| rN <| ATodo.cond_d rfl (fun hc => ?_) (fun hc => ?_)
      · refine have h := iteT hc h; tSR <| rA rfl rfl <| rN <| ATodo.ret <| ?_
        obtain rfl := h
        exact ImpX.here ⟨_, .cons (.tmp _ _ rfl) .nil, rfl⟩
      · refine have h := iteF hc h; tK <| tS <| tSR <| rM rfl rfl <| rM rfl rfl <| ARun.qv (q_gtr rfl rfl) rfl <| rN <| ATodo.cond_d rfl (fun hc => ?_) (fun hc => ?_)
        · refine have h := iteT hc h; tSR <| rA rfl rfl <| rN <| ATodo.ret <| ?_
          obtain rfl := h
          exact ImpX.here ⟨_, .cons (.tmp _ _ rfl) .nil, rfl⟩
        · refine have h := iteF hc h; tK <| tSR <| rA rfl rfl <| rN <| ATodo.ret <| ?_
          obtain rfl := h
          exact ImpX.here ⟨_, .cons (.tmp _ _ rfl) .nil, rfl⟩

set_option maxHeartbeats 4000000 in
theorem cmp_Or_int_c [GI : GTab] {p0x0 : List Int} {r : Int} (h : cmp_Or_int p0x0 = some r) : Pu Tryz.prog 99 [.list 1 (p0x0.map I)] (I r) := by
  unfold cmp_Or_int at h
  refine ACall.bodyN Tryz.func99 rfl Tryz.ntmps99 Tryz.results99 rfl rfl ?_
  refine tSR <| rA rfl rfl <| rN <| tSR <| rA rfl rfl <| rN <| tS <| tSR <| rM rfl rfl <| ARun.qv (t_len rfl) rfl <| rM rfl rfl <| rN <| ATodo.block <| ATodo.loopI (fun x : Int => cmp_Or_int_b1 p0x0 x) (fun x σ' => σ' = ⟨18, [(3, I (0 : Int)), (6, .list 1 (p0x0.map I)), (7, I (p0x0.length : Int)), (8, I x)], []⟩) h ?_ ?_
  · exact ImpX.lq [] rfl rfl rfl
  · intro n2 z1 σ' J1 hmk h hJ1 hA1
    obtain rfl := hmk
    replace h : cmp_Or_int_b1 p0x0 n2 = some z1 := h
    unfold cmp_Or_int_b1 at h
    refine tSR <| ARun.qv (q_lss rfl rfl) rfl <| rN <| tS <| ATodo.cond_d rfl (fun hc => ?_) (fun hc => ?_)
    · refine have h := iteT hc h; tK <| tS <| ATodo.block <| tSR <| bndE h fun v3 e1 h => ARun.qv (t_index rfl rfl rfl e1 rfl rfl) rfl <| ARun.qv (q_load_rptr rfl rfl rfl) rfl <| rA rfl rfl <| rN <| tSR <| rM rfl rfl <| rM rfl rfl <| ARun.qv (q_neq rfl rfl) rfl <| rN <| ATodo.cond_d rfl (fun hc => ?_) (fun hc => ?_)
      · refine have h := iteT hc h; tSR <| rM rfl rfl <| rA rfl rfl <| rN <| ATodo.ret <| have h := outL h hA1; ?_
        obtain rfl := Option.some.inj h
        exact ImpX.here ⟨_, .cons (.tmp _ _ rfl) .nil, rfl⟩
      · refine have h := iteF hc h; tK <| ATodo.blk <| tR <| ARun.qv (q_addw rfl rfl) rfl <| rM rfl rfl <| rN <| ATodo.stop <| ?_
        obtain rfl := Option.some.inj h
        exact hJ1 _ _ rfl <| ImpX.lq [] rfl rfl rfl
    · refine have h := iteF hc h; ATodo.exit rfl <| have h := outL h hA1; tSR <| rM rfl rfl <| rA rfl rfl <| rN <| ATodo.ret <| ?_
      obtain rfl := Option.some.inj h
      exact ImpX.here ⟨_, .cons (.tmp _ _ rfl) .nil, rfl⟩

set_option maxHeartbeats 4000000 in
theorem command_Office_aged_1x_c [GI : GTab] {p0x0 : Note} {p1x0 : Note} {r : Int} (h : command_Office_aged_1x p0x0 p1x0 = some r) : Pu Tryz.prog 98 [.agg [.str p0x0.Letter.Id, .str p0x0.Letter.Slot, .str p0x0.Letter.Body, I p0x0.Letter.Prio, I p0x0.Letter.At, I p0x0.Letter.Until, I p0x0.State, I p0x0.Tries, I p0x0.Since], .agg [.str p1x0.Letter.Id, .str p1x0.Letter.Slot, .str p1x0.Letter.Body, I p1x0.Letter.Prio, I p1x0.Letter.At, I p1x0.Letter.Until, I p1x0.State, I p1x0.Tries, I p1x0.Since]] (I r) := by
  unfold command_Office_aged_1x at h
  refine ACall.bodyN Tryz.func98 rfl Tryz.ntmps98 Tryz.results98 rfl rfl ?_
  refine tSR <| n_box rfl rfl rfl rfl fun b1 => n_box rfl rfl rfl rfl fun b2 => rA rfl rfl <| rN <| tS <| ATodo.regionM (id := 1) (A := [0, 1, 0, 4, 15, 0, 32, 96, 0, 256, 768, 2047, 4095, 8191, 16383]) 15 mixed rfl (by kernel_rfl) (by kernel_rfl) <| AM.qv (n_field_ptr rfl rfl) rfl <| AM.qv (q_load_ptr rfl rfl .p1 rfl) rfl <| AM.qv (n_field_ptr rfl rfl) rfl <| AM.qv (q_load_ptr rfl rfl .p0 rfl) rfl <| AM.callp rfl (cmp_Compare_int_c rfl) (CoL.refl _) rfl <| AM.qv (n_field_ptr rfl rfl) rfl <| AM.qv (n_field_ptr rfl rfl) rfl <| AM.qv (q_load_ptr rfl rfl .p1 rfl) rfl <| AM.qv (n_field_ptr rfl rfl) rfl <| AM.qv (n_field_ptr rfl rfl) rfl <| AM.qv (q_load_ptr rfl rfl .p0 rfl) rfl <| AM.callp rfl (strings_Compare_c rfl) (CoL.refl _) rfl <| AM.buildSliceL (xs := ([(cmp_Compare_int p0x0.Since p1x0.Since), (Lib.compareBytes p0x0.Letter.Id p1x0.Letter.Id)] : List Int).map I) rfl rfl rfl rfl rfl rfl <| bndE h fun v3 e1 h => AM.callp rfl (cmp_Or_int_c e1) (CoL.refl _) rfl <| AM.qv (q_assign rfl) rfl <| AM.nil <| rN <| ATodo.ret <| ?_
  obtain rfl := Option.some.inj h
  exact ImpX.here ⟨_, .cons (.tmp _ _ rfl) .nil, rfl⟩

set_option maxHeartbeats 4000000 in
theorem slices_SortFunc_Note_Note_k : SortK Tryz.prog 63 9 := ⟨fun enc hk h1 cf hO g cb blk off cap d w eg hc hH hb hs => AnyQ.slices_SortFunc_eq Tryz.sortF63 9 Tryz.isAgg65 Tryz.sizeOf65 enc hk h1 cf hO g cb blk off cap d w eg hc hH hb hs, fun p cap fv w => AnyF.slices_SortFunc_none Tryz.sortF63 p cap fv w⟩
theorem slices_SortFunc_Note_Note_c [GI : GTab] {b_0 : Bk} {p0x0 : List Note} {fnb : Note → Note → Option Int} {fnb_F : FuncId} [IsFn Tryz.prog fnb_F] {fnb_C : List AV} (fnb_h : ∀ {y0 y1 : _} {u : Int}, fnb y0 y1 = some u → @Pu strongT Tryz.prog fnb_F (Note.av y0 :: Note.av y1 :: fnb_C) (I u)) {r : (List Note)} (h : slices_SortFunc_Note_Note p0x0 fnb = some r) : ACall Tryz.prog 63 [.sl 9 b_0 0 p0x0.length, .func (.func fnb_F) fnb_C] [(b_0, .arr 9 (p0x0.map Note.av))] (T0 [(b_0, .arr 9 (r.map Note.av))] (.tup [])) :=
  sort_acall (fn := fnb) slices_SortFunc_Note_Note_k rfl @fnb_h (fun _ => rfl) h

set_option maxHeartbeats 4000000 in
theorem command_Office_aged_c [GI : GTab] {b_0 : Bk} {b_0x4 : Bk} {p0x0 : Command_Office} {p1x0 : Int} {r : (List (Str × Note))} (h : command_Office_aged p0x0 p1x0 = some r) : ACall Tryz.prog 62 [.ptr b_0 0, I p1x0] [(b_0, .cells [I p0x0.post_.Room, I p0x0.post_.Timeout, I p0x0.post_.Tries, I p0x0.post_.Kept, .mref b_0x4, I p0x0.time_]), (b_0x4, .mp (p0x0.notes_.map (fun e => (AV.str e.1, Note.av e.2))))] (T1 (fun d_0 => [(b_0, .cells [I p0x0.post_.Room, I p0x0.post_.Timeout, I p0x0.post_.Tries, I p0x0.post_.Kept, .mref b_0x4, I p0x0.time_]), (b_0x4, .mp (p0x0.notes_.map (fun e => (AV.str e.1, Note.av e.2)))), (d_0, .mp (r.map (fun e => (AV.str e.1, Note.av e.2))))]) (fun d_0 => .mref d_0)) := by
  unfold command_Office_aged at h
  refine ACall.lessH ?_
  refine ACall.bodyN Tryz.func62 rfl Tryz.ntmps62 Tryz.results62 rfl rfl ?_
  refine tSR <| rA rfl rfl <| rN <| tSR <| t_makeMap rfl fun b1 => rA rfl rfl <| rN <| tSR <| rA rfl rfl <| rN <| tS <| tSR <| rM rfl rfl <| ARun.qv (q_nilCheck_ptr rfl) rfl <| rF rfl rfl rfl <| rL rfl rfl .p1 rfl rfl <| t_range (M := p0x0.notes_) (enc := (fun e => (AV.str e.1, Note.av e.2))) rfl (fun _ _ => .p2) rfl fun b2 Le1 ce1 hLe1 hIe1 => rN <| ATodo.block <| ATodo.loopMap (fun e (x : (List (Str × Note)) × (List Note)) => command_Office_aged_b1 p0x0 p1x0 e x.1 x.2) (fun x : (List (Str × Note)) × (List Note) => command_Office_aged_f1 p0x0 x.1 x.2) (fun R x σ' => ∃ (b7 : Bk) (s1m : List Nat), MIter Le1 ce1 s1m (R.map (fun e => (AV.str e.1, Note.av e.2))) ∧ σ' = ⟨60, [(0, .ptr b_0 0), (1, I p1x0), (5, .mref b1), (6, .sl 9 b7 0 x.2.length), (16, .ptr b2 0)], [(b_0, .cells [I p0x0.post_.Room, I p0x0.post_.Timeout, I p0x0.post_.Tries, I p0x0.post_.Kept, .mref b_0x4, I p0x0.time_]), (b_0x4, .mpb Le1 ce1), (b2, .mit b_0x4 ce1 s1m), (b1, .mp (x.1.map (fun e => (AV.str e.1, Note.av e.2)))), (b7, .arr 9 (x.2.map Note.av))]⟩) h ?_ ?_
  · exact ImpX.arr (s := 6) 9 rfl fun b9 => ImpX.lq [3, 3, 1, 1, 0] ⟨b9, [], hIe1, rfl⟩ rfl rfl
  · intro R1 x σ' J1 hmk hH1 hK1
    obtain ⟨l6, l8⟩ := x
    obtain ⟨b7, s1m, hI1m, rfl⟩ := hmk
    refine tSR <| t_next rfl hI1m .p1 (fun _ => .p2) rfl (fun hN => ?_) (fun v1m R' sv1m hP hlen hIv1m hCv1m => ?_)
    · have h := nilL hH1 hN
      replace h : command_Office_aged_f1 p0x0 l6 l8 = _ := h
      unfold command_Office_aged_f1 at h
      refine ARun.ghost <| ImpX.mpDone hLe1 .p1 <| ImpX.here <| rX rfl rfl rfl <| rN <| tS <| ATodo.cond_f rfl <| ATodo.exit rfl <| tSR <| rM rfl rfl <| bndE h fun v10 e2 h => t_call0 rfl (slices_SortFunc_Note_Note_c (fun e => command_Office_aged_1x_c (GI := strongT) e) (lenOk_f e2)) (CoL.refl _) (.cons .p4 .nil) rfl rfl <| ARun.ghost <| ImpX.eqs (s := 6) (av' := .sl 9 b7 0 v10.length) rfl (congrArg (AV.sl 9 b7 0) (lenOk_l e2)) <| ImpX.here <| ARun.ghost <| ImpX.eqs (s := 36) (av' := .sl 9 b7 0 v10.length) rfl (congrArg (AV.sl 9 b7 0) (lenOk_l e2)) <| ImpX.here <| rN <| tS <| tSR <| rM rfl rfl <| rM rfl rfl <| ARun.qv (t_len_sl rfl) rfl <| rM rfl rfl <| ARun.qv (q_nilCheck_ptr rfl) rfl <| rF rfl rfl rfl <| rF rfl rfl rfl <| rL rfl rfl .p1 rfl rfl <| ARun.qv (q_subw rfl rfl) rfl <| ARun.qv (q_max rfl rfl) rfl <| bndE h fun l11 e3 h => ARun.qv (t_slice_sl rfl rfl .none (.some _ _ _ rfl) rfl rfl e3) rfl <| ARun.qv (t_len_sub rfl) rfl <| rM rfl rfl <| rN <| ATodo.block <| ATodo.loopI (fun x : (List (Str × Note)) × Int => command_Office_aged_b2 v10 l11 x.1 x.2) (fun x σ' => σ' = ⟨60, [(5, .mref b1), (48, .sl 9 b7 0 l11.length), (49, I (l11.length : Int)), (50, I x.2)], [(b_0, .cells [I p0x0.post_.Room, I p0x0.post_.Timeout, I p0x0.post_.Tries, I p0x0.post_.Kept, .mref b_0x4, I p0x0.time_]), (b_0x4, .mp (p0x0.notes_.map (fun e => (AV.str e.1, Note.av e.2)))), (b1, .mp (x.1.map (fun e => (AV.str e.1, Note.av e.2)))), (b7, .arr 9 (v10.map Note.av))]⟩) h ?_ ?_
      · exact ImpX.lq [1, 1, 2, 0] rfl rfl rfl
      · intro x z2 σ' J2 hmk h hJ2 hA2
        obtain ⟨l14, n15⟩ := x
        obtain rfl := hmk
        replace h : command_Office_aged_b2 v10 l11 l14 n15 = some z2 := h
        unfold command_Office_aged_b2 at h
        refine tSR <| ARun.qv (q_lss rfl rfl) rfl <| rN <| tS <| ATodo.cond_d rfl (fun hc => ?_) (fun hc => ?_)
        · refine have h := iteT hc h; tK <| tS <| ATodo.block <| tSR <| bndE h fun v16 e4 h => ARun.qv (t_index_sub (L := (0 : Int)) rfl rfl rfl e4) rfl <| ARun.qv (t_load_aptr_agg (g := Note.av) rfl rfl (.inl .p3) rfl (idxS_some e4).2 rfl) rfl <| n_alloc rfl rfl rfl rfl fun b17 => n_store_ptr rfl rfl rfl rfl .p0 rfl rfl <| rN <| tR <| rM rfl rfl <| rF rfl rfl rfl <| rF rfl rfl rfl <| rL rfl rfl .p0 rfl rfl <| t_delete (gk := AV.str) (gv := Note.av) (M := l14) (key := v16.Letter.Id) rfl rfl .p3 <| rN <| ATodo.blk <| tR <| ARun.qv (q_addw rfl rfl) rfl <| rM rfl rfl <| rN <| ATodo.stop <| ?_
          obtain rfl := Option.some.inj h
          exact hJ2 _ _ rfl <| ImpX.lq [1, 1, 1, 1] rfl rfl rfl
        · refine have h := iteF hc h; ATodo.exit rfl <| have h := outL h hA2; tSR <| rM rfl rfl <| rA rfl rfl <| rN <| ATodo.ret <| ?_
          obtain rfl := Option.some.inj h
          exact ImpX.here ⟨_, .cons (.tmp _ _ rfl) .nil, _, .cons .p0 (.cons .p0 (.cons .p0 .nil)), ⟨b1, rfl, rfl⟩⟩
    · obtain ⟨z1, h, hN1, hA1⟩ := stepL hH1 hP
      replace h : command_Office_aged_b1 p0x0 p1x0 v1m l6 l8 = some z1 := h
      unfold command_Office_aged_b1 at h
      have hJ1 := fun y σ' (e : z1 = .inl y) hi => hK1 R' y σ' hlen (hN1 y e) hi
      clear hN1 hP hK1 hH1
      refine rX rfl rfl rfl <| rN <| tS <| ATodo.cond_t rfl <| tK <| ATodo.block <| tSR <| ARun.qv (t_entry rfl .p2 .p1 hCv1m rfl rfl) rfl <| rX rfl rfl rfl <| rX rfl rfl rfl <| n_alloc rfl rfl rfl rfl fun b18 => rA rfl rfl <| n_store_ptr rfl rfl rfl rfl .p0 rfl rfl <| rN <| tSR <| rM rfl rfl <| ARun.qv (q_load_ptr_all rfl rfl .p0 rfl) rfl <| rM rfl rfl <| bndE h fun v19 e5 h => t_call0 rfl (command_Office_grown_c e5) (CoL.refl _) (.cons .p1 .nil) rfl rfl <| n_store_ptr rfl rfl rfl rfl .p1 rfl rfl <| rN <| tSR <| rM rfl rfl <| rM rfl rfl <| ARun.qv (q_load_ptr_all rfl rfl .p1 rfl) rfl <| t_mapUpdate (gk := AV.str) (gv := Note.av) (M := l6) (key := v1m.1) (v := v19) rfl rfl rfl rfl .p4 <| rN <| tSR <| rF rfl rfl rfl <| rL rfl rfl .p1 rfl rfl <| r_callp rfl (command_ended_c rfl) (CoL.refl _) rfl <| rN <| ATodo.cut (fun σ' => ∃ (b20 : Bk) (l21 : List Note), command_Office_aged_j1 l6 v1m v19 l21 = some z1 ∧ σ' = ⟨60, [(0, .ptr b_0 0), (1, I p1x0), (5, .mref b1), (6, .sl 9 b20 0 l21.length), (16, .ptr b2 0)], [(b_0, .cells [I p0x0.post_.Room, I p0x0.post_.Timeout, I p0x0.post_.Tries, I p0x0.post_.Kept, .mref b_0x4, I p0x0.time_]), (b_0x4, .mpb Le1 ce1), (b1, .mp ((mset l6 v1m.1 v19).map (fun e => (AV.str e.1, Note.av e.2)))), (b20, .arr 9 (l21.map Note.av)), (b2, .mit b_0x4 ce1 sv1m)]⟩) ?_ ?_
      · refine ATodo.cond rfl (fun hc => ?_) (fun hc => ?_)
        · exact have h := iteT hc h; tR <| rM rfl rfl <| ARun.qv (q_load_ptr_all rfl rfl .p1 rfl) rfl <| n_buildSliceL (xs := ([v19] : List Note).map Note.av) rfl rfl rfl rfl rfl rfl <| bndE h fun l22 e6 h => t_append (g := Note.av) rfl rfl rfl rfl rfl rfl rfl rfl (.list _) e6 (fun _ => .p5) rfl fun b23 => rA rfl rfl <| rN <| ATodo.stop <| ImpX.lq [0, 1, 2, 2, 1] ⟨b23, l22, h, rfl⟩ rfl rfl
        · exact have h := iteFb hc h; tK <| ATodo.stop <| ImpX.lq [0, 1, 2, 2, 1] ⟨b7, l8, h, rfl⟩ rfl rfl
      · rintro σ' ⟨b20, l21, h, rfl⟩
        unfold command_Office_aged_j1 at h
        refine ATodo.blk <| ATodo.stop <| ?_
        obtain rfl := Option.some.inj h
        exact hJ1 _ _ rfl <| ImpX.lq [0, 0, 2, 0, 0] ⟨b20, sv1m, hIv1m, rfl⟩ rfl rfl

set_option maxHeartbeats 4000000 in
theorem command_pending_c [GI : GTab] {b_0 : Bk} {p0x0 : List (Str × Note)} {r : Int} (h : command_pending p0x0 = some r) : ACall Tryz.prog 70 [.mref b_0] [(b_0, .mp (p0x0.map (fun e => (AV.str e.1, Note.av e.2))))] (T0 ([(b_0, .mp (p0x0.map (fun e => (AV.str e.1, Note.av e.2))))]) (I r)) := by
  unfold command_pending at h
  refine ACall.lessH ?_
  refine ACall.bodyN Tryz.func70 rfl Tryz.ntmps70 Tryz.results70 rfl rfl ?_
  refine tSR <| rA rfl rfl <| rN <| tSR <| rA rfl rfl <| rN <| tS <| tSR <| rM rfl rfl <| t_range (M := p0x0) (enc := (fun e => (AV.str e.1, Note.av e.2))) rfl (fun _ _ => .p0) rfl fun b1 Le1 ce1 hLe1 hIe1 => rN <| ATodo.block <| ATodo.loopMap (fun e (x : Int) => command_pending_b1 e x) (fun x : Int => command_pending_f1 x) (fun R x σ' => ∃ (s1m : List Nat), MIter Le1 ce1 s1m (R.map (fun e => (AV.str e.1, Note.av e.2))) ∧ σ' = ⟨19, [(3, I x), (7, .ptr b1 0)], [(b_0, .mpb Le1 ce1), (b1, .mit b_0 ce1 s1m)]⟩) h ?_ ?_
  · exact ImpX.lq [1, 0] ⟨[], hIe1, rfl⟩ rfl rfl
  · intro R1 n3 σ' J1 hmk hH1 hK1
    obtain ⟨s1m, hI1m, rfl⟩ := hmk
    refine tSR <| t_next rfl hI1m .p0 (fun _ => .p1) rfl (fun hN => ?_) (fun v1m R' sv1m hP hlen hIv1m hCv1m => ?_)
    · have h := nilL hH1 hN
      replace h : command_pending_f1 n3 = _ := h
      unfold command_pending_f1 at h
      refine ARun.ghost <| ImpX.mpDone hLe1 .p0 <| ImpX.here <| rX rfl rfl rfl <| rN <| tS <| ATodo.cond_f rfl <| ATodo.exit rfl <| tSR <| rM rfl rfl <| rA rfl rfl <| rN <| ATodo.ret <| ?_
      obtain rfl := Option.some.inj h
      exact ImpX.here ⟨_, .cons (.tmp _ _ rfl) .nil, _, .cons .p0 .nil, ⟨rfl, rfl⟩⟩
    · obtain ⟨z1, h, hN1, hA1⟩ := stepL hH1 hP
      replace h : command_pending_b1 v1m n3 = some z1 := h
      unfold command_pending_b1 at h
      have hJ1 := fun y σ' (e : z1 = .inl y) hi => hK1 R' y σ' hlen (hN1 y e) hi
      clear hN1 hP hK1 hH1
      refine rX rfl rfl rfl <| rN <| tS <| ATodo.cond_t rfl <| tK <| ATodo.block <| tSR <| ARun.qv (t_entry rfl .p1 .p0 hCv1m rfl rfl) rfl <| rX rfl rfl rfl <| n_alloc rfl rfl rfl rfl fun b4 => n_store_ptr rfl rfl rfl rfl .p0 rfl rfl <| rN <| tSR <| rF rfl rfl rfl <| rL rfl rfl .p0 rfl rfl <| r_callp rfl (command_ended_c rfl) (CoL.refl _) rfl <| ARun.qv (q_not rfl) rfl <| rN <| ATodo.cut (fun σ' => ∃ (n5 : Int), command_pending_j1 n5 = some z1 ∧ σ' = ⟨19, [(3, I n5), (7, .ptr b1 0)], [(b_0, .mpb Le1 ce1), (b1, .mit b_0 ce1 sv1m)]⟩) ?_ ?_
      · refine ATodo.cond rfl (fun hc => ?_) (fun hc => ?_)
        · exact have h := iteT hc h; tR <| rM rfl rfl <| ARun.qv (q_addw rfl rfl) rfl <| rA rfl rfl <| rN <| ATodo.stop <| ImpX.lq [1, 1] ⟨w64 (n3 + (1 : Int)), h, rfl⟩ rfl rfl
        · exact have h := iteFb hc h; tK <| ATodo.stop <| ImpX.lq [1, 1] ⟨n3, h, rfl⟩ rfl rfl
      · rintro σ' ⟨n5, h, rfl⟩
        unfold command_pending_j1 at h
        refine ATodo.blk <| ATodo.stop <| ?_
        obtain rfl := Option.some.inj h
        exact hJ1 _ _ rfl <| ImpX.lq [0, 0] ⟨sv1m, hIv1m, rfl⟩ rfl rfl

set_option maxHeartbeats 4000000 in
theorem command_Office_keep_c [GI : GTab] {b_0 : Bk} {b_0x4 : Bk} {b_1 : Bk} {p0x0 : Command_Office} {p1x0 : List (Str × Note)} {p2x0 : Int} {r : Command_Office} (h : command_Office_keep p0x0 p1x0 p2x0 = r) : ACall Tryz.prog 61 [.ptr b_0 0, .mref b_1, I p2x0] [(b_0, .cells [I p0x0.post_.Room, I p0x0.post_.Timeout, I p0x0.post_.Tries, I p0x0.post_.Kept, .mref b_0x4, I p0x0.time_]), (b_0x4, .mp (p0x0.notes_.map (fun e => (AV.str e.1, Note.av e.2)))), (b_1, .mp (p1x0.map (fun e => (AV.str e.1, Note.av e.2))))] (T1 (fun c_0x4 => [(b_0, .cells [I r.post_.Room, I r.post_.Timeout, I r.post_.Tries, I r.post_.Kept, .mref c_0x4, I r.time_]), (c_0x4, .mp (r.notes_.map (fun e => (AV.str e.1, Note.av e.2))))]) (fun c_0x4 => .tup [])) := by
  unfold command_Office_keep at h
  refine ACall.lessH ?_
  refine ACall.bodyN Tryz.func61 rfl Tryz.ntmps61 Tryz.results61 rfl rfl ?_
  refine tR <| rM rfl rfl <| rM rfl rfl <| rM rfl rfl <| rM rfl rfl <| ARun.qv (q_nilCheck_ptr rfl) rfl <| rF rfl rfl rfl <| n_store_ptr rfl rfl rfl rfl .p0 rfl rfl <| ARun.qv (q_nilCheck_ptr rfl) rfl <| rF rfl rfl rfl <| n_store_ptr rfl rfl rfl rfl .p0 rfl rfl <| rN <| ATodo.nil <| ?_
  obtain rfl := h
  exact ImpX.here ⟨_, .nil, _, .cons .p0 (.cons .p1 .nil), ⟨b_1, rfl, rfl⟩⟩

set_option maxHeartbeats 4000000 in
theorem command_Office_Put_c {b_0 : Bk} {b_0x4 : Bk} {p0x0 : Command_Office} {p1x0 : Letter} {r : Int × Command_Office} (h : command_Office_Put p0x0 p1x0 = some r) : ACall Tryz.prog 27 [.ptr b_0 0, .agg [.str p1x0.Id, .str p1x0.Slot, .str p1x0.Body, I p1x0.Prio, I p1x0.At, I p1x0.Until]] [(b_0, .cells [I p0x0.post_.Room, I p0x0.post_.Timeout, I p0x0.post_.Tries, I p0x0.post_.Kept, .mref b_0x4, I p0x0.time_]), (b_0x4, .mp (p0x0.notes_.map (fun e => (AV.str e.1, Note.av e.2))))] (T1 (fun c_0x4 => [(b_0, .cells [I r.2.post_.Room, I r.2.post_.Timeout, I r.2.post_.Tries, I r.2.post_.Kept, .mref c_0x4, I r.2.time_]), (c_0x4, .mp (r.2.notes_.map (fun e => (AV.str e.1, Note.av e.2))))]) (fun c_0x4 => I r.1)) := by
  unfold command_Office_Put at h
  refine ACall.lessH ?_
  refine ACall.bodyN Tryz.func27 rfl Tryz.ntmps27 Tryz.results27 rfl rfl ?_
  refine tSR <| n_box rfl rfl rfl rfl fun b1 => rA rfl rfl <| rN <| tS <| tS <| ATodo.regionM (id := 1) (A := [0, 1, 0, 0, 8, 31, 63, 127, 255]) 5 mixed rfl (by kernel_rfl) (by kernel_rfl) <| AM.qv (q_load_ptr_all rfl rfl .p0 rfl) rfl <| bndE h fun v2 e1 h => AM.callp rfl (command_CheckLetter_c e1) (CoL.refl _) rfl <| AM.qv (q_move rfl) rfl <| AM.qv (n_field_ptr rfl rfl) rfl <| AM.qv (q_load_ptr rfl rfl .p0 rfl) rfl <| AM.nil <| t_call0 rfl (command_Office_timeFault_c rfl) (CoL.refl _) (.cons .p1 .nil) rfl rfl <| n_buildSliceL (xs := ([v2, (command_Office_timeFault p0x0 p1x0.At)] : List Int).map I) rfl rfl rfl rfl rfl rfl <| bndE h fun v3 e2 h => r_callp rfl (base_First_c e2) (CoL.refl _) rfl <| rA rfl rfl <| rN <| tSR <| rM rfl rfl <| ARun.qv (q_neq rfl rfl) rfl <| rN <| ATodo.cond_d rfl (fun hc => ?_) (fun hc => ?_)
  · refine have h := iteT hc h; tSR <| rM rfl rfl <| rA rfl rfl <| rN <| ATodo.ret <| ?_
    obtain rfl := Option.some.inj h
    exact ImpX.here ⟨_, .cons (.tmp _ _ rfl) .nil, _, .cons .p0 (.cons .p1 .nil), ⟨b_0x4, rfl, rfl⟩⟩
  · refine have h := iteF hc h; tK <| tSR <| rM rfl rfl <| rF rfl rfl rfl <| rL rfl rfl .p1 rfl rfl <| bndE h fun v4 e3 h => t_call1 rfl (command_Office_aged_c e3) (CoL.refl _) (.cons .p0 (.cons .p1 .nil)) (fun _ => rfl) rfl fun b5 => rA rfl rfl <| rN <| tS <| tSR <| rM rfl rfl <| rF rfl rfl rfl <| rL rfl rfl .p3 rfl rfl <| bndE h fun v6 e4 h => ARun.qv (t_lookup2 (gk := AV.str) (gv := Note.av) (M := v4) (key := p1x0.Id) (Z := (⟨(⟨[], [], [], (0 : Int), (0 : Int), (0 : Int)⟩ : Letter), (0 : Int), (0 : Int), (0 : Int)⟩ : Note)) rfl rfl .p2 rfl rfl rfl e4 rfl) rfl <| rM rfl rfl <| rX rfl rfl rfl <| rX rfl rfl rfl <| n_alloc rfl rfl rfl rfl fun b7 => n_store_ptr rfl rfl rfl rfl .p0 rfl rfl <| rA rfl rfl <| rN <| tSR <| rM rfl rfl <| rN <| ATodo.cond rfl (fun hc => ?_) (fun hc => ?_)
    · refine have h := iteT hc h; tSR <| rA rfl rfl <| rN <| ATodo.ret <| ?_
      obtain rfl := Option.some.inj h
      exact ImpX.here ⟨_, .cons (.tmp _ _ rfl) .nil, _, .cons .p1 (.cons .p1 .nil), ⟨b_0x4, rfl, rfl⟩⟩
    · refine have h := iteFb hc h; tK <| tSR <| rA rfl rfl <| rN <| tS <| tSR <| rM rfl rfl <| t_range (M := v4) (enc := (fun e => (AV.str e.1, Note.av e.2))) rfl (fun _ _ => .p3) rfl fun b8 Le5 ce5 hLe5 hIe5 => rN <| ATodo.block <| ATodo.loopMap (fun e (x : Str) => command_Office_Put_b1 p1x0 e x) (fun x : Str => command_Office_Put_f1 p0x0 p1x0 v4 x) (fun R x σ' => ∃ (s1m : List Nat), MIter Le5 ce5 s1m (R.map (fun e => (AV.str e.1, Note.av e.2))) ∧ σ' = ⟨103, [(0, .ptr b_0 0), (3, .ptr b1 0), (6, .mref b5), (9, .str x), (38, .ptr b8 0)], [(b_0, .cells [I p0x0.post_.Room, I p0x0.post_.Timeout, I p0x0.post_.Tries, I p0x0.post_.Kept, .mref b_0x4, I p0x0.time_]), (b_0x4, .mp (p0x0.notes_.map (fun e => (AV.str e.1, Note.av e.2)))), (b8, .mit b5 ce5 s1m), (b5, .mpb Le5 ce5), (b1, .cells [.str p1x0.Id, .str p1x0.Slot, .str p1x0.Body, I p1x0.Prio, I p1x0.At, I p1x0.Until])]⟩) h ?_ ?_
      · exact ImpX.lq [2, 2, 0, 1, 1] ⟨[], hIe5, rfl⟩ rfl rfl
      · intro R1 q10 σ' J1 hmk hH1 hK1
        obtain ⟨s1m, hI1m, rfl⟩ := hmk
        refine tSR <| t_next rfl hI1m .p3 (fun _ => .p2) rfl (fun hN => ?_) (fun v1m R' sv1m hP hlen hIv1m hCv1m => ?_)
        · have h := nilL hH1 hN
          replace h : command_Office_Put_f1 p0x0 p1x0 v4 q10 = _ := h
          unfold command_Office_Put_f1 at h
          refine ARun.ghost <| ImpX.mpDone hLe5 .p3 <| ImpX.here <| rX rfl rfl rfl <| rN <| tS <| ATodo.cond_f rfl <| ATodo.exit rfl <| tSR <| rM rfl rfl <| ARun.qv (q_nilCheck_ptr rfl) rfl <| rF rfl rfl rfl <| rF rfl rfl rfl <| rL rfl rfl .p0 rfl rfl <| rA rfl rfl <| rN <| tS <| tSR <| rM rfl rfl <| ARun.qv (q_sne rfl rfl) rfl <| rN <| ATodo.cut (fun σ' => ∃ (n11 : Int), command_Office_Put_j1 p0x0 p1x0 v4 q10 n11 = some r ∧ σ' = ⟨103, [(0, .ptr b_0 0), (3, .ptr b1 0), (6, .mref b5), (9, .str q10), (12, I n11)], [(b_0, .cells [I p0x0.post_.Room, I p0x0.post_.Timeout, I p0x0.post_.Tries, I p0x0.post_.Kept, .mref b_0x4, I p0x0.time_]), (b_0x4, .mp (p0x0.notes_.map (fun e => (AV.str e.1, Note.av e.2)))), (b1, .cells [.str p1x0.Id, .str p1x0.Slot, .str p1x0.Body, I p1x0.Prio, I p1x0.At, I p1x0.Until]), (b5, .mp (v4.map (fun e => (AV.str e.1, Note.av e.2))))]⟩) ?_ ?_
          · refine ATodo.cond_d rfl (fun hc => ?_) (fun hc => ?_)
            · exact have h := iteT hc h; tR <| rM rfl rfl <| ARun.qv (q_addw rfl rfl) rfl <| rA rfl rfl <| rN <| ATodo.stop <| ImpX.lq [0, 0, 2, 1] ⟨w64 (p0x0.post_.Room + (1 : Int)), h, rfl⟩ rfl rfl
            · exact have h := iteF hc h; tK <| ATodo.stop <| ImpX.lq [0, 0, 2, 1] ⟨p0x0.post_.Room, h, rfl⟩ rfl rfl
          · rintro σ' ⟨n11, h, rfl⟩
            unfold command_Office_Put_j1 at h
            refine tS <| tSR <| rM rfl rfl <| bndE h fun v12 e6 h => t_call0 rfl (command_pending_c e6) (CoL.refl _) (.cons .p3 .nil) rfl rfl <| rM rfl rfl <| ARun.qv (q_geq rfl rfl) rfl <| rN <| ATodo.cond_d rfl (fun hc => ?_) (fun hc => ?_)
            · refine have h := iteT hc h; tSR <| rA rfl rfl <| rN <| ATodo.ret <| ?_
              obtain rfl := Option.some.inj h
              exact ImpX.here ⟨_, .cons (.tmp _ _ rfl) .nil, _, .cons .p1 (.cons .p1 .nil), ⟨b_0x4, rfl, rfl⟩⟩
            · refine have h := iteF hc h; tK <| tS <| tSR <| rM rfl rfl <| ARun.qv (q_sne rfl rfl) rfl <| rN <| ATodo.cut (fun σ' => ∃ (l13 : List (Str × Note)), command_Office_Put_j2 p0x0 p1x0 l13 = some r ∧ σ' = ⟨103, [(0, .ptr b_0 0), (3, .ptr b1 0), (6, .mref b5)], [(b_0, .cells [I p0x0.post_.Room, I p0x0.post_.Timeout, I p0x0.post_.Tries, I p0x0.post_.Kept, .mref b_0x4, I p0x0.time_]), (b_0x4, .mp (p0x0.notes_.map (fun e => (AV.str e.1, Note.av e.2)))), (b1, .cells [.str p1x0.Id, .str p1x0.Slot, .str p1x0.Body, I p1x0.Prio, I p1x0.At, I p1x0.Until]), (b5, .mp (l13.map (fun e => (AV.str e.1, Note.av e.2))))]⟩) ?_ ?_
              · refine ATodo.cond_d rfl (fun hc => ?_) (fun hc => ?_)
                · refine have h := iteT hc h; tSR <| rM rfl rfl <| rM rfl rfl <| bndE h fun v14 e7 h => ARun.qv (t_lookup (gk := AV.str) (gv := Note.av) (M := v4) (key := q10) (Z := (⟨(⟨[], [], [], (0 : Int), (0 : Int), (0 : Int)⟩ : Letter), (0 : Int), (0 : Int), (0 : Int)⟩ : Note)) rfl rfl .p0 rfl rfl rfl e7 rfl) rfl <| n_alloc rfl rfl rfl rfl fun b15 => n_store_ptr rfl rfl rfl rfl .p0 rfl rfl <| rN <| tS <| ATodo.regionT (id := 21) (A := [0, 1, 0, 4, 15, 31]) (H0 := [(b15, .cells [.str v14.Letter.Id, .str v14.Letter.Slot, .str v14.Letter.Body, I v14.Letter.Prio, I v14.Letter.At, I v14.Letter.Until, I v14.State, I v14.Tries, I v14.Since])]) (HH := fun β => [(b15, .cells [.str v14.Letter.Id, .str v14.Letter.Slot, .str v14.Letter.Body, I v14.Letter.Prio, I v14.Letter.At, I v14.Letter.Until, I (6 : Int), I v14.Tries, I v14.Since]), (b5, .mp (v4.map (fun e => (AV.str e.1, Note.av e.2)))), (b_0, .cells [I p0x0.post_.Room, I p0x0.post_.Timeout, I p0x0.post_.Tries, I p0x0.post_.Kept, .mref b_0x4, I p0x0.time_]), (b_0x4, .mp (p0x0.notes_.map (fun e => (AV.str e.1, Note.av e.2)))), (b1, .cells [.str p1x0.Id, .str p1x0.Slot, .str p1x0.Body, I p1x0.Prio, I p1x0.At, I p1x0.Until])]) 4 mixed rfl (by kernel_rfl) (by kernel_rfl) [⟨none, some 3, [], fun _ => (b15, .cells [.str v14.Letter.Id, .str v14.Letter.Slot, .str v14.Letter.Body, I v14.Letter.Prio, I v14.Letter.At, I v14.Letter.Until, I v14.State, I v14.Tries, I v14.Since]), none⟩, ⟨some 3, none, [], fun _ => (b15, .cells [.str v14.Letter.Id, .str v14.Letter.Slot, .str v14.Letter.Body, I v14.Letter.Prio, I v14.Letter.At, I v14.Letter.Until, I (6 : Int), I v14.Tries, I v14.Since]), none⟩] [] rfl (by kernel_rfl) rfl (.cons .p0 .nil) (fun _ => rfl) <| AT.am 3 rfl rfl <| AM.qv (n_field_ptr rfl rfl) rfl <| AM.qv (q_load_ptr rfl rfl .p3 rfl) rfl <| AM.qv (n_field_ptr rfl rfl) rfl <| AM.nil <| AT.run0 (Ti := [(b15, .cells [.str v14.Letter.Id, .str v14.Letter.Slot, .str v14.Letter.Body, I v14.Letter.Prio, I v14.Letter.At, I v14.Letter.Until, I v14.State, I v14.Tries, I v14.Since])]) (Pi := [(b15, .cells [.str v14.Letter.Id, .str v14.Letter.Slot, .str v14.Letter.Body, I v14.Letter.Prio, I v14.Letter.At, I v14.Letter.Until, I (6 : Int), I v14.Tries, I v14.Since])]) (fun _ => rfl) (fun _ => rfl) (fun _ => rfl) rfl rfl ?_ ?_
                  · exact n_store_ptr rfl rfl rfl rfl .p0 rfl rfl <| ARun.nil ⟨_, rfl⟩
                  exact AT.nilN (fun _ => rfl) fun β => rF rfl rfl rfl <| n_store_ptr rfl rfl rfl rfl .p0 rfl rfl <| rN <| tR <| rM rfl rfl <| rM rfl rfl <| ARun.qv (q_load_ptr_all rfl rfl .p0 rfl) rfl <| t_mapUpdate (gk := AV.str) (gv := Note.av) (M := v4) (key := q10) (v := (⟨v14.Letter, (6 : Int), v14.Tries, p1x0.At⟩ : Note)) rfl rfl rfl rfl .p1 <| rN <| ATodo.stop <| ImpX.lq [2, 2, 2, 1] ⟨mset v4 q10 (⟨v14.Letter, (6 : Int), v14.Tries, p1x0.At⟩ : Note), h, rfl⟩ rfl rfl
                · exact have h := iteF hc h; tK <| ATodo.stop <| ImpX.lq [1, 1, 1, 0] ⟨v4, h, rfl⟩ rfl rfl
              · rintro σ' ⟨l13, h, rfl⟩
                unfold command_Office_Put_j2 at h
                refine tSR <| rM rfl rfl <| rF rfl rfl rfl <| rL rfl rfl .p2 rfl rfl <| ARun.qv (q_load_ptr_all rfl rfl .p2 rfl) rfl <| rF rfl rfl rfl <| rL rfl rfl .p2 rfl rfl <| ARun.qv (n_build rfl rfl rfl rfl rfl) rfl <| t_mapUpdate (gk := AV.str) (gv := Note.av) (M := l13) (key := p1x0.Id) (v := (⟨p1x0, (1 : Int), (0 : Int), p1x0.At⟩ : Note)) rfl rfl rfl rfl .p3 <| rN <| tSR <| rM rfl rfl <| rM rfl rfl <| rF rfl rfl rfl <| rL rfl rfl .p2 rfl rfl <| t_call1 rfl (command_Office_keep_c (rfl : command_Office_keep p0x0 (mset l13 p1x0.Id (⟨p1x0, (1 : Int), (0 : Int), p1x0.At⟩ : Note)) p1x0.At = _)) (CoL.refl _) (.cons .p0 (.cons .p0 (.cons .p1 .nil))) (fun _ => rfl) rfl fun b16 => rN <| tSR <| rA rfl rfl <| rN <| ATodo.ret <| ?_
                obtain rfl := Option.some.inj h
                exact ImpX.here ⟨_, .cons (.tmp _ _ rfl) .nil, _, .cons .p0 (.cons .p0 .nil), ⟨b16, rfl, rfl⟩⟩
        · obtain ⟨z1, h, hN1, hA1⟩ := stepL hH1 hP
          replace h : command_Office_Put_b1 p1x0 v1m q10 = some z1 := h
          unfold command_Office_Put_b1 at h
          have hJ1 := fun y σ' (e : z1 = .inl y) hi => hK1 R' y σ' hlen (hN1 y e) hi
          clear hN1 hP hK1 hH1
          refine rX rfl rfl rfl <| rN <| tS <| ATodo.cond_t rfl <| tK <| ATodo.block <| tSR <| ARun.qv (t_entry rfl .p2 .p3 hCv1m rfl rfl) rfl <| rX rfl rfl rfl <| rX rfl rfl rfl <| n_alloc rfl rfl rfl rfl fun b17 => rA rfl rfl <| n_store_ptr rfl rfl rfl rfl .p0 rfl rfl <| rN <| tS <| ATodo.cut (fun σ' => ∃ (c18 : Bool), command_Office_Put_j3 q10 v1m c18 = some z1 ∧ σ' = ⟨103, [(0, .ptr b_0 0), (3, .ptr b1 0), (6, .mref b5), (9, .str q10), (10, .str v1m.1), (38, .ptr b8 0), (64, .bool c18)], [(b_0, .cells [I p0x0.post_.Room, I p0x0.post_.Timeout, I p0x0.post_.Tries, I p0x0.post_.Kept, .mref b_0x4, I p0x0.time_]), (b_0x4, .mp (p0x0.notes_.map (fun e => (AV.str e.1, Note.av e.2)))), (b1, .cells [.str p1x0.Id, .str p1x0.Slot, .str p1x0.Body, I p1x0.Prio, I p1x0.At, I p1x0.Until]), (b5, .mpb Le5 ce5), (b8, .mit b5 ce5 sv1m)]⟩) ?_ ?_
          · refine tR <| rF rfl rfl rfl <| rL rfl rfl .p5 rfl rfl <| ARun.qv (q_sne rfl rfl) rfl <| rM rfl rfl <| ARun.guard_dt rfl rfl rfl (fun hc => ?_) (fun hc => ?_)
            · rw [andTd hc] at h
              refine rF rfl rfl rfl <| rY rfl rfl rfl <| rF rfl rfl rfl <| rY rfl rfl rfl <| rL rfl rfl .p0 rfl rfl <| rY rfl rfl rfl <| rF rfl rfl rfl <| rY rfl rfl rfl <| rL rfl rfl .p5 rfl rfl <| rY rfl rfl rfl <| ARun.qv (q_seq rfl rfl) rfl <| rT rfl rfl rfl <| rM rfl rfl <| ARun.guard_dt rfl rfl rfl (fun hc => ?_) (fun hc => ?_)
              · rw [andTd hc] at h
                refine rF rfl rfl rfl <| rY rfl rfl rfl <| rL rfl rfl .p0 rfl rfl <| rY rfl rfl rfl <| ARun.qv (q_eql rfl rfl) rfl <| rT rfl rfl rfl <| rM rfl rfl <| ARun.guard_dt rfl rfl rfl (fun hc => ?_) (fun hc => ?_)
                · rw [andTd hc] at h
                  exact rF rfl rfl rfl <| rY rfl rfl rfl <| rL rfl rfl .p0 rfl rfl <| rY rfl rfl rfl <| ARun.qv (q_eql rfl rfl) rfl <| rT rfl rfl rfl <| rN <| ATodo.stop <| ImpX.lq [1, 1, 3, 2, 1] ⟨decide (v1m.2.Tries = (0 : Int)), h, rfl⟩ rfl rfl
                · rw [andFd hc] at h
                  exact rG rfl rfl rfl rfl <| rG rfl rfl rfl rfl <| rE rfl rfl rfl <| rN <| ATodo.stop <| ImpX.lq [1, 1, 3, 2, 1] ⟨false, h, rfl⟩ rfl rfl
              · rw [andFd hc] at h
                exact rG rfl rfl rfl rfl <| rG rfl rfl rfl rfl <| rE rfl rfl rfl <| rM rfl rfl <| rG rfl rfl rfl rfl <| rG rfl rfl rfl rfl <| rG rfl rfl rfl rfl <| rE rfl rfl rfl <| rN <| ATodo.stop <| ImpX.lq [1, 1, 3, 2, 1] ⟨false, h, rfl⟩ rfl rfl
            · rw [andFd hc] at h
              exact rG rfl rfl rfl rfl <| rG rfl rfl rfl rfl <| rG rfl rfl rfl rfl <| rG rfl rfl rfl rfl <| rG rfl rfl rfl rfl <| rE rfl rfl rfl <| rM rfl rfl <| rG rfl rfl rfl rfl <| rG rfl rfl rfl rfl <| rG rfl rfl rfl rfl <| rE rfl rfl rfl <| rM rfl rfl <| rG rfl rfl rfl rfl <| rG rfl rfl rfl rfl <| rG rfl rfl rfl rfl <| rE rfl rfl rfl <| rN <| ATodo.stop <| ImpX.lq [1, 1, 3, 2, 1] ⟨false, h, rfl⟩ rfl rfl
          · rintro σ' ⟨c18, h, rfl⟩
            unfold command_Office_Put_j3 at h
            refine ATodo.cut (fun σ' => ∃ (q19 : Str), command_Office_Put_j4 q19 = some z1 ∧ σ' = ⟨103, [(0, .ptr b_0 0), (3, .ptr b1 0), (6, .mref b5), (9, .str q19), (38, .ptr b8 0)], [(b_0, .cells [I p0x0.post_.Room, I p0x0.post_.Timeout, I p0x0.post_.Tries, I p0x0.post_.Kept, .mref b_0x4, I p0x0.time_]), (b_0x4, .mp (p0x0.notes_.map (fun e => (AV.str e.1, Note.av e.2)))), (b1, .cells [.str p1x0.Id, .str p1x0.Slot, .str p1x0.Body, I p1x0.Prio, I p1x0.At, I p1x0.Until]), (b5, .mpb Le5 ce5), (b8, .mit b5 ce5 sv1m)]⟩) ?_ ?_
            · refine ATodo.cond rfl (fun hc => ?_) (fun hc => ?_)
              · exact have h := iteT hc h; tR <| rM rfl rfl <| rA rfl rfl <| rN <| ATodo.stop <| ImpX.lq [0, 0, 0, 0, 0] ⟨v1m.1, h, rfl⟩ rfl rfl
              · exact have h := iteFb hc h; tK <| ATodo.stop <| ImpX.lq [0, 0, 0, 0, 0] ⟨q10, h, rfl⟩ rfl rfl
            · rintro σ' ⟨q19, h, rfl⟩
              unfold command_Office_Put_j4 at h
              refine ATodo.blk <| ATodo.stop <| ?_
              obtain rfl := Option.some.inj h
              exact hJ1 _ _ rfl <| ImpX.lq [0, 0, 2, 1, 0] ⟨sv1m, hIv1m, rfl⟩ rfl rfl

set_option maxHeartbeats 4000000 in
theorem command_Office_Waiting_c [GI : GTab] {b_0 : Bk} {b_0x4 : Bk} {p0x0 : Command_Office} {p1x0 : Int} {r : Int × Int × Command_Office} (h : command_Office_Waiting p0x0 p1x0 = some r) : ACall Tryz.prog 28 [.ptr b_0 0, I p1x0] [(b_0, .cells [I p0x0.post_.Room, I p0x0.post_.Timeout, I p0x0.post_.Tries, I p0x0.post_.Kept, .mref b_0x4, I p0x0.time_]), (b_0x4, .mp (p0x0.notes_.map (fun e => (AV.str e.1, Note.av e.2))))] (T1 (fun c_0x4 => [(b_0, .cells [I r.2.2.post_.Room, I r.2.2.post_.Timeout, I r.2.2.post_.Tries, I r.2.2.post_.Kept, .mref c_0x4, I r.2.2.time_]), (c_0x4, .mp (r.2.2.notes_.map (fun e => (AV.str e.1, Note.av e.2))))]) (fun c_0x4 => .tup [I r.1, I r.2.1])) := by
  unfold command_Office_Waiting at h
  refine ACall.lessH ?_
  refine ACall.bodyN Tryz.func28 rfl Tryz.ntmps28 Tryz.results28 rfl rfl ?_
  refine tSR <| rA rfl rfl <| rA rfl rfl <| rN <| tS <| tSR <| rM rfl rfl <| rM rfl rfl <| t_call0 rfl (command_Office_timeFault_c rfl) (CoL.refl _) (.cons .p0 .nil) rfl rfl <| rA rfl rfl <| rN <| tSR <| rM rfl rfl <| ARun.qv (q_neq rfl rfl) rfl <| rN <| ATodo.cond_d rfl (fun hc => ?_) (fun hc => ?_)
  · refine have h := iteT hc h; tSR <| rM rfl rfl <| rA rfl rfl <| rA rfl rfl <| rN <| ATodo.ret <| ?_
    obtain rfl := Option.some.inj h
    exact ImpX.here ⟨_, .cons (.tmp _ _ rfl) (.cons (.tmp _ _ rfl) .nil), _, .cons .p0 (.cons .p0 .nil), ⟨b_0x4, rfl, rfl⟩⟩
  · refine have h := iteF hc h; tK <| tSR <| rM rfl rfl <| rM rfl rfl <| rM rfl rfl <| bndE h fun v1 e1 h => t_call1 rfl (command_Office_aged_c e1) (CoL.refl _) (.cons .p0 (.cons .p0 .nil)) (fun _ => rfl) rfl fun b2 => rM rfl rfl <| t_call1 rfl (command_Office_keep_c rfl) (CoL.refl _) (.cons .p0 (.cons .p0 (.cons .p0 .nil))) (fun _ => rfl) rfl fun b3 => rN <| tSR <| rM rfl rfl <| ARun.qv (q_nilCheck_ptr rfl) rfl <| rF rfl rfl rfl <| rL rfl rfl .p0 rfl rfl <| bndE h fun v4 e2 h => t_call0 rfl (command_pending_c e2) (CoL.refl _) (.cons .p1 .nil) rfl rfl <| rA rfl rfl <| rA rfl rfl <| rN <| ATodo.ret <| ?_
    obtain rfl := Option.some.inj h
    exact ImpX.here ⟨_, .cons (.tmp _ _ rfl) (.cons (.tmp _ _ rfl) .nil), _, .cons .p1 (.cons .p0 .nil), ⟨b3, rfl, rfl⟩⟩

set_option maxHeartbeats 4000000 in
theorem L_posted_c {r : Bool} (h : L_posted = some r) : Pu Tryz.prog 8 [] (.bool r) := by
  unfold L_posted at h
  refine ACall.bodyN Tryz.func8 rfl Tryz.ntmps8 Tryz.results8 rfl rfl ?_
  refine tSR <| rA rfl rfl <| rN <| tSR <| ARun.qv (n_build rfl rfl rfl rfl rfl) rfl <| optE h (fun e1 h => ?_) (fun x1 e1 h => ?_)
  · refine have cM5 := TM_none e1 (command_New_c (rfl : command_New (⟨(1 : Int), (1 : Int), (1 : Int), (0 : Int)⟩ : Post) = _)); t_call0 rfl cM5 (CoL.refl _) .nil rfl rfl <| rM rfl rfl <| rX rfl rfl rfl <| rX rfl rfl rfl <| rA rfl rfl <| rA rfl rfl <| rN <| tS <| tS <| ATodo.cut (fun σ' => L_posted_j1 = some r ∧ σ' = ⟨32, [(1, .raw (.pointer none)), (20, .bool true)], []⟩) ?_ ?_
    · refine tR <| rM rfl rfl <| ARun.qv (q_neq rfl rfl) rfl <| rM rfl rfl <| ARun.guard_df rfl rfl rfl (fun hc => ?_) (fun hc => ?_)
      · exact have h := iteF hc h; rM rfl rfl <| rY rfl rfl rfl <| ARun.qv (q_ppneql rfl rfl) rfl <| rE rfl rfl rfl <| rM rfl rfl <| rG rfl rfl rfl rfl <| rG rfl rfl rfl rfl <| rG rfl rfl rfl rfl <| rG rfl rfl rfl rfl <| rT rfl rfl rfl <| rN <| ATodo.stop <| ImpX.lq [] ⟨h, rfl⟩ rfl rfl
      · exact have h := iteT hc h; rG rfl rfl rfl rfl <| rT rfl rfl rfl <| rM rfl rfl <| rG rfl rfl rfl rfl <| rG rfl rfl rfl rfl <| rG rfl rfl rfl rfl <| rG rfl rfl rfl rfl <| rT rfl rfl rfl <| rN <| ATodo.stop <| ImpX.lq [] ⟨h, rfl⟩ rfl rfl
    · rintro σ' ⟨h, rfl⟩
      unfold L_posted_j1 at h
      refine ATodo.cond_t rfl <| tSR <| rA rfl rfl <| rN <| ATodo.ret <| ?_
      obtain rfl := Option.some.inj h
      exact ImpX.here ⟨_, .cons (.tmp _ _ rfl) .nil, rfl⟩
  · refine have cM6 := TM_some e1 (command_New_c (rfl : command_New (⟨(1 : Int), (1 : Int), (1 : Int), (0 : Int)⟩ : Post) = _)); t_call2 rfl cM6 (CoL.refl _) .nil (fun _ _ => rfl) rfl fun b2 b3 => rM rfl rfl <| rX rfl rfl rfl <| rX rfl rfl rfl <| rA rfl rfl <| rA rfl rfl <| rN <| tS <| tS <| ATodo.cut (fun σ' => ∃ (b8 : Bk) (n4 : Int) (n5 : Int) (n6 : Int) (n7 : Int) (l9 : List (Str × Note)) (n10 : Int) (c11 : Bool), L_posted_j2 n4 n5 n6 n7 l9 n10 c11 = some r ∧ σ' = ⟨32, [(1, .ptr b2 0), (20, .bool c11)], [(b2, .cells [I n4, I n5, I n6, I n7, .mref b8, I n10]), (b8, .mp (l9.map (fun e => (AV.str e.1, Note.av e.2))))]⟩) ?_ ?_
    · refine tR <| rM rfl rfl <| ARun.qv (q_neq rfl rfl) rfl <| rM rfl rfl <| ARun.guard_df rfl rfl rfl (fun hc => ?_) (fun hc => ?_)
      · exact have h := iteF hc h; rM rfl rfl <| rY rfl rfl rfl <| ARun.qv (q_ppeql rfl rfl) rfl <| rE rfl rfl rfl <| rM rfl rfl <| rY rfl rfl rfl <| rM rfl rfl <| rY rfl rfl rfl <| ARun.qv (n_build rfl rfl rfl rfl rfl) rfl <| rY rfl rfl rfl <| bndE h fun v12 e2 h => t_call1 rfl (command_Office_Put_c e2) (CoL.refl _) (.cons .p0 (.cons .p0 .nil)) (fun _ => rfl) rfl fun b13 => rY rfl rfl rfl <| ARun.qv (q_neq rfl rfl) rfl <| rE rfl rfl rfl <| rN <| ATodo.stop <| ImpX.lq [0, 0] ⟨b13, v12.2.post_.Room, v12.2.post_.Timeout, v12.2.post_.Tries, v12.2.post_.Kept, v12.2.notes_, v12.2.time_, decide (v12.1 ≠ (0 : Int)), h, rfl⟩ rfl rfl
      · exact have h := iteT hc h; rG rfl rfl rfl rfl <| rT rfl rfl rfl <| rM rfl rfl <| rG rfl rfl rfl rfl <| rG rfl rfl rfl rfl <| rG rfl rfl rfl rfl <| rG rfl rfl rfl rfl <| rT rfl rfl rfl <| rN <| ATodo.stop <| ImpX.lq [0, 0] ⟨b3, x1.post_.Room, x1.post_.Timeout, x1.post_.Tries, x1.post_.Kept, x1.notes_, x1.time_, true, h, rfl⟩ rfl rfl
    · rintro σ' ⟨b8, n4, n5, n6, n7, l9, n10, c11, h, rfl⟩
      unfold L_posted_j2 at h
      refine ATodo.cond rfl (fun hc => ?_) (fun hc => ?_)
      · refine have h := iteT hc h; tSR <| rA rfl rfl <| rN <| ATodo.ret <| ?_
        obtain rfl := Option.some.inj h
        exact ImpX.here ⟨_, .cons (.tmp _ _ rfl) .nil, rfl⟩
      · refine have h := iteFb hc h; tK <| tSR <| rM rfl rfl <| bndE h fun v14 e3 h => t_call1 rfl (command_Office_Waiting_c e3) (CoL.refl _) (.cons .p0 (.cons .p0 .nil)) (fun _ => rfl) rfl fun b15 => rM rfl rfl <| rX rfl rfl rfl <| rX rfl rfl rfl <| rA rfl rfl <| rA rfl rfl <| rN <| tS <| ATodo.cut (fun σ' => ∃ (c16 : Bool), L_posted_j3 c16 = some r ∧ σ' = ⟨32, [(0, .bool c16)], []⟩) ?_ ?_
        · refine tR <| rM rfl rfl <| ARun.qv (q_eql rfl rfl) rfl <| rM rfl rfl <| ARun.guard_dt rfl rfl rfl (fun hc => ?_) (fun hc => ?_)
          · rw [andTd hc] at h
            exact rM rfl rfl <| rY rfl rfl rfl <| ARun.qv (q_eql rfl rfl) rfl <| rT rfl rfl rfl <| rA rfl rfl <| rN <| ATodo.stop <| ImpX.lq [] ⟨decide (v14.1 = (1 : Int)), h, rfl⟩ rfl rfl
          · rw [andFd hc] at h
            exact rG rfl rfl rfl rfl <| rE rfl rfl rfl <| rA rfl rfl <| rN <| ATodo.stop <| ImpX.lq [] ⟨false, h, rfl⟩ rfl rfl
        · rintro σ' ⟨c16, h, rfl⟩
          unfold L_posted_j3 at h
          refine ATodo.ret <| ?_
          obtain rfl := Option.some.inj h
          exact ImpX.here ⟨_, .cons (.tmp _ _ rfl) .nil, rfl⟩

set_option maxHeartbeats 4000000 in
theorem Stream_Range_c [GI : GTab] {b_0 : Bk} {p0x0 : Fleetmake_Stream} {p1x0 : Int} {p2x0 : Int} {r : Int × Fleetmake_Stream} (h : Stream_Range p0x0 p1x0 p2x0 = some r) : ACall Tryz.prog 9 [.ptr b_0 0, I p1x0, I p2x0] [(b_0, .cells [.list 1 (p0x0.L.map I), I p0x0.at_])] (T0 ([(b_0, .cells [.list 1 (r.2.L.map I), I r.2.at_])]) (I r.1)) := by
  unfold Stream_Range at h
  refine ACall.lessH ?_
  refine ACall.bodyN Tryz.func9 rfl Tryz.ntmps9 Tryz.results9 rfl rfl ?_
  refine tSR <| rA rfl rfl <| rN <| tS <| tSR <| rM rfl rfl <| rM rfl rfl <| ARun.qv (q_lss rfl rfl) rfl <| rN <| ATodo.cond_d rfl (fun hc => ?_) (fun hc => ?_)
  · refine have h := iteT hc h; tSR <| rM rfl rfl <| rA rfl rfl <| rN <| ATodo.ret <| ?_
    obtain rfl := Option.some.inj h
    exact ImpX.here ⟨_, .cons (.tmp _ _ rfl) .nil, _, .cons .p0 .nil, ⟨rfl, rfl⟩⟩
  · refine have h := iteF hc h; tK <| tSR <| rM rfl rfl <| rM rfl rfl <| rM rfl rfl <| rM rfl rfl <| ARun.qv (q_subw rfl rfl) rfl <| ARun.qv (q_addw rfl rfl) rfl <| bndE h fun v1 e1 h => t_call0 rfl (Stream_Next_c e1) (CoL.refl _) (.cons .p0 .nil) rfl rfl <| ARun.qv (q_addw rfl rfl) rfl <| rA rfl rfl <| rN <| ATodo.ret <| ?_
    obtain rfl := Option.some.inj h
    exact ImpX.here ⟨_, .cons (.tmp _ _ rfl) .nil, _, .cons .p0 .nil, ⟨rfl, rfl⟩⟩

set_option maxHeartbeats 4000000 in
theorem Stream_Flip_c [GI : GTab] {b_0 : Bk} {p0x0 : Fleetmake_Stream} {p1x0 : Int} {r : Bool × Fleetmake_Stream} (h : Stream_Flip p0x0 p1x0 = some r) : ACall Tryz.prog 10 [.ptr b_0 0, I p1x0] [(b_0, .cells [.list 1 (p0x0.L.map I), I p0x0.at_])] (T0 ([(b_0, .cells [.list 1 (r.2.L.map I), I r.2.at_])]) (.bool r.1)) := by
  unfold Stream_Flip at h
  refine ACall.lessH ?_
  refine ACall.bodyN Tryz.func10 rfl Tryz.ntmps10 Tryz.results10 rfl rfl ?_
  refine tSR <| rA rfl rfl <| rN <| tSR <| rM rfl rfl <| rM rfl rfl <| bndE h fun v1 e1 h => t_call0 rfl (Stream_Next_c e1) (CoL.refl _) (.cons .p0 .nil) rfl rfl <| ARun.qv (q_eql rfl rfl) rfl <| rA rfl rfl <| rN <| ATodo.ret <| ?_
  obtain rfl := Option.some.inj h
  exact ImpX.here ⟨_, .cons (.tmp _ _ rfl) .nil, _, .cons .p0 .nil, ⟨rfl, rfl⟩⟩

set_option maxHeartbeats 4000000 in
theorem Stream_Some_c [GI : GTab] {b_0 : Bk} {p0x0 : Fleetmake_Stream} {p1x0 : List Str} {r : Str × Fleetmake_Stream} (h : Stream_Some p0x0 p1x0 = some r) : ACall Tryz.prog 20 [.ptr b_0 0, .list 1 (p1x0.map AV.str)] [(b_0, .cells [.list 1 (p0x0.L.map I), I p0x0.at_])] (T0 ([(b_0, .cells [.list 1 (r.2.L.map I), I r.2.at_])]) (.str r.1)) := by
  unfold Stream_Some at h
  refine ACall.lessH ?_
  refine ACall.bodyN Tryz.func20 rfl Tryz.ntmps20 Tryz.results20 rfl rfl ?_
  refine tSR <| rA rfl rfl <| rN <| tSR <| rM rfl rfl <| rM rfl rfl <| rM rfl rfl <| ARun.qv (t_len rfl) rfl <| bndE h fun v1 e1 h => t_call0 rfl (Stream_Next_c e1) (CoL.refl _) (.cons .p0 .nil) rfl rfl <| bndE h fun v2 e2 h => ARun.qv (t_index rfl rfl rfl e2 rfl rfl) rfl <| ARun.qv (q_load_rptr rfl rfl rfl) rfl <| rA rfl rfl <| rN <| ATodo.ret <| ?_
  obtain rfl := Option.some.inj h
  exact ImpX.here ⟨_, .cons (.tmp _ _ rfl) .nil, _, .cons .p0 .nil, ⟨rfl, rfl⟩⟩

set_option maxHeartbeats 4000000 in
theorem Stream_RightLetter_c [GI : GTab] {b_0 : Bk} {p0x0 : Fleetmake_Stream} {p1x0 : Int} {r : Letter × Fleetmake_Stream} (h : Stream_RightLetter p0x0 p1x0 = some r) : ACall Tryz.prog 29 [.ptr b_0 0, I p1x0] [(b_0, .cells [.list 1 (p0x0.L.map I), I p0x0.at_])] (T0 ([(b_0, .cells [.list 1 (r.2.L.map I), I r.2.at_])]) (.agg [.str r.1.Id, .str r.1.Slot, .str r.1.Body, I r.1.Prio, I r.1.At, I r.1.Until])) := by
  unfold Stream_RightLetter at h
  refine ACall.lessH ?_
  refine ACall.bodyN Tryz.func29 rfl Tryz.ntmps29 Tryz.results29 rfl rfl ?_
  refine tSR <| n_alloc rfl rfl rfl rfl fun b1 => rN <| tSR <| rM rfl rfl <| n_buildSliceL (xs := ([([108, 97] : Str), ([108, 98] : Str), ([108, 99] : Str), ([108, 100] : Str), ([108, 101] : Str), ([108, 102] : Str)]).map AV.str) rfl rfl rfl rfl rfl rfl <| bndE h fun v2 e1 h => t_call0 rfl (Stream_Some_c e1) (CoL.refl _) (.cons .p1 .nil) rfl rfl <| rM rfl rfl <| n_buildSliceL (xs := ([([] : Str), ([] : Str), ([115, 97] : Str), ([115, 98] : Str)]).map AV.str) rfl rfl rfl rfl rfl rfl <| bndE h fun v3 e2 h => t_call0 rfl (Stream_Some_c e2) (CoL.refl _) (.cons .p0 .nil) rfl rfl <| rM rfl rfl <| n_buildSliceL (xs := ([([100, 111] : Str), ([] : Str), ([97, 32, 34, 98, 34] : Str)]).map AV.str) rfl rfl rfl rfl rfl rfl <| bndE h fun v4 e3 h => t_call0 rfl (Stream_Some_c e3) (CoL.refl _) (.cons .p0 .nil) rfl rfl <| rM rfl rfl <| n_buildSliceL (xs := ([(0 : Int), (0 : Int), (1 : Int), (5 : Int), (9 : Int)]).map I) rfl rfl rfl rfl rfl rfl <| bndE h fun v5 e4 h => t_call0 rfl (Stream_Pick_c e4) (CoL.refl _) (.cons .p0 .nil) rfl rfl <| rM rfl rfl <| rM rfl rfl <| rM rfl rfl <| n_buildSliceL (xs := ([(1 : Int), (5 : Int), (10 : Int), (20 : Int), (50 : Int), (1000 : Int)]).map I) rfl rfl rfl rfl rfl rfl <| bndE h fun v6 e5 h => t_call0 rfl (Stream_Pick_c e5) (CoL.refl _) (.cons .p0 .nil) rfl rfl <| ARun.qv (q_addw rfl rfl) rfl <| ARun.qv (n_build rfl rfl rfl rfl rfl) rfl <| n_store_ptr rfl rfl rfl rfl .p1 rfl rfl <| rN <| ATodo.ret <| ?_
  obtain rfl := Option.some.inj h
  exact ImpX.here ⟨_, .cons (.all _ _ _ _ _ _ rfl .p1 TUnder.h TInfo.h rfl rfl) .nil, _, .cons .p0 .nil, ⟨rfl, rfl⟩⟩

set_option maxHeartbeats 4000000 in
theorem Stream_Odd_c [GI : GTab] {b_0 : Bk} {p0x0 : Fleetmake_Stream} {p1x0 : Int} {p2x0 : Int} {r : Int × Fleetmake_Stream} (h : Stream_Odd p0x0 p1x0 p2x0 = some r) : ACall Tryz.prog 31 [.ptr b_0 0, I p1x0, I p2x0] [(b_0, .cells [.list 1 (p0x0.L.map I), I p0x0.at_])] (T0 ([(b_0, .cells [.list 1 (r.2.L.map I), I r.2.at_])]) (I r.1)) := by
  unfold Stream_Odd at h
  refine ACall.lessH ?_
  refine ACall.bodyN Tryz.func31 rfl Tryz.ntmps31 Tryz.results31 rfl rfl ?_
  refine tSR <| rA rfl rfl <| rN <| tS <| tSR <| rM rfl rfl <| bndE h fun v1 e1 h => t_call0 rfl (Stream_Flip_c e1) (CoL.refl _) (.cons .p0 .nil) rfl rfl <| rN <| ATodo.cond rfl (fun hc => ?_) (fun hc => ?_)
  · refine have h := iteT hc h; tSR <| rM rfl rfl <| rM rfl rfl <| ARun.qv (q_subw rfl rfl) rfl <| rM rfl rfl <| ARun.qv (q_addw rfl rfl) rfl <| rM rfl rfl <| rM rfl rfl <| n_buildSliceL (xs := ([w64 (p1x0 - (1 : Int)), w64 (p2x0 + (1 : Int)), p1x0, p2x0, (-1099511627776 : Int), (1099511627776 : Int)]).map I) rfl rfl rfl rfl rfl rfl <| bndE h fun v2 e2 h => t_call0 rfl (Stream_Pick_c e2) (CoL.refl _) (.cons .p0 .nil) rfl rfl <| rA rfl rfl <| rN <| ATodo.ret <| ?_
    obtain rfl := Option.some.inj h
    exact ImpX.here ⟨_, .cons (.tmp _ _ rfl) .nil, _, .cons .p0 .nil, ⟨rfl, rfl⟩⟩
  · refine have h := iteFb hc h; tK <| tSR <| rM rfl rfl <| rM rfl rfl <| rM rfl rfl <| bndE h fun v3 e3 h => t_call0 rfl (Stream_Range_c e3) (CoL.refl _) (.cons .p0 .nil) rfl rfl <| rA rfl rfl <| rN <| ATodo.ret <| ?_
    obtain rfl := Option.some.inj h
    exact ImpX.here ⟨_, .cons (.tmp _ _ rfl) .nil, _, .cons .p0 .nil, ⟨rfl, rfl⟩⟩

set_option maxHeartbeats 4000000 in
theorem Stream_Letter_c {b_0 : Bk} {p0x0 : Fleetmake_Stream} {p1x0 : Int} {r : Letter × Fleetmake_Stream} (h : Stream_Letter p0x0 p1x0 = some r) : ACall Tryz.prog 11 [.ptr b_0 0, I p1x0] [(b_0, .cells [.list 1 (p0x0.L.map I), I p0x0.at_])] (T0 ([(b_0, .cells [.list 1 (r.2.L.map I), I r.2.at_])]) (.agg [.str r.1.Id, .str r.1.Slot, .str r.1.Body, I r.1.Prio, I r.1.At, I r.1.Until])) := by
  unfold Stream_Letter at h
  refine ACall.lessH ?_
  refine ACall.bodyN Tryz.func11 rfl Tryz.ntmps11 Tryz.results11 rfl rfl ?_
  refine tSR <| n_alloc rfl rfl rfl rfl fun b1 => rN <| tSR <| rM rfl rfl <| rM rfl rfl <| bndE h fun v2 e1 h => t_call0 rfl (Stream_RightLetter_c e1) (CoL.refl _) (.cons .p1 .nil) rfl rfl <| n_alloc rfl rfl rfl rfl fun b3 => n_store_ptr rfl rfl rfl rfl .p0 rfl rfl <| rN <| tS <| tSR <| rM rfl rfl <| bndE h fun v4 e2 h => t_call0 rfl (Stream_Flip_c e2) (CoL.refl _) (.cons .p1 .nil) rfl rfl <| rN <| ATodo.cut (fun σ' => ∃ (l5 : List Int) (n6 : Int) (q7 : Str) (q8 : Str) (q9 : Str) (n10 : Int) (n11 : Int) (n12 : Int), Stream_Letter_j1 l5 n6 q7 q8 q9 n10 n11 n12 = some r ∧ σ' = ⟨44, [(4, .ptr b1 0), (5, .ptr b3 0)], [(b_0, .cells [.list 1 (l5.map I), I n6]), (b1, .cells [.str [], .str [], .str [], I (0 : Int), I (0 : Int), I (0 : Int)]), (b3, .cells [.str q7, .str q8, .str q9, I n10, I n11, I n12])]⟩) ?_ ?_
  · refine ATodo.cond rfl (fun hc => ?_) (fun hc => ?_)
    · refine have h := iteT hc h; tSR <| rM rfl rfl <| bndE h fun v13 e3 h => t_call0 rfl (Stream_Next_c e3) (CoL.refl _) (.cons .p0 .nil) rfl rfl <| rN <| ATodo.block <| tSR <| ARun.qv (q_eql rfl rfl) rfl <| rA rfl rfl <| rN <| ATodo.cut (fun σ' => ∃ (l14 : List Int) (n15 : Int) (q16 : Str) (q17 : Str) (q18 : Str) (n19 : Int) (n20 : Int) (n21 : Int), Stream_Letter_j2 l14 n15 q16 q17 q18 n19 n20 n21 = some r ∧ σ' = ⟨44, [(4, .ptr b1 0), (5, .ptr b3 0)], [(b_0, .cells [.list 1 (l14.map I), I n15]), (b1, .cells [.str [], .str [], .str [], I (0 : Int), I (0 : Int), I (0 : Int)]), (b3, .cells [.str q16, .str q17, .str q18, I n19, I n20, I n21])]⟩) ?_ ?_
      · refine ATodo.cond_d rfl (fun hc => ?_) (fun hc => ?_)
        · exact have h := iteT hc h; tR <| rM rfl rfl <| n_buildSliceL (xs := ([([] : Str), ([65] : Str)]).map AV.str) rfl rfl rfl rfl rfl rfl <| bndE h fun v22 e4 h => t_call0 rfl (Stream_Some_c e4) (CoL.refl _) (.cons .p0 .nil) rfl rfl <| rF rfl rfl rfl <| n_store_ptr rfl rfl rfl rfl .p1 rfl rfl <| rN <| ATodo.stop <| ImpX.lq [0, 1, 0] ⟨v22.2.L, v22.2.at_, v22.1, v2.1.Slot, v2.1.Body, v2.1.Prio, v2.1.At, v2.1.Until, h, rfl⟩ rfl rfl
        · refine have h := iteF hc h; tSR <| ARun.qv (q_eql rfl rfl) rfl <| rA rfl rfl <| rN <| ATodo.cut (fun σ' => ∃ (l23 : List Int) (n24 : Int) (q25 : Str) (q26 : Str) (n27 : Int) (n28 : Int) (n29 : Int), Stream_Letter_j3 v2 l23 n24 q25 q26 n27 n28 n29 = some r ∧ σ' = ⟨44, [(4, .ptr b1 0), (5, .ptr b3 0)], [(b_0, .cells [.list 1 (l23.map I), I n24]), (b1, .cells [.str [], .str [], .str [], I (0 : Int), I (0 : Int), I (0 : Int)]), (b3, .cells [.str v2.1.Id, .str q25, .str q26, I n27, I n28, I n29])]⟩) ?_ ?_
          · refine ATodo.cond_d rfl (fun hc => ?_) (fun hc => ?_)
            · exact have h := iteT hc h; tR <| rM rfl rfl <| n_buildSliceL (xs := ([([65] : Str), ([45] : Str)]).map AV.str) rfl rfl rfl rfl rfl rfl <| bndE h fun v30 e5 h => t_call0 rfl (Stream_Some_c e5) (CoL.refl _) (.cons .p0 .nil) rfl rfl <| rF rfl rfl rfl <| n_store_ptr rfl rfl rfl rfl .p1 rfl rfl <| rN <| ATodo.stop <| ImpX.lq [0, 1, 0] ⟨v30.2.L, v30.2.at_, v30.1, v2.1.Body, v2.1.Prio, v2.1.At, v2.1.Until, h, rfl⟩ rfl rfl
            · refine have h := iteF hc h; tSR <| ARun.qv (q_eql rfl rfl) rfl <| rA rfl rfl <| rN <| ATodo.cut (fun σ' => ∃ (l31 : List Int) (n32 : Int) (q33 : Str) (n34 : Int) (n35 : Int) (n36 : Int), Stream_Letter_j4 v2 l31 n32 q33 n34 n35 n36 = some r ∧ σ' = ⟨44, [(4, .ptr b1 0), (5, .ptr b3 0)], [(b_0, .cells [.list 1 (l31.map I), I n32]), (b1, .cells [.str [], .str [], .str [], I (0 : Int), I (0 : Int), I (0 : Int)]), (b3, .cells [.str v2.1.Id, .str v2.1.Slot, .str q33, I n34, I n35, I n36])]⟩) ?_ ?_
              · refine ATodo.cond_d rfl (fun hc => ?_) (fun hc => ?_)
                · exact have h := iteT hc h; tR <| rM rfl rfl <| bndE h fun v37 e6 h => r_callp rfl (strings_Repeat_c e6) (CoL.refl _) rfl <| n_buildSliceL (xs := ([([10] : Str), ([127] : Str), ([255] : Str), v37]).map AV.str) rfl rfl rfl rfl rfl rfl <| bndE h fun v38 e7 h => t_call0 rfl (Stream_Some_c e7) (CoL.refl _) (.cons .p0 .nil) rfl rfl <| rF rfl rfl rfl <| n_store_ptr rfl rfl rfl rfl .p1 rfl rfl <| rN <| ATodo.stop <| ImpX.lq [0, 1, 0] ⟨v38.2.L, v38.2.at_, v38.1, v2.1.Prio, v2.1.At, v2.1.Until, h, rfl⟩ rfl rfl
                · refine have h := iteF hc h; tSR <| ARun.qv (q_eql rfl rfl) rfl <| rA rfl rfl <| rN <| ATodo.cut (fun σ' => ∃ (l39 : List Int) (n40 : Int) (n41 : Int) (n42 : Int) (n43 : Int), Stream_Letter_j5 v2 l39 n40 n41 n42 n43 = some r ∧ σ' = ⟨44, [(4, .ptr b1 0), (5, .ptr b3 0)], [(b_0, .cells [.list 1 (l39.map I), I n40]), (b1, .cells [.str [], .str [], .str [], I (0 : Int), I (0 : Int), I (0 : Int)]), (b3, .cells [.str v2.1.Id, .str v2.1.Slot, .str v2.1.Body, I n41, I n42, I n43])]⟩) ?_ ?_
                  · refine ATodo.cond_d rfl (fun hc => ?_) (fun hc => ?_)
                    · exact have h := iteT hc h; tR <| rM rfl rfl <| bndE h fun v44 e8 h => t_call0 rfl (Stream_Odd_c e8) (CoL.refl _) (.cons .p0 .nil) rfl rfl <| rF rfl rfl rfl <| n_store_ptr rfl rfl rfl rfl .p1 rfl rfl <| rN <| ATodo.stop <| ImpX.lq [0, 1, 0] ⟨v44.2.L, v44.2.at_, v44.1, v2.1.At, v2.1.Until, h, rfl⟩ rfl rfl
                    · exact have h := iteF hc h; tR <| rM rfl rfl <| bndE h fun v45 e9 h => t_call0 rfl (Stream_Odd_c e9) (CoL.refl _) (.cons .p0 .nil) rfl rfl <| rM rfl rfl <| bndE h fun v46 e10 h => t_call0 rfl (Stream_Odd_c e10) (CoL.refl _) (.cons .p0 .nil) rfl rfl <| rF rfl rfl rfl <| n_store_ptr rfl rfl rfl rfl .p1 rfl rfl <| rF rfl rfl rfl <| n_store_ptr rfl rfl rfl rfl .p1 rfl rfl <| rN <| ATodo.stop <| ImpX.lq [0, 1, 0] ⟨v46.2.L, v46.2.at_, v2.1.Prio, v45.1, v46.1, h, rfl⟩ rfl rfl
                  · rintro σ' ⟨l39, n40, n41, n42, n43, h, rfl⟩
                    unfold Stream_Letter_j5 at h
                    exact ATodo.stop <| ImpX.lq [0, 0, 0] ⟨l39, n40, v2.1.Body, n41, n42, n43, h, rfl⟩ rfl rfl
              · rintro σ' ⟨l31, n32, q33, n34, n35, n36, h, rfl⟩
                unfold Stream_Letter_j4 at h
                exact ATodo.stop <| ImpX.lq [0, 0, 0] ⟨l31, n32, v2.1.Slot, q33, n34, n35, n36, h, rfl⟩ rfl rfl
          · rintro σ' ⟨l23, n24, q25, q26, n27, n28, n29, h, rfl⟩
            unfold Stream_Letter_j3 at h
            exact ATodo.stop <| ImpX.lq [0, 0, 0] ⟨l23, n24, v2.1.Id, q25, q26, n27, n28, n29, h, rfl⟩ rfl rfl
      · rintro σ' ⟨l14, n15, q16, q17, q18, n19, n20, n21, h, rfl⟩
        unfold Stream_Letter_j2 at h
        exact ATodo.blk <| ATodo.stop <| ImpX.lq [0, 0, 0] ⟨l14, n15, q16, q17, q18, n19, n20, n21, h, rfl⟩ rfl rfl
    · exact have h := iteFb hc h; tK <| ATodo.stop <| ImpX.lq [0, 1, 0] ⟨v4.2.L, v4.2.at_, v2.1.Id, v2.1.Slot, v2.1.Body, v2.1.Prio, v2.1.At, v2.1.Until, h, rfl⟩ rfl rfl
  · rintro σ' ⟨l5, n6, q7, q8, q9, n10, n11, n12, h, rfl⟩
    unfold Stream_Letter_j1 at h
    refine tSR <| ARun.qv (q_load_ptr_all rfl rfl .p2 rfl) rfl <| n_store_ptr rfl rfl rfl rfl .p1 rfl rfl <| rN <| ATodo.ret <| ?_
    obtain rfl := Option.some.inj h
    exact ImpX.here ⟨_, .cons (.all _ _ _ _ _ _ rfl .p1 TUnder.h TInfo.h rfl rfl) .nil, _, .cons .p0 .nil, ⟨rfl, rfl⟩⟩

set_option maxHeartbeats 4000000 in
theorem command_Doer_Do_1x_c [GI : GTab] {p0x0 : Command_done} {p1x0 : Letter} {r : Bool} (h : command_Doer_Do_1x p0x0 p1x0 = r) : Pu Tryz.prog 35 [.agg [.str p0x0.id_, I p0x0.until_], .rptr [.str p1x0.Id, .str p1x0.Slot, .str p1x0.Body, I p1x0.Prio, I p1x0.At, I p1x0.Until]] (.bool r) := by
  unfold command_Doer_Do_1x at h
  refine ACall.bodyN Tryz.func35 rfl Tryz.ntmps35 Tryz.results35 rfl rfl ?_
  refine tSR <| n_box rfl rfl rfl rfl fun b1 => rA rfl rfl <| rN <| tSR <| rF rfl rfl rfl <| rL rfl rfl .p0 rfl rfl <| ARun.qv (n_field_rptr rfl rfl) rfl <| ARun.qv (q_load_rptr rfl rfl rfl) rfl <| ARun.qv (q_seq rfl rfl) rfl <| rA rfl rfl <| rN <| ATodo.ret <| ?_
  obtain rfl := h
  exact ImpX.here ⟨_, .cons (.tmp _ _ rfl) .nil, rfl⟩

set_option maxHeartbeats 4000000 in
theorem slices_IndexFunc_command_done_command_done_c [GI : GTab] {p0x0 : List Command_done} {fnb : Command_done → Option Bool} {fnb_F : FuncId} [IsFn Tryz.prog fnb_F] {fnb_C : List AV} (fnb_h : ∀ {y0 : _} {u : Bool}, fnb y0 = some u → Pu Tryz.prog fnb_F (.agg [.str y0.id_, I y0.until_] ::  fnb_C) (.bool u)) {r : Int} (h : slices_IndexFunc_command_done_command_done p0x0 fnb = some r) : Pu Tryz.prog 79 [.list 2 (p0x0.map Command_done.av), .func (.func fnb_F) fnb_C] (I r) := by
  unfold slices_IndexFunc_command_done_command_done at h
  refine ACall.bodyN Tryz.func79 rfl Tryz.ntmps79 Tryz.results79 rfl rfl ?_
  refine tSR <| rA rfl rfl <| rN <| tS <| tSR <| rM rfl rfl <| ARun.qv (t_len rfl) rfl <| rM rfl rfl <| rN <| ATodo.block <| ATodo.loopI (fun x : Int => slices_IndexFunc_command_done_command_done_b1 p0x0 fnb x) (fun x σ' => σ' = ⟨19, [(0, .list 2 (p0x0.map Command_done.av)), (1, .func (.func fnb_F) fnb_C), (7, I (p0x0.length : Int)), (8, I x)], []⟩) h ?_ ?_
  · exact ImpX.lq [] rfl rfl rfl
  · intro n2 z1 σ' J1 hmk h hJ1 hA1
    obtain rfl := hmk
    replace h : slices_IndexFunc_command_done_command_done_b1 p0x0 fnb n2 = some z1 := h
    unfold slices_IndexFunc_command_done_command_done_b1 at h
    refine tSR <| ARun.qv (q_lss rfl rfl) rfl <| rN <| tS <| ATodo.cond_d rfl (fun hc => ?_) (fun hc => ?_)
    · refine have h := iteT hc h; tK <| tS <| ATodo.block <| tSR <| rM rfl rfl <| rA rfl rfl <| rN <| tSR <| rM rfl rfl <| rM rfl rfl <| rM rfl rfl <| bndE h fun v3 e1 h => ARun.qv (t_index rfl rfl rfl e1 rfl rfl) rfl <| ARun.qv (q_load_rptr_agg rfl rfl rfl) rfl <| bndE h fun v4 e2 h => r_callvp rfl rfl (fnb_h e2) (CoL.refl _) rfl <| rN <| ATodo.cond rfl (fun hc => ?_) (fun hc => ?_)
      · refine have h := iteT hc h; tSR <| rM rfl rfl <| rA rfl rfl <| rN <| ATodo.ret <| have h := outL h hA1; ?_
        obtain rfl := Option.some.inj h
        exact ImpX.here ⟨_, .cons (.tmp _ _ rfl) .nil, rfl⟩
      · refine have h := iteFb hc h; tK <| ATodo.blk <| tR <| ARun.qv (q_addw rfl rfl) rfl <| rM rfl rfl <| rN <| ATodo.stop <| ?_
        obtain rfl := Option.some.inj h
        exact hJ1 _ _ rfl <| ImpX.lq [] rfl rfl rfl
    · refine have h := iteF hc h; ATodo.exit rfl <| have h := outL h hA1; tSR <| rA rfl rfl <| rN <| ATodo.ret <| ?_
      obtain rfl := Option.some.inj h
      exact ImpX.here ⟨_, .cons (.tmp _ _ rfl) .nil, rfl⟩

set_option maxHeartbeats 4000000 in
theorem slices_ContainsFunc_command_done_command_done_c [GI : GTab] {p0x0 : List Command_done} {fnb : Command_done → Option Bool} {fnb_F : FuncId} [IsFn Tryz.prog fnb_F] {fnb_C : List AV} (fnb_h : ∀ {y0 : _} {u : Bool}, fnb y0 = some u → Pu Tryz.prog fnb_F (.agg [.str y0.id_, I y0.until_] ::  fnb_C) (.bool u)) {r : Bool} (h : slices_ContainsFunc_command_done_command_done p0x0 fnb = some r) : Pu Tryz.prog 34 [.list 2 (p0x0.map Command_done.av), .func (.func fnb_F) fnb_C] (.bool r) := by
  unfold slices_ContainsFunc_command_done_command_done at h
  refine ACall.bodyN Tryz.func34 rfl Tryz.ntmps34 Tryz.results34 rfl rfl ?_
  refine tSR <| rA rfl rfl <| rN <| tSR <| rM rfl rfl <| rM rfl rfl <| bndE h fun v1 e1 h => r_callpB rfl (slices_IndexFunc_command_done_command_done_c fnb_h e1) (.cons (.co (.refl _)) (.cons (.co (.refl _)) .nil)) rfl rfl <| ARun.qv (q_geq rfl rfl) rfl <| rA rfl rfl <| rN <| ATodo.ret <| ?_
  obtain rfl := Option.some.inj h
  exact ImpX.here ⟨_, .cons (.tmp _ _ rfl) .nil, rfl⟩

set_option maxHeartbeats 4000000 in
theorem slices_Clone_command_done_command_done_c [GI : GTab] {p0x0 : List Command_done} {r : (List Command_done)} (h : slices_Clone_command_done_command_done p0x0 = some r) : ACall Tryz.prog 36 [.list 2 (p0x0.map Command_done.av)] [] (T1 (fun d_0 => [(d_0, .arr 2 (r.map Command_done.av))]) (fun d_0 => .sl 2 d_0 0 r.length)) := by
  unfold slices_Clone_command_done_command_done at h
  refine ACall.lessH ?_
  refine ACall.bodyN Tryz.func36 rfl Tryz.ntmps36 Tryz.results36 rfl rfl ?_
  refine ATodo.seq ?_
  refine ATodo.region ?_
  refine ARun.qv (q_assign rfl) rfl ?_
  refine ARun.nil ?_
  refine ATodo.seq ?_
  refine ATodo.seq ?_
  refine ATodo.region ?_
  refine ARun.qv (q_move rfl) rfl ?_
  refine r_eqnil rfl rfl rfl rfl (fun c hc => ?_)
  refine ARun.nil ?_
  refine ATodo.cond rfl (fun hT => ?_) (fun hF => ?_)
  · obtain rfl := app_nil_some h (List.map_eq_nil_iff.1 (hc hT))
    refine ATodo.seq ?_
    refine ATodo.region ?_
    refine ARun.qv (q_assign rfl) rfl ?_
    refine ARun.nil ?_
    refine ATodo.ret ?_
    refine ImpX.arr (s := 2) 2 rfl (fun b1 => ?_)
    exact ImpX.here ⟨_, .cons (.tmp _ _ rfl) .nil, _, .cons .here .nil, ⟨b1, rfl, rfl⟩⟩
  · refine ATodo.skip ?_
    refine ATodo.seq ?_
    refine ATodo.region ?_
    refine n_buildSlice (xs := ([] : List Command_done).map Command_done.av) rfl rfl rfl rfl rfl rfl (fun b2 => ?_)
    refine ARun.qv (q_move rfl) rfl ?_
    refine t_append (g := Command_done.av) (Xs := []) rfl rfl rfl rfl rfl rfl rfl rfl (.list _) h (fun _ => .here) rfl (fun b3 => ?_)
    refine ARun.qv (q_assign rfl) rfl ?_
    refine ARun.nil ?_
    refine ATodo.ret ?_
    exact ImpX.here ⟨_, .cons (.tmp _ _ rfl) .nil, _, .cons .here .nil, ⟨b3, rfl, rfl⟩⟩

set_option maxHeartbeats 4000000 in
theorem slices_Delete_command_done_command_done_c [GI : GTab] {b_0 : Bk} {p0x0 : List Command_done} {p1x0 p2x0 : Int} {r : List Command_done} (h : slices_Delete_command_done_command_done p0x0 p1x0 p2x0 = some r) : ACall Tryz.prog 37 [.sl 2 b_0 0 p0x0.length, I p1x0, I p2x0] [(b_0, .arr 2 (p0x0.map Command_done.av))] (T1 (fun d_0 => [(d_0, .arr 2 (r.map Command_done.av))]) (fun d_0 => .sl 2 d_0 0 r.length)) := by
  obtain ⟨⟨h0, h1, h2⟩, rfl⟩ := delO_some h
  have hlen : 0 < p0x0.length := by omega
  have hz : (p0x0.take p1x0.toNat ++ p0x0.drop p2x0.toNat).length ≤ p0x0.length := by simp; omega
  refine ACall.lessH ?_
  refine ACall.bodyN Tryz.func37 rfl Tryz.ntmps37 Tryz.results37 rfl rfl ?_
  refine ATodo.ghost (ImpX.rawS (s := 0) rfl hlen (fun m cap hb hc1 hc2 => ImpX.here ?_))
  refine ATodo.seq ?_
  refine ATodo.region ?_
  refine ARun.qv (q_assign rfl) rfl ?_
  refine ARun.nil ?_
  refine ATodo.seq ?_
  refine ATodo.region ?_
  refine ARun.qv (q_move rfl) rfl ?_
  refine ARun.qv (q_move rfl) rfl ?_
  refine ARun.qv (q_move rfl) rfl ?_
  refine ARun.qv (q_move rfl) rfl ?_
  refine ARun.qv (q_len_raw rfl) rfl ?_
  refine ARun.qv (q_slice_raw3 rfl rfl rfl rfl h0 (by omega) h2 (by omega)) rfl ?_
  refine ARun.nil ?_
  refine ATodo.seq ?_
  refine ATodo.seq ?_
  refine ATodo.region ?_
  refine ARun.qv (q_move rfl) rfl ?_
  refine ARun.qv (q_move rfl) rfl ?_
  refine ARun.qv (q_eql rfl rfl) rfl ?_
  refine ARun.nil ?_
  refine ATodo.cond_d rfl (fun hc => absurd hc (by omega)) (fun hc => ?_)
  refine ATodo.skip ?_
  refine ATodo.seq ?_
  refine ATodo.region ?_
  refine ARun.qv (q_move rfl) rfl ?_
  refine ARun.qv (q_len_raw rfl) rfl ?_
  refine ARun.qv (q_assign rfl) rfl ?_
  refine ARun.nil ?_
  refine ATodo.seq ?_
  refine ATodo.regionM (id := 5) (A := [0, 0, 3, 0, 0, 24, 63, 127]) 6 mixed rfl (by kernel_rfl) (by kernel_rfl) ?_
  refine AM.qv (q_move rfl) rfl ?_
  refine AM.qv (q_move rfl) rfl ?_
  refine AM.qv (q_slice_raw0 rfl rfl h0 (by omega)) rfl ?_
  refine AM.qv (q_move rfl) rfl ?_
  refine AM.qv (q_move rfl) rfl ?_
  refine AM.qv (q_slice_raw1 (sz := 2) (b := b_0) rfl rfl rfl hb hc2 (by omega) h2 hc1) rfl ?_
  refine AM.nil ?_
  refine t_delAppend (g := Command_done.av) (Xs := p0x0) (I' := p1x0) (J := p2x0) h0 (by omega) h2 hc1 rfl rfl rfl rfl rfl hb hc2 .here .here ?_
  refine ARun.qv (q_assign rfl) rfl ?_
  refine ARun.nil ?_
  refine ATodo.seq ?_
  refine ATodo.region ?_
  refine ARun.qv (q_move rfl) rfl ?_
  refine ARun.qv (q_move rfl) rfl ?_
  refine ARun.qv (q_len_raw rfl) rfl ?_
  refine ARun.qv (q_move rfl) rfl ?_
  refine ARun.qv (q_slice_raw2 (sz := 2) (b := b_0) rfl rfl rfl rfl hb hc2 (by omega) (by omega) (by omega)) rfl ?_
  refine r_clear_room (xs := (p0x0.take p1x0.toNat ++ p0x0.drop p2x0.toNat).map Command_done.av) rfl rfl rfl rfl rfl rfl (by rw [List.length_map, Int.toNat_natCast]; exact Nat.le_refl _) .here ?_
  refine ARun.nil ?_
  refine ATodo.seq ?_
  refine ATodo.region ?_
  refine ARun.qv (q_move rfl) rfl ?_
  refine ARun.qv (q_assign rfl) rfl ?_
  refine ARun.nil ?_
  refine ATodo.ret ?_
  refine ImpX.unrawS (s := 6) (sz := 2) rfl hb (by omega) hc2 ?_
  exact ImpX.here ⟨_, .cons (.tmp _ _ rfl) .nil, _, .cons .here .nil, ⟨b_0, rfl, rfl⟩⟩

set_option maxHeartbeats 4000000 in
theorem command_Doer_Do_c {b_0 : Bk} {b_0x1 : Bk} {p0x0 : Command_Doer} {p1x0 : Letter} {p2x0 : Int} {r : Bool × Int × Command_Doer} (h : command_Doer_Do p0x0 p1x0 p2x0 = some r) : ACall Tryz.prog 12 [.ptr b_0 0, .agg [.str p1x0.Id, .str p1x0.Slot, .str p1x0.Body, I p1x0.Prio, I p1x0.At, I p1x0.Until], I p2x0] [(b_0, .cells [I p0x0.most_, .sl 2 b_0x1 0 p0x0.l_.length, I p0x0.time_]), (b_0x1, .arr 2 (p0x0.l_.map Command_done.av))] (T1 (fun c_0x1 => [(b_0, .cells [I r.2.2.most_, .sl 2 c_0x1 0 r.2.2.l_.length, I r.2.2.time_]), (c_0x1, .arr 2 (r.2.2.l_.map Command_done.av))]) (fun c_0x1 => .tup [.bool r.1, I r.2.1])) := by
  unfold command_Doer_Do at h
  refine ACall.lessH ?_
  refine ACall.bodyN Tryz.func12 rfl Tryz.ntmps12 Tryz.results12 rfl rfl ?_
  refine tSR <| n_box rfl rfl rfl rfl fun b1 => rA rfl rfl <| rA rfl rfl <| rN <| tS <| tSR <| ARun.qv (q_load_ptr_all rfl rfl .p0 rfl) rfl <| bndE h fun v2 e1 h => r_callp rfl (command_CheckLetter_c e1) (CoL.refl _) rfl <| rA rfl rfl <| rN <| tSR <| rM rfl rfl <| ARun.qv (q_neq rfl rfl) rfl <| rN <| ATodo.cond_d rfl (fun hc => ?_) (fun hc => ?_)
  · refine have h := iteT hc h; tSR <| rM rfl rfl <| rA rfl rfl <| rA rfl rfl <| rN <| ATodo.ret <| ?_
    obtain rfl := Option.some.inj h
    exact ImpX.here ⟨_, .cons (.tmp _ _ rfl) (.cons (.tmp _ _ rfl) .nil), _, .cons .p1 (.cons .p1 .nil), ⟨b_0x1, rfl, rfl⟩⟩
  · refine have h := iteF hc h; tK <| tS <| ATodo.block <| tSR <| rM rfl rfl <| r_callp rfl (base_Moment_c rfl) (CoL.refl _) rfl <| ARun.qv (q_not rfl) rfl <| rA rfl rfl <| rN <| ATodo.cond rfl (fun hc => ?_) (fun hc => ?_)
    · refine have h := iteT hc h; tSR <| rA rfl rfl <| rA rfl rfl <| rN <| ATodo.ret <| ?_
      obtain rfl := Option.some.inj h
      exact ImpX.here ⟨_, .cons (.tmp _ _ rfl) (.cons (.tmp _ _ rfl) .nil), _, .cons .p1 (.cons .p1 .nil), ⟨b_0x1, rfl, rfl⟩⟩
    · refine have h := iteFb hc h; tSR <| rM rfl rfl <| rM rfl rfl <| ARun.qv (q_nilCheck_ptr rfl) rfl <| rF rfl rfl rfl <| rL rfl rfl .p1 rfl rfl <| ARun.qv (q_lss rfl rfl) rfl <| rA rfl rfl <| rN <| ATodo.cond_d rfl (fun hc => ?_) (fun hc => ?_)
      · refine have h := iteT hc h; tSR <| rA rfl rfl <| rA rfl rfl <| rN <| ATodo.ret <| ?_
        obtain rfl := Option.some.inj h
        exact ImpX.here ⟨_, .cons (.tmp _ _ rfl) (.cons (.tmp _ _ rfl) .nil), _, .cons .p1 (.cons .p1 .nil), ⟨b_0x1, rfl, rfl⟩⟩
      · refine have h := iteF hc h; tK <| ATodo.blk <| tS <| tS <| ATodo.cut (fun σ' => ∃ (c3 : Bool), command_Doer_Do_j1 p0x0 p1x0 p2x0 c3 = some r ∧ σ' = ⟨101, [(0, .ptr b_0 0), (2, I p2x0), (4, .ptr b1 0), (40, .bool c3)], [(b_0, .cells [I p0x0.most_, .sl 2 b_0x1 0 p0x0.l_.length, I p0x0.time_]), (b_0x1, .arr 2 (p0x0.l_.map Command_done.av)), (b1, .cells [.str p1x0.Id, .str p1x0.Slot, .str p1x0.Body, I p1x0.Prio, I p1x0.At, I p1x0.Until])]⟩) ?_ ?_
        · refine tR <| rF rfl rfl rfl <| rL rfl rfl .p0 rfl rfl <| rM rfl rfl <| ARun.qv (q_leq rfl rfl) rfl <| rM rfl rfl <| ARun.guard_df rfl rfl rfl (fun hc => ?_) (fun hc => ?_)
          · exact have h := iteF hc h; rM rfl rfl <| rY rfl rfl rfl <| ARun.qv (q_nilCheck_ptr rfl) rfl <| rY rfl rfl rfl <| rF rfl rfl rfl <| rY rfl rfl rfl <| rL rfl rfl .p1 rfl rfl <| rY rfl rfl rfl <| ARun.qv (q_makeFunc rfl) rfl <| rY rfl rfl rfl <| bndE h fun v4 e2 h => r_callpB rfl (slices_ContainsFunc_command_done_command_done_c (fun e => command_Doer_Do_1x_c (Option.some.inj e)) e2) (.cons (CoB.arrT .p2) (.cons (.funcL _ _ _ (.cons (.boxL _ _ _ .p0 (.cons (.co (.refl _)) (.cons (.co (.refl _)) (.cons (.co (.refl _)) (.cons (.co (.refl _)) (.cons (.co (.refl _)) (.cons (.co (.refl _)) .nil))))))) .nil)) .nil)) rfl rfl <| rE rfl rfl rfl <| rN <| ATodo.stop <| ImpX.lq [1, 1, 0] ⟨v4, h, rfl⟩ rfl rfl
          · exact have h := iteT hc h; rG rfl rfl rfl rfl <| rG rfl rfl rfl rfl <| rG rfl rfl rfl rfl <| rG rfl rfl rfl rfl <| rG rfl rfl rfl rfl <| rT rfl rfl rfl <| rN <| ATodo.stop <| ImpX.lq [1, 1, 0] ⟨true, h, rfl⟩ rfl rfl
        · rintro σ' ⟨c3, h, rfl⟩
          unfold command_Doer_Do_j1 at h
          refine ATodo.cond rfl (fun hc => ?_) (fun hc => ?_)
          · refine have h := iteT hc h; tSR <| rM rfl rfl <| rM rfl rfl <| ARun.qv (q_nilCheck_ptr rfl) rfl <| rF rfl rfl rfl <| n_store_ptr rfl rfl rfl rfl .p0 rfl rfl <| rN <| tSR <| rA rfl rfl <| rA rfl rfl <| rN <| ATodo.ret <| ?_
            obtain rfl := Option.some.inj h
            exact ImpX.here ⟨_, .cons (.tmp _ _ rfl) (.cons (.tmp _ _ rfl) .nil), _, .cons .p0 (.cons .p0 .nil), ⟨b_0x1, rfl, rfl⟩⟩
          · refine have h := iteFb hc h; tK <| tS <| bndE h fun v5 e3 h => ATodo.regionT (id := 11) (A := [0, 1, 3, 7, 15, 0, 32, 0, 128, 480, 992, 2047, 4095]) (H0 := []) (HH := fun β => [((β 4), .arr 2 (v5.map Command_done.av)), (b_0, .cells [I p0x0.most_, .sl 2 b_0x1 0 p0x0.l_.length, I p0x0.time_]), (b_0x1, .arr 2 (p0x0.l_.map Command_done.av)), (b1, .cells [.str p1x0.Id, .str p1x0.Slot, .str p1x0.Body, I p1x0.Prio, I p1x0.At, I p1x0.Until])]) 11 mixed rfl (by kernel_rfl) (by kernel_rfl) [⟨some 4, none, [], fun b => (b, .arr 2 (v5.map Command_done.av)), none⟩] [4] rfl (by kernel_rfl) rfl .nil (fun _ => rfl) <| AT.am 4 rfl rfl <| AM.qv (q_move rfl) rfl <| AM.qv (q_nilCheck_ptr rfl) rfl <| AM.qv (n_field_ptr rfl rfl) rfl <| AM.qv (q_load_ptr rfl rfl .p0 rfl) rfl <| AM.nil <| AT.runD (V := fun b => .sl 2 b 0 v5.length) (Ti := []) (Pi := fun b => [(b, .arr 2 (v5.map Command_done.av))]) (fun _ => rfl) (fun _ => rfl) (fun _ _ => rfl) rfl (fun _ => rfl) rfl rfl rfl ?_ ?_
            · exact t_callL1 rfl (slices_Clone_command_done_command_done_c e3) .nil (.cons (CoB.arrT .p1) .nil) (fun _ => rfl) (fun _ => rfl) (fun _ => (.cons (NoS.arrT (fun _ => rfl)) .nil)) rfl fun b6 => ARun.nil ⟨b6, _, rfl, rfl⟩
            refine AT.am 6 rfl rfl <| AM.qv (n_field_ptr rfl rfl) rfl <| AM.qv (q_load_ptr rfl rfl .p2 rfl) rfl <| AM.qv (n_field_ptr rfl rfl) rfl <| AM.qv (q_load_ptr rfl rfl .p2 rfl) rfl <| AM.qv (n_build rfl rfl rfl rfl rfl) rfl <| AM.buildSliceL (xs := ([(⟨p1x0.Id, p1x0.Until⟩ : Command_done)]).map Command_done.av) rfl rfl rfl rfl rfl rfl <| AM.nil <| AT.nilN (fun _ => rfl) fun β => ?_
            generalize β 4 = b6
            clear β
            refine bndE h fun l7 e4 h => t_append (g := Command_done.av) rfl rfl rfl rfl rfl rfl rfl rfl (.list _) e4 (fun _ => .p0) rfl fun b8 => rA rfl rfl <| rN <| tS <| ATodo.block <| ATodo.loopI (fun x : (List Command_done) => command_Doer_Do_b1 p0x0 p2x0 x) (fun x σ' => ∃ (b11 : Bk), σ' = ⟨101, [(0, .ptr b_0 0), (2, I p2x0), (9, .sl 2 b11 0 x.length)], [(b_0, .cells [I p0x0.most_, .sl 2 b_0x1 0 p0x0.l_.length, I p0x0.time_]), (b_0x1, .arr 2 (p0x0.l_.map Command_done.av)), (b11, .arr 2 (x.map Command_done.av))]⟩) h ?_ ?_
            · exact ImpX.lq [1, 1, 0] ⟨b8, rfl⟩ rfl rfl
            · intro l12 z1 σ' J1 hmk h hJ1 hA1
              obtain ⟨b11, rfl⟩ := hmk
              replace h : command_Doer_Do_b1 p0x0 p2x0 l12 = some z1 := h
              unfold command_Doer_Do_b1 at h
              refine tS <| tSR <| rM rfl rfl <| ARun.qv (t_len_sl rfl) rfl <| rM rfl rfl <| ARun.qv (q_nilCheck_ptr rfl) rfl <| rF rfl rfl rfl <| rL rfl rfl .p0 rfl rfl <| ARun.qv (q_gtr rfl rfl) rfl <| rN <| ATodo.cond_d rfl (fun hc => ?_) (fun hc => ?_)
              · refine have h := iteT hc h; tK <| ATodo.block <| tSR <| rA rfl rfl <| rN <| tS <| tSR <| rM rfl rfl <| ARun.qv (t_len_sl rfl) rfl <| rM rfl rfl <| rN <| ATodo.block <| ATodo.loopI (fun x : Int × Int => command_Doer_Do_b2 p0x0 p2x0 l12 x.1 x.2) (fun x σ' => σ' = ⟨101, [(0, .ptr b_0 0), (2, I p2x0), (9, .sl 2 b11 0 l12.length), (10, I x.1), (64, .sl 2 b11 0 l12.length), (65, I (l12.length : Int)), (66, I x.2)], [(b_0, .cells [I p0x0.most_, .sl 2 b_0x1 0 p0x0.l_.length, I p0x0.time_]), (b_0x1, .arr 2 (p0x0.l_.map Command_done.av)), (b11, .arr 2 (l12.map Command_done.av))]⟩) h ?_ ?_
                · exact ImpX.lq [0, 0, 0] rfl rfl rfl
                · intro x z2 σ' J2 hmk h hJ2 hA2
                  obtain ⟨n16, n17⟩ := x
                  obtain rfl := hmk
                  replace h : command_Doer_Do_b2 p0x0 p2x0 l12 n16 n17 = some z2 := h
                  unfold command_Doer_Do_b2 at h
                  refine tSR <| ARun.qv (q_lss rfl rfl) rfl <| rN <| tS <| ATodo.cond_d rfl (fun hc => ?_) (fun hc => ?_)
                  · refine have h := iteT hc h; tK <| tS <| ATodo.block <| tSR <| rM rfl rfl <| bndE h fun v18 e5 h => ARun.qv (t_index_sl rfl rfl rfl e5) rfl <| ARun.qv (t_load_aptr_agg (g := Command_done.av) rfl rfl (.inl .p2) rfl e5 rfl) rfl <| n_alloc rfl rfl rfl rfl fun b19 => rA rfl rfl <| n_store_ptr rfl rfl rfl rfl .p0 rfl rfl <| rN <| tS <| ATodo.regionM (id := 17) (A := [0, 1, 0, 0, 12, 28, 60, 127]) 8 mixed rfl (by kernel_rfl) (by kernel_rfl) <| AM.qv (n_field_ptr rfl rfl) rfl <| AM.qv (q_load_ptr rfl rfl .p0 rfl) rfl <| AM.qv (q_move rfl) rfl <| AM.qv (q_move rfl) rfl <| bndE h fun v20 e6 h => AM.qv (t_index_sl rfl rfl rfl e6) rfl <| AM.qv (t_field_aptr rfl rfl) rfl <| AM.qv (t_load_aptr (g := Command_done.av) rfl rfl (.inl .p3) e6 rfl) rfl <| AM.qv (q_lss rfl rfl) rfl <| AM.nil <| rN <| ATodo.cut (fun σ' => ∃ (n21 : Int), command_Doer_Do_j2 n17 n21 = some z2 ∧ σ' = ⟨101, [(0, .ptr b_0 0), (2, I p2x0), (9, .sl 2 b11 0 l12.length), (10, I n21), (64, .sl 2 b11 0 l12.length), (65, I (l12.length : Int)), (66, I n17)], [(b_0, .cells [I p0x0.most_, .sl 2 b_0x1 0 p0x0.l_.length, I p0x0.time_]), (b_0x1, .arr 2 (p0x0.l_.map Command_done.av)), (b11, .arr 2 (l12.map Command_done.av))]⟩) ?_ ?_
                    · refine ATodo.cond_d rfl (fun hc => ?_) (fun hc => ?_)
                      · exact have h := iteT hc h; tR <| rM rfl rfl <| rA rfl rfl <| rN <| ATodo.stop <| ImpX.lq [1, 1, 1] ⟨n17, h, rfl⟩ rfl rfl
                      · exact have h := iteF hc h; tK <| ATodo.stop <| ImpX.lq [1, 1, 1] ⟨n16, h, rfl⟩ rfl rfl
                    · rintro σ' ⟨n21, h, rfl⟩
                      unfold command_Doer_Do_j2 at h
                      refine ATodo.blk <| tR <| ARun.qv (q_addw rfl rfl) rfl <| rM rfl rfl <| rN <| ATodo.stop <| ?_
                      obtain rfl := Option.some.inj h
                      exact hJ2 _ _ rfl <| ImpX.lq [0, 0, 0] rfl rfl rfl
                  · refine have h := iteF hc h; ATodo.exit rfl <| have h := outL h hA2; ?_
                    unfold command_Doer_Do_k3 at h
                    refine tS <| tSR <| rM rfl rfl <| rM rfl rfl <| bndE h fun v22 e7 h => ARun.qv (t_index_sl rfl rfl rfl e7) rfl <| ARun.qv (t_field_aptr rfl rfl) rfl <| ARun.qv (t_load_aptr (g := Command_done.av) rfl rfl (.inl .p2) e7 rfl) rfl <| rM rfl rfl <| ARun.qv (q_gtr rfl rfl) rfl <| rN <| ATodo.cond_d rfl (fun hc => ?_) (fun hc => ?_)
                    · refine have h := iteT hc h; tSR <| rA rfl rfl <| rA rfl rfl <| rN <| ATodo.ret <| have h := outL h hA1; ?_
                      obtain rfl := Option.some.inj h
                      exact ImpX.here ⟨_, .cons (.tmp _ _ rfl) (.cons (.tmp _ _ rfl) .nil), _, .cons .p0 (.cons .p0 .nil), ⟨b_0x1, rfl, rfl⟩⟩
                    · refine have h := iteF hc h; tK <| tR <| rM rfl rfl <| rM rfl rfl <| rM rfl rfl <| ARun.qv (q_addw rfl rfl) rfl <| bndE h fun v23 e8 h => t_call1 rfl (slices_Delete_command_done_command_done_c e8) (CoL.refl _) (.cons .p2 .nil) (fun _ => rfl) rfl fun b24 => rA rfl rfl <| rN <| ATodo.blk <| ATodo.stop <| ?_
                      obtain rfl := Option.some.inj h
                      exact hJ1 _ _ rfl <| ImpX.lq [1, 1, 0] ⟨b24, rfl⟩ rfl rfl
              · refine have h := iteF hc h; ATodo.exit rfl <| have h := outL h hA1; tSR <| rM rfl rfl <| rM rfl rfl <| rM rfl rfl <| rM rfl rfl <| ARun.qv (q_nilCheck_ptr rfl) rfl <| rF rfl rfl rfl <| n_store_ptr rfl rfl rfl rfl .p0 rfl rfl <| ARun.qv (q_nilCheck_ptr rfl) rfl <| rF rfl rfl rfl <| n_store_ptr rfl rfl rfl rfl .p0 rfl rfl <| rN <| tSR <| rA rfl rfl <| rA rfl rfl <| rN <| ATodo.ret <| ?_
                obtain rfl := Option.some.inj h
                exact ImpX.here ⟨_, .cons (.tmp _ _ rfl) (.cons (.tmp _ _ rfl) .nil), _, .cons .p0 (.cons .p1 .nil), ⟨b11, rfl, rfl⟩⟩

set_option maxHeartbeats 4000000 in
theorem Q_in_c [GI : GTab] {p0x0 : Int} {p1x0 : Int} {p2x0 : Int} {r : Bool} (h : Q_in p0x0 p1x0 p2x0 = r) : Pu Tryz.prog 46 [I p0x0, I p1x0, I p2x0] (.bool r) := by
  unfold Q_in at h
  refine ACall.bodyN Tryz.func46 rfl Tryz.ntmps46 Tryz.results46 rfl rfl ?_
  refine tSR <| rA rfl rfl <| rN <| tS <| ATodo.cut (fun σ' => ∃ (c1 : Bool), Q_in_j1 c1 = r ∧ σ' = ⟨15, [(6, .bool c1)], []⟩) ?_ ?_
  · refine tR <| rM rfl rfl <| rM rfl rfl <| ARun.qv (q_leq rfl rfl) rfl <| rM rfl rfl <| ARun.guard_dt rfl rfl rfl (fun hc => ?_) (fun hc => ?_)
    · rw [andTd hc] at h
      exact rM rfl rfl <| rY rfl rfl rfl <| rM rfl rfl <| rY rfl rfl rfl <| ARun.qv (q_leq rfl rfl) rfl <| rT rfl rfl rfl <| rA rfl rfl <| rN <| ATodo.stop <| ImpX.lq [] ⟨decide (p0x0 ≤ p2x0), h, rfl⟩ rfl rfl
    · rw [andFd hc] at h
      exact rG rfl rfl rfl rfl <| rG rfl rfl rfl rfl <| rE rfl rfl rfl <| rA rfl rfl <| rN <| ATodo.stop <| ImpX.lq [] ⟨false, h, rfl⟩ rfl rfl
  · rintro σ' ⟨c1, h, rfl⟩
    unfold Q_in_j1 at h
    refine ATodo.ret <| ?_
    obtain rfl := h
    exact ImpX.here ⟨_, .cons (.tmp _ _ rfl) .nil, rfl⟩

set_option maxHeartbeats 4000000 in
theorem Q_only_c [GI : GTab] {p0x0 : Str} {p1x0 : Str} {r : Bool} (h : Q_only p0x0 p1x0 = some r) : Pu Tryz.prog 111 [.str p0x0, .str p1x0] (.bool r) := by
  unfold Q_only at h
  refine ACall.bodyN Tryz.func111 rfl Tryz.ntmps111 Tryz.results111 rfl rfl ?_
  refine tSR <| rA rfl rfl <| rN <| tS <| tSR <| rM rfl rfl <| ARun.qv (q_len_str rfl) rfl <| rM rfl rfl <| rN <| ATodo.block <| ATodo.loopI (fun x : Int => Q_only_b1 p0x0 p1x0 x) (fun x σ' => σ' = ⟨18, [(0, .str p0x0), (1, .str p1x0), (7, I (p0x0.length : Int)), (8, I x)], []⟩) h ?_ ?_
  · exact ImpX.lq [] rfl rfl rfl
  · intro n2 z1 σ' J1 hmk h hJ1 hA1
    obtain rfl := hmk
    replace h : Q_only_b1 p0x0 p1x0 n2 = some z1 := h
    unfold Q_only_b1 at h
    refine tSR <| ARun.qv (q_lss rfl rfl) rfl <| rN <| tS <| ATodo.cond_d rfl (fun hc => ?_) (fun hc => ?_)
    · refine have h := iteT hc h; tK <| tS <| ATodo.block <| tSR <| rM rfl rfl <| rA rfl rfl <| rN <| tSR <| rM rfl rfl <| rM rfl rfl <| rM rfl rfl <| bndE h fun c3 e1 h => ARun.qv (t_index_str rfl rfl e1) rfl <| r_callp rfl (strings_IndexByte_c rfl) (CoL.refl _) rfl <| ARun.qv (q_lss rfl rfl) rfl <| rN <| ATodo.cond_d rfl (fun hc => ?_) (fun hc => ?_)
      · refine have h := iteT hc h; tSR <| rA rfl rfl <| rN <| ATodo.ret <| have h := outL h hA1; ?_
        obtain rfl := Option.some.inj h
        exact ImpX.here ⟨_, .cons (.tmp _ _ rfl) .nil, rfl⟩
      · refine have h := iteF hc h; tK <| ATodo.blk <| tR <| ARun.qv (q_addw rfl rfl) rfl <| rM rfl rfl <| rN <| ATodo.stop <| ?_
        obtain rfl := Option.some.inj h
        exact hJ1 _ _ rfl <| ImpX.lq [] rfl rfl rfl
    · refine have h := iteF hc h; ATodo.exit rfl <| have h := outL h hA1; tSR <| rA rfl rfl <| rN <| ATodo.ret <| ?_
      obtain rfl := Option.some.inj h
      exact ImpX.here ⟨_, .cons (.tmp _ _ rfl) .nil, rfl⟩

set_option maxHeartbeats 4000000 in
theorem Q_Key_c [GI : GTab] {p0x0 : Str} {r : Bool} (h : Q_Key p0x0 = some r) : Pu Tryz.prog 80 [.str p0x0] (.bool r) := by
  unfold Q_Key at h
  refine ACall.bodyN Tryz.func80 rfl Tryz.ntmps80 Tryz.results80 rfl rfl ?_
  refine tSR <| rA rfl rfl <| rN <| tS <| ATodo.cut (fun σ' => ∃ (c1 : Bool), Q_Key_j1 c1 = some r ∧ σ' = ⟨15, [(2, .bool c1)], []⟩) ?_ ?_
  · refine tR <| rM rfl rfl <| ARun.qv (q_len_str rfl) rfl <| r_callp rfl (Q_in_c rfl) (CoL.refl _) rfl <| rM rfl rfl <| ARun.guard rfl rfl rfl (fun hc => ?_) (fun hc => ?_)
    · refine have h := iteT hc h; rM rfl rfl <| rY rfl rfl rfl <| bndE h fun l2 e1 h => ARun.qv (t_slice_str rfl .none (.some _ _ _ rfl) rfl rfl e1) rfl <| rY rfl rfl rfl <| bndE h fun v3 e2 h => r_callp rfl (Q_only_c e2) (CoL.refl _) rfl <| rT rfl rfl rfl <| rM rfl rfl <| ARun.guard rfl rfl rfl (fun hc => ?_) (fun hc => ?_)
      · exact have h := iteT hc h; rM rfl rfl <| rY rfl rfl rfl <| bndE h fun v4 e3 h => r_callp rfl (Q_only_c e3) (CoL.refl _) rfl <| rT rfl rfl rfl <| rA rfl rfl <| rN <| ATodo.stop <| ImpX.lq [] ⟨v4, h, rfl⟩ rfl rfl
      · exact have h := iteFb hc h; rG rfl rfl rfl rfl <| rE rfl rfl rfl <| rA rfl rfl <| rN <| ATodo.stop <| ImpX.lq [] ⟨false, h, rfl⟩ rfl rfl
    · exact have h := iteFb hc h; rG rfl rfl rfl rfl <| rG rfl rfl rfl rfl <| rE rfl rfl rfl <| rM rfl rfl <| rG rfl rfl rfl rfl <| rG rfl rfl rfl rfl <| rE rfl rfl rfl <| rA rfl rfl <| rN <| ATodo.stop <| ImpX.lq [] ⟨false, h, rfl⟩ rfl rfl
  · rintro σ' ⟨c1, h, rfl⟩
    unfold Q_Key_j1 at h
    refine ATodo.ret <| ?_
    obtain rfl := Option.some.inj h
    exact ImpX.here ⟨_, .cons (.tmp _ _ rfl) .nil, rfl⟩

set_option maxHeartbeats 4000000 in
theorem Q_Printed_1x_c [GI : GTab] {p0x0 : Int} {r : Bool} (h : Q_Printed_1x p0x0 = r) : Pu Tryz.prog 113 [.int .i32 p0x0] (.bool r) := by
  unfold Q_Printed_1x at h
  refine ACall.bodyN Tryz.func113 rfl Tryz.ntmps113 Tryz.results113 rfl rfl ?_
  refine tSR <| rA rfl rfl <| rN <| tS <| ATodo.cut (fun σ' => ∃ (c1 : Bool), Q_Printed_1x_j1 c1 = r ∧ σ' = ⟨9, [(2, .bool c1)], []⟩) ?_ ?_
  · refine tR <| rM rfl rfl <| ARun.qv (q_lss rfl rfl) rfl <| rM rfl rfl <| ARun.guard_df rfl rfl rfl (fun hc => ?_) (fun hc => ?_)
    · rw [orFd hc] at h
      exact rM rfl rfl <| rY rfl rfl rfl <| ARun.qv (q_eql rfl rfl) rfl <| rE rfl rfl rfl <| rA rfl rfl <| rN <| ATodo.stop <| ImpX.lq [] ⟨decide (p0x0 = (127 : Int)), h, rfl⟩ rfl rfl
    · rw [orTd hc] at h
      exact rG rfl rfl rfl rfl <| rT rfl rfl rfl <| rA rfl rfl <| rN <| ATodo.stop <| ImpX.lq [] ⟨true, h, rfl⟩ rfl rfl
  · rintro σ' ⟨c1, h, rfl⟩
    unfold Q_Printed_1x_j1 at h
    refine ATodo.ret <| ?_
    obtain rfl := h
    exact ImpX.here ⟨_, .cons (.tmp _ _ rfl) .nil, rfl⟩

set_option maxHeartbeats 4000000 in
theorem Q_Printed_c {p0x0 : Str} {r : Bool} (h : Q_Printed p0x0 = some r) : Pu Tryz.prog 81 [.str p0x0] (.bool r) := by
  unfold Q_Printed at h
  refine ACall.bodyN Tryz.func81 rfl Tryz.ntmps81 Tryz.results81 rfl rfl ?_
  refine tSR <| rA rfl rfl <| rN <| tS <| ATodo.cut (fun σ' => ∃ (c1 : Bool), Q_Printed_j1 c1 = some r ∧ σ' = ⟨10, [(2, .bool c1)], []⟩) ?_ ?_
  · refine tR <| rM rfl rfl <| bndE h fun v2 e1 h => r_callp rfl (utf8_ValidString_c e1) (CoL.refl _) rfl <| rM rfl rfl <| ARun.guard rfl rfl rfl (fun hc => ?_) (fun hc => ?_)
    · exact have h := iteT hc h; rM rfl rfl <| rY rfl rfl rfl <| bndE h fun v3 e2 h => r_callpB rfl (strings_ContainsFunc_c (fun e => Q_Printed_1x_c (Option.some.inj e)) e2) (.cons (.co (.refl _)) (.cons (.funcL _ _ _ .nil) .nil)) rfl rfl <| rY rfl rfl rfl <| ARun.qv (q_not rfl) rfl <| rT rfl rfl rfl <| rA rfl rfl <| rN <| ATodo.stop <| ImpX.lq [] ⟨!v3, h, rfl⟩ rfl rfl
    · exact have h := iteFb hc h; rG rfl rfl rfl rfl <| rG rfl rfl rfl rfl <| rE rfl rfl rfl <| rA rfl rfl <| rN <| ATodo.stop <| ImpX.lq [] ⟨false, h, rfl⟩ rfl rfl
  · rintro σ' ⟨c1, h, rfl⟩
    unfold Q_Printed_j1 at h
    refine ATodo.ret <| ?_
    obtain rfl := Option.some.inj h
    exact ImpX.here ⟨_, .cons (.tmp _ _ rfl) .nil, rfl⟩

set_option maxHeartbeats 4000000 in
theorem Q_Moment_c [GI : GTab] {p0x0 : Int} {r : Bool} (h : Q_Moment p0x0 = r) : Pu Tryz.prog 39 [I p0x0] (.bool r) := by
  unfold Q_Moment at h
  refine ACall.bodyN Tryz.func39 rfl Tryz.ntmps39 Tryz.results39 rfl rfl ?_
  refine tSR <| rA rfl rfl <| rN <| tSR <| rM rfl rfl <| r_callp rfl (Q_in_c rfl) (CoL.refl _) rfl <| rA rfl rfl <| rN <| ATodo.ret <| ?_
  obtain rfl := h
  exact ImpX.here ⟨_, .cons (.tmp _ _ rfl) .nil, rfl⟩

set_option maxHeartbeats 4000000 in
theorem Q_LetterFault_c {p0x0 : Letter} {r : Int} (h : Q_LetterFault p0x0 = some r) : Pu Tryz.prog 38 [.agg [.str p0x0.Id, .str p0x0.Slot, .str p0x0.Body, I p0x0.Prio, I p0x0.At, I p0x0.Until]] (I r) := by
  unfold Q_LetterFault at h
  refine ACall.bodyN Tryz.func38 rfl Tryz.ntmps38 Tryz.results38 rfl rfl ?_
  refine tSR <| n_box rfl rfl rfl rfl fun b1 => rA rfl rfl <| rN <| tS <| ATodo.block <| tS <| ATodo.cut (fun σ' => ∃ (c2 : Bool), Q_LetterFault_j1 p0x0 c2 = some r ∧ σ' = ⟨52, [(1, .ptr b1 0), (3, .bool c2)], [(b1, .cells [.str p0x0.Id, .str p0x0.Slot, .str p0x0.Body, I p0x0.Prio, I p0x0.At, I p0x0.Until])]⟩) ?_ ?_
  · refine tR <| rF rfl rfl rfl <| rL rfl rfl .p0 rfl rfl <| bndE h fun v3 e1 h => r_callp rfl (Q_Key_c e1) (CoL.refl _) rfl <| ARun.qv (q_not rfl) rfl <| rM rfl rfl <| ARun.guard rfl rfl rfl (fun hc => ?_) (fun hc => ?_)
    · refine have h := iteFb hc h; rF rfl rfl rfl <| rY rfl rfl rfl <| rL rfl rfl .p0 rfl rfl <| rY rfl rfl rfl <| ARun.qv (q_sne rfl rfl) rfl <| rY rfl rfl rfl <| rM rfl rfl <| ARun.guard_dt rfl rfl rfl (fun hc => ?_) (fun hc => ?_)
      · exact have h := iteT hc h; rF rfl rfl rfl <| rY rfl rfl rfl <| rL rfl rfl .p0 rfl rfl <| rY rfl rfl rfl <| bndE h fun v4 e2 h => r_callp rfl (Q_Key_c e2) (CoL.refl _) rfl <| rY rfl rfl rfl <| ARun.qv (q_not rfl) rfl <| rY rfl rfl rfl <| rT rfl rfl rfl <| rE rfl rfl rfl <| rA rfl rfl <| rN <| ATodo.stop <| ImpX.lq [0] ⟨!v4, h, rfl⟩ rfl rfl
      · exact have h := iteF hc h; rG rfl rfl rfl rfl <| rG rfl rfl rfl rfl <| rG rfl rfl rfl rfl <| rY rfl rfl rfl <| rE rfl rfl rfl <| rE rfl rfl rfl <| rA rfl rfl <| rN <| ATodo.stop <| ImpX.lq [0] ⟨false, h, rfl⟩ rfl rfl
    · exact have h := iteT hc h; rG rfl rfl rfl rfl <| rG rfl rfl rfl rfl <| rG rfl rfl rfl rfl <| ARun.guard_und rfl rfl rfl <| ARun.guard_und rfl rfl rfl <| ARun.guard_und rfl rfl rfl <| ARun.guard_und rfl rfl rfl <| rG rfl rfl rfl rfl <| rT rfl rfl rfl <| rA rfl rfl <| rN <| ATodo.stop <| ImpX.lq [0] ⟨true, h, rfl⟩ rfl rfl
  · rintro σ' ⟨c2, h, rfl⟩
    unfold Q_LetterFault_j1 at h
    refine ATodo.cond rfl (fun hc => ?_) (fun hc => ?_)
    · refine have h := iteT hc h; tSR <| rA rfl rfl <| rN <| ATodo.ret <| ?_
      obtain rfl := Option.some.inj h
      exact ImpX.here ⟨_, .cons (.tmp _ _ rfl) .nil, rfl⟩
    · refine have h := iteFb hc h; tSR <| rF rfl rfl rfl <| rL rfl rfl .p0 rfl rfl <| ARun.qv (q_len_str rfl) rfl <| ARun.qv (q_gtr rfl rfl) rfl <| rA rfl rfl <| rN <| ATodo.cond_d rfl (fun hc => ?_) (fun hc => ?_)
      · refine have h := iteT hc h; tSR <| rA rfl rfl <| rN <| ATodo.ret <| ?_
        obtain rfl := Option.some.inj h
        exact ImpX.here ⟨_, .cons (.tmp _ _ rfl) .nil, rfl⟩
      · refine have h := iteF hc h; tSR <| rF rfl rfl rfl <| rL rfl rfl .p0 rfl rfl <| bndE h fun v5 e3 h => r_callp rfl (Q_Printed_c e3) (CoL.refl _) rfl <| ARun.qv (q_not rfl) rfl <| rA rfl rfl <| rN <| ATodo.cond rfl (fun hc => ?_) (fun hc => ?_)
        · refine have h := iteT hc h; tSR <| rA rfl rfl <| rN <| ATodo.ret <| ?_
          obtain rfl := Option.some.inj h
          exact ImpX.here ⟨_, .cons (.tmp _ _ rfl) .nil, rfl⟩
        · refine have h := iteFb hc h; tS <| ATodo.cut (fun σ' => ∃ (c6 : Bool), Q_LetterFault_j2 c6 = some r ∧ σ' = ⟨52, [(29, .bool c6)], []⟩) ?_ ?_
          · refine tR <| rF rfl rfl rfl <| rL rfl rfl .p0 rfl rfl <| r_callp rfl (Q_in_c rfl) (CoL.refl _) rfl <| ARun.qv (q_not rfl) rfl <| rM rfl rfl <| ARun.guard rfl rfl rfl (fun hc => ?_) (fun hc => ?_)
            · rw [orFb hc] at h
              refine rF rfl rfl rfl <| rY rfl rfl rfl <| rL rfl rfl .p0 rfl rfl <| rY rfl rfl rfl <| r_callp rfl (Q_Moment_c rfl) (CoL.refl _) rfl <| rY rfl rfl rfl <| ARun.qv (q_not rfl) rfl <| rE rfl rfl rfl <| rM rfl rfl <| ARun.guard rfl rfl rfl (fun hc => ?_) (fun hc => ?_)
              · rw [orFb hc] at h
                refine rF rfl rfl rfl <| rY rfl rfl rfl <| rL rfl rfl .p0 rfl rfl <| rY rfl rfl rfl <| rF rfl rfl rfl <| rY rfl rfl rfl <| rL rfl rfl .p0 rfl rfl <| rY rfl rfl rfl <| ARun.qv (q_leq rfl rfl) rfl <| rE rfl rfl rfl <| rM rfl rfl <| ARun.guard_df rfl rfl rfl (fun hc => ?_) (fun hc => ?_)
                · rw [orFd hc] at h
                  exact rF rfl rfl rfl <| rY rfl rfl rfl <| rL rfl rfl .p0 rfl rfl <| rY rfl rfl rfl <| ARun.qv (q_gtr rfl rfl) rfl <| rE rfl rfl rfl <| rA rfl rfl <| rN <| ATodo.stop <| ImpX.lq [] ⟨decide ((345686400000 : Int) < p0x0.Until), h, rfl⟩ rfl rfl
                · rw [orTd hc] at h
                  exact rG rfl rfl rfl rfl <| rG rfl rfl rfl rfl <| rT rfl rfl rfl <| rA rfl rfl <| rN <| ATodo.stop <| ImpX.lq [] ⟨true, h, rfl⟩ rfl rfl
              · rw [orTb hc] at h
                exact rG rfl rfl rfl rfl <| rG rfl rfl rfl rfl <| rG rfl rfl rfl rfl <| rG rfl rfl rfl rfl <| rT rfl rfl rfl <| rM rfl rfl <| rG rfl rfl rfl rfl <| rG rfl rfl rfl rfl <| rG rfl rfl rfl rfl <| rT rfl rfl rfl <| rA rfl rfl <| rN <| ATodo.stop <| ImpX.lq [] ⟨true, h, rfl⟩ rfl rfl
            · rw [orTb hc] at h
              exact rG rfl rfl rfl rfl <| rG rfl rfl rfl rfl <| rG rfl rfl rfl rfl <| rT rfl rfl rfl <| rM rfl rfl <| rG rfl rfl rfl rfl <| rG rfl rfl rfl rfl <| rG rfl rfl rfl rfl <| rG rfl rfl rfl rfl <| rG rfl rfl rfl rfl <| rT rfl rfl rfl <| rM rfl rfl <| rG rfl rfl rfl rfl <| rG rfl rfl rfl rfl <| rG rfl rfl rfl rfl <| rT rfl rfl rfl <| rA rfl rfl <| rN <| ATodo.stop <| ImpX.lq [] ⟨true, h, rfl⟩ rfl rfl
          · rintro σ' ⟨c6, h, rfl⟩
            unfold Q_LetterFault_j2 at h
            refine ATodo.cond rfl (fun hc => ?_) (fun hc => ?_)
            · refine have h := iteT hc h; tSR <| rA rfl rfl <| rN <| ATodo.ret <| ?_
              obtain rfl := Option.some.inj h
              exact ImpX.here ⟨_, .cons (.tmp _ _ rfl) .nil, rfl⟩
            · refine have h := iteFb hc h; tK <| ATodo.blk <| tSR <| rA rfl rfl <| rN <| ATodo.ret <| ?_
              obtain rfl := Option.some.inj h
              exact ImpX.here ⟨_, .cons (.tmp _ _ rfl) .nil, rfl⟩

set_option maxHeartbeats 4000000 in
theorem Q_Hand_Do_1x_c [GI : GTab] {p0x0 : Letter} {p1x0 : Letter} {r : Bool} (h : Q_Hand_Do_1x p0x0 p1x0 = r) : Pu Tryz.prog 41 [.agg [.str p0x0.Id, .str p0x0.Slot, .str p0x0.Body, I p0x0.Prio, I p0x0.At, I p0x0.Until], .rptr [.str p1x0.Id, .str p1x0.Slot, .str p1x0.Body, I p1x0.Prio, I p1x0.At, I p1x0.Until]] (.bool r) := by
  unfold Q_Hand_Do_1x at h
  refine ACall.bodyN Tryz.func41 rfl Tryz.ntmps41 Tryz.results41 rfl rfl ?_
  refine tSR <| n_box rfl rfl rfl rfl fun b1 => rA rfl rfl <| rN <| tSR <| rF rfl rfl rfl <| rL rfl rfl .p0 rfl rfl <| ARun.qv (n_field_rptr rfl rfl) rfl <| ARun.qv (q_load_rptr rfl rfl rfl) rfl <| ARun.qv (q_seq rfl rfl) rfl <| rA rfl rfl <| rN <| ATodo.ret <| ?_
  obtain rfl := h
  exact ImpX.here ⟨_, .cons (.tmp _ _ rfl) .nil, rfl⟩

set_option maxHeartbeats 4000000 in
theorem slices_IndexFunc_Letter_Letter_c [GI : GTab] {p0x0 : List Letter} {fnb : Letter → Option Bool} {fnb_F : FuncId} [IsFn Tryz.prog fnb_F] {fnb_C : List AV} (fnb_h : ∀ {y0 : _} {u : Bool}, fnb y0 = some u → Pu Tryz.prog fnb_F (.agg [.str y0.Id, .str y0.Slot, .str y0.Body, I y0.Prio, I y0.At, I y0.Until] ::  fnb_C) (.bool u)) {r : Int} (h : slices_IndexFunc_Letter_Letter p0x0 fnb = some r) : Pu Tryz.prog 82 [.list 6 (p0x0.map Letter.av), .func (.func fnb_F) fnb_C] (I r) := by
  unfold slices_IndexFunc_Letter_Letter at h
  refine ACall.bodyN Tryz.func82 rfl Tryz.ntmps82 Tryz.results82 rfl rfl ?_
  refine tSR <| rA rfl rfl <| rN <| tS <| tSR <| rM rfl rfl <| ARun.qv (t_len rfl) rfl <| rM rfl rfl <| rN <| ATodo.block <| ATodo.loopI (fun x : Int => slices_IndexFunc_Letter_Letter_b1 p0x0 fnb x) (fun x σ' => σ' = ⟨19, [(0, .list 6 (p0x0.map Letter.av)), (1, .func (.func fnb_F) fnb_C), (7, I (p0x0.length : Int)), (8, I x)], []⟩) h ?_ ?_
  · exact ImpX.lq [] rfl rfl rfl
  · intro n2 z1 σ' J1 hmk h hJ1 hA1
    obtain rfl := hmk
    replace h : slices_IndexFunc_Letter_Letter_b1 p0x0 fnb n2 = some z1 := h
    unfold slices_IndexFunc_Letter_Letter_b1 at h
    refine tSR <| ARun.qv (q_lss rfl rfl) rfl <| rN <| tS <| ATodo.cond_d rfl (fun hc => ?_) (fun hc => ?_)
    · refine have h := iteT hc h; tK <| tS <| ATodo.block <| tSR <| rM rfl rfl <| rA rfl rfl <| rN <| tSR <| rM rfl rfl <| rM rfl rfl <| rM rfl rfl <| bndE h fun v3 e1 h => ARun.qv (t_index rfl rfl rfl e1 rfl rfl) rfl <| ARun.qv (q_load_rptr_agg rfl rfl rfl) rfl <| bndE h fun v4 e2 h => r_callvp rfl rfl (fnb_h e2) (CoL.refl _) rfl <| rN <| ATodo.cond rfl (fun hc => ?_) (fun hc => ?_)
      · refine have h := iteT hc h; tSR <| rM rfl rfl <| rA rfl rfl <| rN <| ATodo.ret <| have h := outL h hA1; ?_
        obtain rfl := Option.some.inj h
        exact ImpX.here ⟨_, .cons (.tmp _ _ rfl) .nil, rfl⟩
      · refine have h := iteFb hc h; tK <| ATodo.blk <| tR <| ARun.qv (q_addw rfl rfl) rfl <| rM rfl rfl <| rN <| ATodo.stop <| ?_
        obtain rfl := Option.some.inj h
        exact hJ1 _ _ rfl <| ImpX.lq [] rfl rfl rfl
    · refine have h := iteF hc h; ATodo.exit rfl <| have h := outL h hA1; tSR <| rA rfl rfl <| rN <| ATodo.ret <| ?_
      obtain rfl := Option.some.inj h
      exact ImpX.here ⟨_, .cons (.tmp _ _ rfl) .nil, rfl⟩

set_option maxHeartbeats 4000000 in
theorem slices_ContainsFunc_Letter_Letter_c [GI : GTab] {p0x0 : List Letter} {fnb : Letter → Option Bool} {fnb_F : FuncId} [IsFn Tryz.prog fnb_F] {fnb_C : List AV} (fnb_h : ∀ {y0 : _} {u : Bool}, fnb y0 = some u → Pu Tryz.prog fnb_F (.agg [.str y0.Id, .str y0.Slot, .str y0.Body, I y0.Prio, I y0.At, I y0.Until] ::  fnb_C) (.bool u)) {r : Bool} (h : slices_ContainsFunc_Letter_Letter p0x0 fnb = some r) : Pu Tryz.prog 40 [.list 6 (p0x0.map Letter.av), .func (.func fnb_F) fnb_C] (.bool r) := by
  unfold slices_ContainsFunc_Letter_Letter at h
  refine ACall.bodyN Tryz.func40 rfl Tryz.ntmps40 Tryz.results40 rfl rfl ?_
  refine tSR <| rA rfl rfl <| rN <| tSR <| rM rfl rfl <| rM rfl rfl <| bndE h fun v1 e1 h => r_callpB rfl (slices_IndexFunc_Letter_Letter_c fnb_h e1) (.cons (.co (.refl _)) (.cons (.co (.refl _)) .nil)) rfl rfl <| ARun.qv (q_geq rfl rfl) rfl <| rA rfl rfl <| rN <| ATodo.ret <| ?_
  obtain rfl := Option.some.inj h
  exact ImpX.here ⟨_, .cons (.tmp _ _ rfl) .nil, rfl⟩

set_option maxHeartbeats 4000000 in
theorem slices_Clone_Letter_Letter_c [GI : GTab] {p0x0 : List Letter} {r : (List Letter)} (h : slices_Clone_Letter_Letter p0x0 = some r) : ACall Tryz.prog 42 [.list 6 (p0x0.map Letter.av)] [] (T1 (fun d_0 => [(d_0, .arr 6 (r.map Letter.av))]) (fun d_0 => .sl 6 d_0 0 r.length)) := by
  unfold slices_Clone_Letter_Letter at h
  refine ACall.lessH ?_
  refine ACall.bodyN Tryz.func42 rfl Tryz.ntmps42 Tryz.results42 rfl rfl ?_
  refine ATodo.seq ?_
  refine ATodo.region ?_
  refine ARun.qv (q_assign rfl) rfl ?_
  refine ARun.nil ?_
  refine ATodo.seq ?_
  refine ATodo.seq ?_
  refine ATodo.region ?_
  refine ARun.qv (q_move rfl) rfl ?_
  refine r_eqnil rfl rfl rfl rfl (fun c hc => ?_)
  refine ARun.nil ?_
  refine ATodo.cond rfl (fun hT => ?_) (fun hF => ?_)
  · obtain rfl := app_nil_some h (List.map_eq_nil_iff.1 (hc hT))
    refine ATodo.seq ?_
    refine ATodo.region ?_
    refine ARun.qv (q_assign rfl) rfl ?_
    refine ARun.nil ?_
    refine ATodo.ret ?_
    refine ImpX.arr (s := 2) 6 rfl (fun b1 => ?_)
    exact ImpX.here ⟨_, .cons (.tmp _ _ rfl) .nil, _, .cons .here .nil, ⟨b1, rfl, rfl⟩⟩
  · refine ATodo.skip ?_
    refine ATodo.seq ?_
    refine ATodo.region ?_
    refine n_buildSlice (xs := ([] : List Letter).map Letter.av) rfl rfl rfl rfl rfl rfl (fun b2 => ?_)
    refine ARun.qv (q_move rfl) rfl ?_
    refine t_append (g := Letter.av) (Xs := []) rfl rfl rfl rfl rfl rfl rfl rfl (.list _) h (fun _ => .here) rfl (fun b3 => ?_)
    refine ARun.qv (q_assign rfl) rfl ?_
    refine ARun.nil ?_
    refine ATodo.ret ?_
    exact ImpX.here ⟨_, .cons (.tmp _ _ rfl) .nil, _, .cons .here .nil, ⟨b3, rfl, rfl⟩⟩

set_option maxHeartbeats 4000000 in
theorem slices_Delete_Letter_Letter_c [GI : GTab] {b_0 : Bk} {p0x0 : List Letter} {p1x0 p2x0 : Int} {r : List Letter} (h : slices_Delete_Letter_Letter p0x0 p1x0 p2x0 = some r) : ACall Tryz.prog 43 [.sl 6 b_0 0 p0x0.length, I p1x0, I p2x0] [(b_0, .arr 6 (p0x0.map Letter.av))] (T1 (fun d_0 => [(d_0, .arr 6 (r.map Letter.av))]) (fun d_0 => .sl 6 d_0 0 r.length)) := by
  obtain ⟨⟨h0, h1, h2⟩, rfl⟩ := delO_some h
  have hlen : 0 < p0x0.length := by omega
  have hz : (p0x0.take p1x0.toNat ++ p0x0.drop p2x0.toNat).length ≤ p0x0.length := by simp; omega
  refine ACall.lessH ?_
  refine ACall.bodyN Tryz.func43 rfl Tryz.ntmps43 Tryz.results43 rfl rfl ?_
  refine ATodo.ghost (ImpX.rawS (s := 0) rfl hlen (fun m cap hb hc1 hc2 => ImpX.here ?_))
  refine ATodo.seq ?_
  refine ATodo.region ?_
  refine ARun.qv (q_assign rfl) rfl ?_
  refine ARun.nil ?_
  refine ATodo.seq ?_
  refine ATodo.region ?_
  refine ARun.qv (q_move rfl) rfl ?_
  refine ARun.qv (q_move rfl) rfl ?_
  refine ARun.qv (q_move rfl) rfl ?_
  refine ARun.qv (q_move rfl) rfl ?_
  refine ARun.qv (q_len_raw rfl) rfl ?_
  refine ARun.qv (q_slice_raw3 rfl rfl rfl rfl h0 (by omega) h2 (by omega)) rfl ?_
  refine ARun.nil ?_
  refine ATodo.seq ?_
  refine ATodo.seq ?_
  refine ATodo.region ?_
  refine ARun.qv (q_move rfl) rfl ?_
  refine ARun.qv (q_move rfl) rfl ?_
  refine ARun.qv (q_eql rfl rfl) rfl ?_
  refine ARun.nil ?_
  refine ATodo.cond_d rfl (fun hc => absurd hc (by omega)) (fun hc => ?_)
  refine ATodo.skip ?_
  refine ATodo.seq ?_
  refine ATodo.region ?_
  refine ARun.qv (q_move rfl) rfl ?_
  refine ARun.qv (q_len_raw rfl) rfl ?_
  refine ARun.qv (q_assign rfl) rfl ?_
  refine ARun.nil ?_
  refine ATodo.seq ?_
  refine ATodo.regionM (id := 5) (A := [0, 0, 3, 0, 0, 24, 63, 127]) 6 mixed rfl (by kernel_rfl) (by kernel_rfl) ?_
  refine AM.qv (q_move rfl) rfl ?_
  refine AM.qv (q_move rfl) rfl ?_
  refine AM.qv (q_slice_raw0 rfl rfl h0 (by omega)) rfl ?_
  refine AM.qv (q_move rfl) rfl ?_
  refine AM.qv (q_move rfl) rfl ?_
  refine AM.qv (q_slice_raw1 (sz := 6) (b := b_0) rfl rfl rfl hb hc2 (by omega) h2 hc1) rfl ?_
  refine AM.nil ?_
  refine t_delAppend (g := Letter.av) (Xs := p0x0) (I' := p1x0) (J := p2x0) h0 (by omega) h2 hc1 rfl rfl rfl rfl rfl hb hc2 .here .here ?_
  refine ARun.qv (q_assign rfl) rfl ?_
  refine ARun.nil ?_
  refine ATodo.seq ?_
  refine ATodo.region ?_
  refine ARun.qv (q_move rfl) rfl ?_
  refine ARun.qv (q_move rfl) rfl ?_
  refine ARun.qv (q_len_raw rfl) rfl ?_
  refine ARun.qv (q_move rfl) rfl ?_
  refine ARun.qv (q_slice_raw2 (sz := 6) (b := b_0) rfl rfl rfl rfl hb hc2 (by omega) (by omega) (by omega)) rfl ?_
  refine r_clear_room (xs := (p0x0.take p1x0.toNat ++ p0x0.drop p2x0.toNat).map Letter.av) rfl rfl rfl rfl rfl rfl (by rw [List.length_map, Int.toNat_natCast]; exact Nat.le_refl _) .here ?_
  refine ARun.nil ?_
  refine ATodo.seq ?_
  refine ATodo.region ?_
  refine ARun.qv (q_move rfl) rfl ?_
  refine ARun.qv (q_assign rfl) rfl ?_
  refine ARun.nil ?_
  refine ATodo.ret ?_
  refine ImpX.unrawS (s := 6) (sz := 6) rfl hb (by omega) hc2 ?_
  exact ImpX.here ⟨_, .cons (.tmp _ _ rfl) .nil, _, .cons .here .nil, ⟨b_0, rfl, rfl⟩⟩

set_option maxHeartbeats 4000000 in
theorem Q_Hand_Do_c {b_0 : Bk} {b_0x1 : Bk} {p0x0 : Fleetref2_Hand} {p1x0 : Letter} {p2x0 : Int} {r : Bool × Int × Fleetref2_Hand} (h : Q_Hand_Do p0x0 p1x0 p2x0 = some r) : ACall Tryz.prog 13 [.ptr b_0 0, .agg [.str p1x0.Id, .str p1x0.Slot, .str p1x0.Body, I p1x0.Prio, I p1x0.At, I p1x0.Until], I p2x0] [(b_0, .cells [I p0x0.Most, .sl 6 b_0x1 0 p0x0.L.length, I p0x0.time_]), (b_0x1, .arr 6 (p0x0.L.map Letter.av))] (T1 (fun c_0x1 => [(b_0, .cells [I r.2.2.Most, .sl 6 c_0x1 0 r.2.2.L.length, I r.2.2.time_]), (c_0x1, .arr 6 (r.2.2.L.map Letter.av))]) (fun c_0x1 => .tup [.bool r.1, I r.2.1])) := by
  unfold Q_Hand_Do at h
  refine ACall.lessH ?_
  refine ACall.bodyN Tryz.func13 rfl Tryz.ntmps13 Tryz.results13 rfl rfl ?_
  refine tSR <| n_box rfl rfl rfl rfl fun b1 => rA rfl rfl <| rA rfl rfl <| rN <| tS <| tSR <| ARun.qv (q_load_ptr_all rfl rfl .p0 rfl) rfl <| bndE h fun v2 e1 h => r_callp rfl (Q_LetterFault_c e1) (CoL.refl _) rfl <| rA rfl rfl <| rN <| tSR <| rM rfl rfl <| ARun.qv (q_neq rfl rfl) rfl <| rN <| ATodo.cond_d rfl (fun hc => ?_) (fun hc => ?_)
  · refine have h := iteT hc h; tSR <| rM rfl rfl <| rA rfl rfl <| rA rfl rfl <| rN <| ATodo.ret <| ?_
    obtain rfl := Option.some.inj h
    exact ImpX.here ⟨_, .cons (.tmp _ _ rfl) (.cons (.tmp _ _ rfl) .nil), _, .cons .p1 (.cons .p1 .nil), ⟨b_0x1, rfl, rfl⟩⟩
  · refine have h := iteF hc h; tK <| tS <| ATodo.block <| tSR <| rM rfl rfl <| r_callp rfl (Q_Moment_c rfl) (CoL.refl _) rfl <| ARun.qv (q_not rfl) rfl <| rA rfl rfl <| rN <| ATodo.cond rfl (fun hc => ?_) (fun hc => ?_)
    · refine have h := iteT hc h; tSR <| rA rfl rfl <| rA rfl rfl <| rN <| ATodo.ret <| ?_
      obtain rfl := Option.some.inj h
      exact ImpX.here ⟨_, .cons (.tmp _ _ rfl) (.cons (.tmp _ _ rfl) .nil), _, .cons .p1 (.cons .p1 .nil), ⟨b_0x1, rfl, rfl⟩⟩
    · refine have h := iteFb hc h; tSR <| rM rfl rfl <| rM rfl rfl <| ARun.qv (q_nilCheck_ptr rfl) rfl <| rF rfl rfl rfl <| rL rfl rfl .p1 rfl rfl <| ARun.qv (q_lss rfl rfl) rfl <| rA rfl rfl <| rN <| ATodo.cond_d rfl (fun hc => ?_) (fun hc => ?_)
      · refine have h := iteT hc h; tSR <| rA rfl rfl <| rA rfl rfl <| rN <| ATodo.ret <| ?_
        obtain rfl := Option.some.inj h
        exact ImpX.here ⟨_, .cons (.tmp _ _ rfl) (.cons (.tmp _ _ rfl) .nil), _, .cons .p1 (.cons .p1 .nil), ⟨b_0x1, rfl, rfl⟩⟩
      · refine have h := iteF hc h; tK <| ATodo.blk <| tSR <| rM rfl rfl <| ARun.qv (q_nilCheck_ptr rfl) rfl <| rF rfl rfl rfl <| rL rfl rfl .p1 rfl rfl <| ARun.qv (q_makeFunc rfl) rfl <| bndE h fun v3 e2 h => r_callpB rfl (slices_ContainsFunc_Letter_Letter_c (fun e => Q_Hand_Do_1x_c (Option.some.inj e)) e2) (.cons (CoB.arrT .p2) (.cons (.funcL _ _ _ (.cons (.boxL _ _ _ .p0 (.cons (.co (.refl _)) (.cons (.co (.refl _)) (.cons (.co (.refl _)) (.cons (.co (.refl _)) (.cons (.co (.refl _)) (.cons (.co (.refl _)) .nil))))))) .nil)) .nil)) rfl rfl <| rA rfl rfl <| rN <| tS <| tS <| ATodo.cut (fun σ' => ∃ (c4 : Bool), Q_Hand_Do_j1 p0x0 p1x0 p2x0 c4 = some r ∧ σ' = ⟨99, [(0, .ptr b_0 0), (2, I p2x0), (4, .ptr b1 0), (42, .bool c4)], [(b_0, .cells [I p0x0.Most, .sl 6 b_0x1 0 p0x0.L.length, I p0x0.time_]), (b_0x1, .arr 6 (p0x0.L.map Letter.av)), (b1, .cells [.str p1x0.Id, .str p1x0.Slot, .str p1x0.Body, I p1x0.Prio, I p1x0.At, I p1x0.Until])]⟩) ?_ ?_
        · refine tR <| rM rfl rfl <| rM rfl rfl <| ARun.guard rfl rfl rfl (fun hc => ?_) (fun hc => ?_)
          · rw [orFb hc] at h
            exact rF rfl rfl rfl <| rY rfl rfl rfl <| rL rfl rfl .p0 rfl rfl <| rY rfl rfl rfl <| rM rfl rfl <| rY rfl rfl rfl <| ARun.qv (q_leq rfl rfl) rfl <| rE rfl rfl rfl <| rN <| ATodo.stop <| ImpX.lq [1, 1, 0] ⟨decide (p1x0.Until ≤ p2x0), h, rfl⟩ rfl rfl
          · rw [orTb hc] at h
            exact rG rfl rfl rfl rfl <| rG rfl rfl rfl rfl <| rG rfl rfl rfl rfl <| rT rfl rfl rfl <| rN <| ATodo.stop <| ImpX.lq [1, 1, 0] ⟨true, h, rfl⟩ rfl rfl
        · rintro σ' ⟨c4, h, rfl⟩
          unfold Q_Hand_Do_j1 at h
          refine ATodo.cond rfl (fun hc => ?_) (fun hc => ?_)
          · refine have h := iteT hc h; tSR <| rM rfl rfl <| rM rfl rfl <| ARun.qv (q_nilCheck_ptr rfl) rfl <| rF rfl rfl rfl <| n_store_ptr rfl rfl rfl rfl .p0 rfl rfl <| rN <| tSR <| rA rfl rfl <| rA rfl rfl <| rN <| ATodo.ret <| ?_
            obtain rfl := Option.some.inj h
            exact ImpX.here ⟨_, .cons (.tmp _ _ rfl) (.cons (.tmp _ _ rfl) .nil), _, .cons .p0 (.cons .p0 .nil), ⟨b_0x1, rfl, rfl⟩⟩
          · refine have h := iteFb hc h; tK <| tS <| bndE h fun v5 e3 h => ATodo.regionT (id := 12) (A := [0, 1, 3, 7, 15, 0, 32, 127, 255]) (H0 := []) (HH := fun β => [((β 4), .arr 6 (v5.map Letter.av)), (b_0, .cells [I p0x0.Most, .sl 6 b_0x1 0 p0x0.L.length, I p0x0.time_]), (b_0x1, .arr 6 (p0x0.L.map Letter.av)), (b1, .cells [.str p1x0.Id, .str p1x0.Slot, .str p1x0.Body, I p1x0.Prio, I p1x0.At, I p1x0.Until])]) 7 mixed rfl (by kernel_rfl) (by kernel_rfl) [⟨some 4, none, [], fun b => (b, .arr 6 (v5.map Letter.av)), none⟩] [4] rfl (by kernel_rfl) rfl .nil (fun _ => rfl) <| AT.am 4 rfl rfl <| AM.qv (q_move rfl) rfl <| AM.qv (q_nilCheck_ptr rfl) rfl <| AM.qv (n_field_ptr rfl rfl) rfl <| AM.qv (q_load_ptr rfl rfl .p0 rfl) rfl <| AM.nil <| AT.runD (V := fun b => .sl 6 b 0 v5.length) (Ti := []) (Pi := fun b => [(b, .arr 6 (v5.map Letter.av))]) (fun _ => rfl) (fun _ => rfl) (fun _ _ => rfl) rfl (fun _ => rfl) rfl rfl rfl ?_ ?_
            · exact t_callL1 rfl (slices_Clone_Letter_Letter_c e3) .nil (.cons (CoB.arrT .p1) .nil) (fun _ => rfl) (fun _ => rfl) (fun _ => (.cons (NoS.arrT (fun _ => rfl)) .nil)) rfl fun b6 => ARun.nil ⟨b6, _, rfl, rfl⟩
            refine AT.am 2 rfl rfl <| AM.qv (q_load_ptr_all rfl rfl .p2 rfl) rfl <| AM.buildSliceL (xs := ([p1x0] : List Letter).map Letter.av) rfl rfl rfl rfl rfl rfl <| AM.nil <| AT.nilN (fun _ => rfl) fun β => ?_
            generalize β 4 = b6
            clear β
            refine bndE h fun l7 e4 h => t_append (g := Letter.av) rfl rfl rfl rfl rfl rfl rfl rfl (.list _) e4 (fun _ => .p0) rfl fun b8 => rA rfl rfl <| rN <| tS <| ATodo.block <| ATodo.loopI (fun x : (List Letter) => Q_Hand_Do_b1 p0x0 p2x0 x) (fun x σ' => ∃ (b11 : Bk), σ' = ⟨99, [(0, .ptr b_0 0), (2, I p2x0), (10, .sl 6 b11 0 x.length)], [(b_0, .cells [I p0x0.Most, .sl 6 b_0x1 0 p0x0.L.length, I p0x0.time_]), (b_0x1, .arr 6 (p0x0.L.map Letter.av)), (b11, .arr 6 (x.map Letter.av))]⟩) h ?_ ?_
            · exact ImpX.lq [1, 1, 0] ⟨b8, rfl⟩ rfl rfl
            · intro l12 z1 σ' J1 hmk h hJ1 hA1
              obtain ⟨b11, rfl⟩ := hmk
              replace h : Q_Hand_Do_b1 p0x0 p2x0 l12 = some z1 := h
              unfold Q_Hand_Do_b1 at h
              refine tS <| tSR <| rM rfl rfl <| ARun.qv (t_len_sl rfl) rfl <| rM rfl rfl <| ARun.qv (q_nilCheck_ptr rfl) rfl <| rF rfl rfl rfl <| rL rfl rfl .p0 rfl rfl <| ARun.qv (q_gtr rfl rfl) rfl <| rN <| ATodo.cond_d rfl (fun hc => ?_) (fun hc => ?_)
              · refine have h := iteT hc h; tK <| ATodo.block <| tSR <| rA rfl rfl <| rN <| tS <| tSR <| rM rfl rfl <| ARun.qv (t_len_sl rfl) rfl <| rM rfl rfl <| rN <| ATodo.block <| ATodo.loopI (fun x : Int × Int => Q_Hand_Do_b2 p0x0 p2x0 l12 x.1 x.2) (fun x σ' => σ' = ⟨99, [(0, .ptr b_0 0), (2, I p2x0), (10, .sl 6 b11 0 l12.length), (11, I x.1), (62, .sl 6 b11 0 l12.length), (63, I (l12.length : Int)), (64, I x.2)], [(b_0, .cells [I p0x0.Most, .sl 6 b_0x1 0 p0x0.L.length, I p0x0.time_]), (b_0x1, .arr 6 (p0x0.L.map Letter.av)), (b11, .arr 6 (l12.map Letter.av))]⟩) h ?_ ?_
                · exact ImpX.lq [0, 0, 0] rfl rfl rfl
                · intro x z2 σ' J2 hmk h hJ2 hA2
                  obtain ⟨n16, n17⟩ := x
                  obtain rfl := hmk
                  replace h : Q_Hand_Do_b2 p0x0 p2x0 l12 n16 n17 = some z2 := h
                  unfold Q_Hand_Do_b2 at h
                  refine tSR <| ARun.qv (q_lss rfl rfl) rfl <| rN <| tS <| ATodo.cond_d rfl (fun hc => ?_) (fun hc => ?_)
                  · refine have h := iteT hc h; tK <| tS <| ATodo.block <| tSR <| rM rfl rfl <| bndE h fun v18 e5 h => ARun.qv (t_index_sl rfl rfl rfl e5) rfl <| ARun.qv (t_load_aptr_agg (g := Letter.av) rfl rfl (.inl .p2) rfl e5 rfl) rfl <| n_alloc rfl rfl rfl rfl fun b19 => rA rfl rfl <| n_store_ptr rfl rfl rfl rfl .p0 rfl rfl <| rN <| tS <| ATodo.regionM (id := 18) (A := [0, 1, 0, 0, 12, 28, 60, 127]) 8 mixed rfl (by kernel_rfl) (by kernel_rfl) <| AM.qv (n_field_ptr rfl rfl) rfl <| AM.qv (q_load_ptr rfl rfl .p0 rfl) rfl <| AM.qv (q_move rfl) rfl <| AM.qv (q_move rfl) rfl <| bndE h fun v20 e6 h => AM.qv (t_index_sl rfl rfl rfl e6) rfl <| AM.qv (t_field_aptr rfl rfl) rfl <| AM.qv (t_load_aptr (g := Letter.av) rfl rfl (.inl .p3) e6 rfl) rfl <| AM.qv (q_lss rfl rfl) rfl <| AM.nil <| rN <| ATodo.cut (fun σ' => ∃ (n21 : Int), Q_Hand_Do_j2 n17 n21 = some z2 ∧ σ' = ⟨99, [(0, .ptr b_0 0), (2, I p2x0), (10, .sl 6 b11 0 l12.length), (11, I n21), (62, .sl 6 b11 0 l12.length), (63, I (l12.length : Int)), (64, I n17)], [(b_0, .cells [I p0x0.Most, .sl 6 b_0x1 0 p0x0.L.length, I p0x0.time_]), (b_0x1, .arr 6 (p0x0.L.map Letter.av)), (b11, .arr 6 (l12.map Letter.av))]⟩) ?_ ?_
                    · refine ATodo.cond_d rfl (fun hc => ?_) (fun hc => ?_)
                      · exact have h := iteT hc h; tR <| rM rfl rfl <| rA rfl rfl <| rN <| ATodo.stop <| ImpX.lq [1, 1, 1] ⟨n17, h, rfl⟩ rfl rfl
                      · exact have h := iteF hc h; tK <| ATodo.stop <| ImpX.lq [1, 1, 1] ⟨n16, h, rfl⟩ rfl rfl
                    · rintro σ' ⟨n21, h, rfl⟩
                      unfold Q_Hand_Do_j2 at h
                      refine ATodo.blk <| tR <| ARun.qv (q_addw rfl rfl) rfl <| rM rfl rfl <| rN <| ATodo.stop <| ?_
                      obtain rfl := Option.some.inj h
                      exact hJ2 _ _ rfl <| ImpX.lq [0, 0, 0] rfl rfl rfl
                  · refine have h := iteF hc h; ATodo.exit rfl <| have h := outL h hA2; ?_
                    unfold Q_Hand_Do_k3 at h
                    refine tS <| tSR <| rM rfl rfl <| rM rfl rfl <| bndE h fun v22 e7 h => ARun.qv (t_index_sl rfl rfl rfl e7) rfl <| ARun.qv (t_field_aptr rfl rfl) rfl <| ARun.qv (t_load_aptr (g := Letter.av) rfl rfl (.inl .p2) e7 rfl) rfl <| rM rfl rfl <| ARun.qv (q_gtr rfl rfl) rfl <| rN <| ATodo.cond_d rfl (fun hc => ?_) (fun hc => ?_)
                    · refine have h := iteT hc h; tSR <| rA rfl rfl <| rA rfl rfl <| rN <| ATodo.ret <| have h := outL h hA1; ?_
                      obtain rfl := Option.some.inj h
                      exact ImpX.here ⟨_, .cons (.tmp _ _ rfl) (.cons (.tmp _ _ rfl) .nil), _, .cons .p0 (.cons .p0 .nil), ⟨b_0x1, rfl, rfl⟩⟩
                    · refine have h := iteF hc h; tK <| tR <| rM rfl rfl <| rM rfl rfl <| rM rfl rfl <| ARun.qv (q_addw rfl rfl) rfl <| bndE h fun v23 e8 h => t_call1 rfl (slices_Delete_Letter_Letter_c e8) (CoL.refl _) (.cons .p2 .nil) (fun _ => rfl) rfl fun b24 => rA rfl rfl <| rN <| ATodo.blk <| ATodo.stop <| ?_
                      obtain rfl := Option.some.inj h
                      exact hJ1 _ _ rfl <| ImpX.lq [1, 1, 0] ⟨b24, rfl⟩ rfl rfl
              · refine have h := iteF hc h; ATodo.exit rfl <| have h := outL h hA1; tSR <| rM rfl rfl <| rM rfl rfl <| rM rfl rfl <| rM rfl rfl <| ARun.qv (q_nilCheck_ptr rfl) rfl <| rF rfl rfl rfl <| n_store_ptr rfl rfl rfl rfl .p0 rfl rfl <| ARun.qv (q_nilCheck_ptr rfl) rfl <| rF rfl rfl rfl <| n_store_ptr rfl rfl rfl rfl .p0 rfl rfl <| rN <| tSR <| rA rfl rfl <| rA rfl rfl <| rN <| ATodo.ret <| ?_
                obtain rfl := Option.some.inj h
                exact ImpX.here ⟨_, .cons (.tmp _ _ rfl) (.cons (.tmp _ _ rfl) .nil), _, .cons .p0 (.cons .p1 .nil), ⟨b11, rfl, rfl⟩⟩

set_option maxHeartbeats 4000000 in
theorem command_Doer_Done_c [GI : GTab] {b_0 : Bk} {p0x0 : Command_Doer} {r : (List Str)} (h : command_Doer_Done p0x0 = some r) : ACall Tryz.prog 15 [.ptr b_0 0] [(b_0, .cells [I p0x0.most_, .list 2 (p0x0.l_.map Command_done.av), I p0x0.time_])] (T1 (fun d_0 => [(b_0, .cells [I p0x0.most_, .list 2 (p0x0.l_.map Command_done.av), I p0x0.time_]), (d_0, .arr 1 (r.map AV.str))]) (fun d_0 => .sl 1 d_0 0 r.length)) := by
  unfold command_Doer_Done at h
  refine ACall.lessH ?_
  refine ACall.bodyN Tryz.func15 rfl Tryz.ntmps15 Tryz.results15 rfl rfl ?_
  refine tSR <| rA rfl rfl <| rN <| tSR <| rA rfl rfl <| rN <| tS <| tSR <| rM rfl rfl <| ARun.qv (q_nilCheck_ptr rfl) rfl <| rF rfl rfl rfl <| rL rfl rfl .p0 rfl rfl <| ARun.qv (t_len rfl) rfl <| rM rfl rfl <| rN <| ATodo.block <| ATodo.loopI (fun x : (List Str) × Int => command_Doer_Done_b1 p0x0 x.1 x.2) (fun x σ' => ∃ (b4 : Bk), σ' = ⟨22, [(3, .sl 1 b4 0 x.1.length), (9, .list 2 (p0x0.l_.map Command_done.av)), (10, I (p0x0.l_.length : Int)), (11, I x.2)], [(b_0, .cells [I p0x0.most_, .list 2 (p0x0.l_.map Command_done.av), I p0x0.time_]), (b4, .arr 1 (x.1.map AV.str))]⟩) h ?_ ?_
  · exact ImpX.arr (s := 3) 1 rfl fun b7 => ImpX.lq [1, 0] ⟨b7, rfl⟩ rfl rfl
  · intro x z1 σ' J1 hmk h hJ1 hA1
    obtain ⟨l5, n6⟩ := x
    obtain ⟨b4, rfl⟩ := hmk
    replace h : command_Doer_Done_b1 p0x0 l5 n6 = some z1 := h
    unfold command_Doer_Done_b1 at h
    refine tSR <| ARun.qv (q_lss rfl rfl) rfl <| rN <| tS <| ATodo.cond_d rfl (fun hc => ?_) (fun hc => ?_)
    · refine have h := iteT hc h; tK <| tS <| ATodo.block <| tSR <| bndE h fun v8 e1 h => ARun.qv (t_index rfl rfl rfl e1 rfl rfl) rfl <| ARun.qv (q_load_rptr_agg rfl rfl rfl) rfl <| n_alloc rfl rfl rfl rfl fun b9 => n_store_ptr rfl rfl rfl rfl .p0 rfl rfl <| rN <| tR <| rM rfl rfl <| rF rfl rfl rfl <| rL rfl rfl .p0 rfl rfl <| n_buildSliceL (xs := ([v8.id_] : List Str).map AV.str) rfl rfl rfl rfl rfl rfl <| bndE h fun l10 e2 h => t_append (g := AV.str) rfl rfl rfl rfl rfl rfl rfl rfl (.list _) e2 (fun _ => .p2) rfl fun b11 => rA rfl rfl <| rN <| ATodo.blk <| tR <| ARun.qv (q_addw rfl rfl) rfl <| rM rfl rfl <| rN <| ATodo.stop <| ?_
      obtain rfl := Option.some.inj h
      exact hJ1 _ _ rfl <| ImpX.lq [1, 1] ⟨b11, rfl⟩ rfl rfl
    · refine have h := iteF hc h; ATodo.exit rfl <| have h := outL h hA1; tSR <| rM rfl rfl <| rA rfl rfl <| rN <| ATodo.ret <| ?_
      obtain rfl := Option.some.inj h
      exact ImpX.here ⟨_, .cons (.tmp _ _ rfl) .nil, _, .cons .p0 (.cons .p0 .nil), ⟨b4, rfl, rfl⟩⟩

set_option maxHeartbeats 4000000 in
theorem command_Doer_Done_c0x1x_c [GI : GTab] {b_0 : Bk} {b_0x1 : Bk} {p0x0 : Command_Doer} {r : (List Str)} (h : command_Doer_Done_c0x1x p0x0 = some r) : ACall Tryz.prog 15 [.ptr b_0 0] [(b_0, .cells [I p0x0.most_, .sl 2 b_0x1 0 p0x0.l_.length, I p0x0.time_]), (b_0x1, .arr 2 (p0x0.l_.map Command_done.av))] (T1 (fun d_0 => [(b_0, .cells [I p0x0.most_, .sl 2 b_0x1 0 p0x0.l_.length, I p0x0.time_]), (b_0x1, .arr 2 (p0x0.l_.map Command_done.av)), (d_0, .arr 1 (r.map AV.str))]) (fun d_0 => .sl 1 d_0 0 r.length)) := by
  unfold command_Doer_Done_c0x1x at h
  refine ACall.lessH ?_
  refine ACall.bodyN Tryz.func15 rfl Tryz.ntmps15 Tryz.results15 rfl rfl ?_
  refine tSR <| rA rfl rfl <| rN <| tSR <| rA rfl rfl <| rN <| tS <| tSR <| rM rfl rfl <| ARun.qv (q_nilCheck_ptr rfl) rfl <| rF rfl rfl rfl <| rL rfl rfl .p0 rfl rfl <| ARun.qv (t_len_sl rfl) rfl <| rM rfl rfl <| rN <| ATodo.block <| ATodo.loopI (fun x : (List Str) × Int => command_Doer_Done_c0x1x_b1 p0x0 x.1 x.2) (fun x σ' => ∃ (b4 : Bk), σ' = ⟨22, [(3, .sl 1 b4 0 x.1.length), (9, .sl 2 b_0x1 0 p0x0.l_.length), (10, I (p0x0.l_.length : Int)), (11, I x.2)], [(b_0, .cells [I p0x0.most_, .sl 2 b_0x1 0 p0x0.l_.length, I p0x0.time_]), (b_0x1, .arr 2 (p0x0.l_.map Command_done.av)), (b4, .arr 1 (x.1.map AV.str))]⟩) h ?_ ?_
  · exact ImpX.arr (s := 3) 1 rfl fun b7 => ImpX.lq [1, 1, 0] ⟨b7, rfl⟩ rfl rfl
  · intro x z1 σ' J1 hmk h hJ1 hA1
    obtain ⟨l5, n6⟩ := x
    obtain ⟨b4, rfl⟩ := hmk
    replace h : command_Doer_Done_c0x1x_b1 p0x0 l5 n6 = some z1 := h
    unfold command_Doer_Done_c0x1x_b1 at h
    refine tSR <| ARun.qv (q_lss rfl rfl) rfl <| rN <| tS <| ATodo.cond_d rfl (fun hc => ?_) (fun hc => ?_)
    · refine have h := iteT hc h; tK <| tS <| ATodo.block <| tSR <| bndE h fun v8 e1 h => ARun.qv (t_index_sl rfl rfl rfl e1) rfl <| ARun.qv (t_load_aptr_agg (g := Command_done.av) rfl rfl (.inl .p1) rfl e1 rfl) rfl <| n_alloc rfl rfl rfl rfl fun b9 => n_store_ptr rfl rfl rfl rfl .p0 rfl rfl <| rN <| tR <| rM rfl rfl <| rF rfl rfl rfl <| rL rfl rfl .p0 rfl rfl <| n_buildSliceL (xs := ([v8.id_] : List Str).map AV.str) rfl rfl rfl rfl rfl rfl <| bndE h fun l10 e2 h => t_append (g := AV.str) rfl rfl rfl rfl rfl rfl rfl rfl (.list _) e2 (fun _ => .p3) rfl fun b11 => rA rfl rfl <| rN <| ATodo.blk <| tR <| ARun.qv (q_addw rfl rfl) rfl <| rM rfl rfl <| rN <| ATodo.stop <| ?_
      obtain rfl := Option.some.inj h
      exact hJ1 _ _ rfl <| ImpX.lq [1, 1, 1] ⟨b11, rfl⟩ rfl rfl
    · refine have h := iteF hc h; ATodo.exit rfl <| have h := outL h hA1; tSR <| rM rfl rfl <| rA rfl rfl <| rN <| ATodo.ret <| ?_
      obtain rfl := Option.some.inj h
      exact ImpX.here ⟨_, .cons (.tmp _ _ rfl) .nil, _, .cons .p0 (.cons .p0 (.cons .p0 .nil)), ⟨b4, rfl, rfl⟩⟩

set_option maxHeartbeats 4000000 in
theorem Q_Hand_Done_c [GI : GTab] {b_0 : Bk} {p0x0 : Fleetref2_Hand} {r : (List Str)} (h : Q_Hand_Done p0x0 = some r) : ACall Tryz.prog 16 [.ptr b_0 0] [(b_0, .cells [I p0x0.Most, .list 6 (p0x0.L.map Letter.av), I p0x0.time_])] (T1 (fun d_0 => [(b_0, .cells [I p0x0.Most, .list 6 (p0x0.L.map Letter.av), I p0x0.time_]), (d_0, .arr 1 (r.map AV.str))]) (fun d_0 => .sl 1 d_0 0 r.length)) := by
  unfold Q_Hand_Done at h
  refine ACall.lessH ?_
  refine ACall.bodyN Tryz.func16 rfl Tryz.ntmps16 Tryz.results16 rfl rfl ?_
  refine tSR <| rA rfl rfl <| rN <| tSR <| rA rfl rfl <| rN <| tS <| tSR <| rM rfl rfl <| ARun.qv (q_nilCheck_ptr rfl) rfl <| rF rfl rfl rfl <| rL rfl rfl .p0 rfl rfl <| ARun.qv (t_len rfl) rfl <| rM rfl rfl <| rN <| ATodo.block <| ATodo.loopI (fun x : (List Str) × Int => Q_Hand_Done_b1 p0x0 x.1 x.2) (fun x σ' => ∃ (b4 : Bk), σ' = ⟨22, [(3, .sl 1 b4 0 x.1.length), (9, .list 6 (p0x0.L.map Letter.av)), (10, I (p0x0.L.length : Int)), (11, I x.2)], [(b_0, .cells [I p0x0.Most, .list 6 (p0x0.L.map Letter.av), I p0x0.time_]), (b4, .arr 1 (x.1.map AV.str))]⟩) h ?_ ?_
  · exact ImpX.arr (s := 3) 1 rfl fun b7 => ImpX.lq [1, 0] ⟨b7, rfl⟩ rfl rfl
  · intro x z1 σ' J1 hmk h hJ1 hA1
    obtain ⟨l5, n6⟩ := x
    obtain ⟨b4, rfl⟩ := hmk
    replace h : Q_Hand_Done_b1 p0x0 l5 n6 = some z1 := h
    unfold Q_Hand_Done_b1 at h
    refine tSR <| ARun.qv (q_lss rfl rfl) rfl <| rN <| tS <| ATodo.cond_d rfl (fun hc => ?_) (fun hc => ?_)
    · refine have h := iteT hc h; tK <| tS <| ATodo.block <| tSR <| bndE h fun v8 e1 h => ARun.qv (t_index rfl rfl rfl e1 rfl rfl) rfl <| ARun.qv (q_load_rptr_agg rfl rfl rfl) rfl <| n_alloc rfl rfl rfl rfl fun b9 => n_store_ptr rfl rfl rfl rfl .p0 rfl rfl <| rN <| tR <| rM rfl rfl <| rF rfl rfl rfl <| rL rfl rfl .p0 rfl rfl <| n_buildSliceL (xs := ([v8.Id] : List Str).map AV.str) rfl rfl rfl rfl rfl rfl <| bndE h fun l10 e2 h => t_append (g := AV.str) rfl rfl rfl rfl rfl rfl rfl rfl (.list _) e2 (fun _ => .p2) rfl fun b11 => rA rfl rfl <| rN <| ATodo.blk <| tR <| ARun.qv (q_addw rfl rfl) rfl <| rM rfl rfl <| rN <| ATodo.stop <| ?_
      obtain rfl := Option.some.inj h
      exact hJ1 _ _ rfl <| ImpX.lq [1, 1] ⟨b11, rfl⟩ rfl rfl
    · refine have h := iteF hc h; ATodo.exit rfl <| have h := outL h hA1; tSR <| rM rfl rfl <| rA rfl rfl <| rN <| ATodo.ret <| ?_
      obtain rfl := Option.some.inj h
      exact ImpX.here ⟨_, .cons (.tmp _ _ rfl) .nil, _, .cons .p0 (.cons .p0 .nil), ⟨b4, rfl, rfl⟩⟩

set_option maxHeartbeats 4000000 in
theorem Q_Hand_Done_c0x1x_c [GI : GTab] {b_0 : Bk} {b_0x1 : Bk} {p0x0 : Fleetref2_Hand} {r : (List Str)} (h : Q_Hand_Done_c0x1x p0x0 = some r) : ACall Tryz.prog 16 [.ptr b_0 0] [(b_0, .cells [I p0x0.Most, .sl 6 b_0x1 0 p0x0.L.length, I p0x0.time_]), (b_0x1, .arr 6 (p0x0.L.map Letter.av))] (T1 (fun d_0 => [(b_0, .cells [I p0x0.Most, .sl 6 b_0x1 0 p0x0.L.length, I p0x0.time_]), (b_0x1, .arr 6 (p0x0.L.map Letter.av)), (d_0, .arr 1 (r.map AV.str))]) (fun d_0 => .sl 1 d_0 0 r.length)) := by
  unfold Q_Hand_Done_c0x1x at h
  refine ACall.lessH ?_
  refine ACall.bodyN Tryz.func16 rfl Tryz.ntmps16 Tryz.results16 rfl rfl ?_
  refine tSR <| rA rfl rfl <| rN <| tSR <| rA rfl rfl <| rN <| tS <| tSR <| rM rfl rfl <| ARun.qv (q_nilCheck_ptr rfl) rfl <| rF rfl rfl rfl <| rL rfl rfl .p0 rfl rfl <| ARun.qv (t_len_sl rfl) rfl <| rM rfl rfl <| rN <| ATodo.block <| ATodo.loopI (fun x : (List Str) × Int => Q_Hand_Done_c0x1x_b1 p0x0 x.1 x.2) (fun x σ' => ∃ (b4 : Bk), σ' = ⟨22, [(3, .sl 1 b4 0 x.1.length), (9, .sl 6 b_0x1 0 p0x0.L.length), (10, I (p0x0.L.length : Int)), (11, I x.2)], [(b_0, .cells [I p0x0.Most, .sl 6 b_0x1 0 p0x0.L.length, I p0x0.time_]), (b_0x1, .arr 6 (p0x0.L.map Letter.av)), (b4, .arr 1 (x.1.map AV.str))]⟩) h ?_ ?_
  · exact ImpX.arr (s := 3) 1 rfl fun b7 => ImpX.lq [1, 1, 0] ⟨b7, rfl⟩ rfl rfl
  · intro x z1 σ' J1 hmk h hJ1 hA1
    obtain ⟨l5, n6⟩ := x
    obtain ⟨b4, rfl⟩ := hmk
    replace h : Q_Hand_Done_c0x1x_b1 p0x0 l5 n6 = some z1 := h
    unfold Q_Hand_Done_c0x1x_b1 at h
    refine tSR <| ARun.qv (q_lss rfl rfl) rfl <| rN <| tS <| ATodo.cond_d rfl (fun hc => ?_) (fun hc => ?_)
    · refine have h := iteT hc h; tK <| tS <| ATodo.block <| tSR <| bndE h fun v8 e1 h => ARun.qv (t_index_sl rfl rfl rfl e1) rfl <| ARun.qv (t_load_aptr_agg (g := Letter.av) rfl rfl (.inl .p1) rfl e1 rfl) rfl <| n_alloc rfl rfl rfl rfl fun b9 => n_store_ptr rfl rfl rfl rfl .p0 rfl rfl <| rN <| tR <| rM rfl rfl <| rF rfl rfl rfl <| rL rfl rfl .p0 rfl rfl <| n_buildSliceL (xs := ([v8.Id] : List Str).map AV.str) rfl rfl rfl rfl rfl rfl <| bndE h fun l10 e2 h => t_append (g := AV.str) rfl rfl rfl rfl rfl rfl rfl rfl (.list _) e2 (fun _ => .p3) rfl fun b11 => rA rfl rfl <| rN <| ATodo.blk <| tR <| ARun.qv (q_addw rfl rfl) rfl <| rM rfl rfl <| rN <| ATodo.stop <| ?_
      obtain rfl := Option.some.inj h
      exact hJ1 _ _ rfl <| ImpX.lq [1, 1, 1] ⟨b11, rfl⟩ rfl rfl
    · refine have h := iteF hc h; ATodo.exit rfl <| have h := outL h hA1; tSR <| rM rfl rfl <| rA rfl rfl <| rN <| ATodo.ret <| ?_
      obtain rfl := Option.some.inj h
      exact ImpX.here ⟨_, .cons (.tmp _ _ rfl) .nil, _, .cons .p0 (.cons .p0 (.cons .p0 .nil)), ⟨b4, rfl, rfl⟩⟩

set_option maxHeartbeats 4000000 in
theorem slices_Equal_string_string_c [GI : GTab] {p0x0 : List Str} {p1x0 : List Str} {r : Bool} (h : slices_Equal_string_string p0x0 p1x0 = some r) : Pu Tryz.prog 14 [.list 1 (p0x0.map AV.str), .list 1 (p1x0.map AV.str)] (.bool r) := by
  unfold slices_Equal_string_string at h
  refine ACall.bodyN Tryz.func14 rfl Tryz.ntmps14 Tryz.results14 rfl rfl ?_
  refine tSR <| rA rfl rfl <| rN <| tS <| tSR <| rM rfl rfl <| ARun.qv (t_len rfl) rfl <| rM rfl rfl <| ARun.qv (t_len rfl) rfl <| ARun.qv (q_neq rfl rfl) rfl <| rN <| ATodo.cond_d rfl (fun hc => ?_) (fun hc => ?_)
  · refine have h := iteT hc h; tSR <| rA rfl rfl <| rN <| ATodo.ret <| ?_
    obtain rfl := Option.some.inj h
    exact ImpX.here ⟨_, .cons (.tmp _ _ rfl) .nil, rfl⟩
  · refine have h := iteF hc h; tK <| tS <| tSR <| rM rfl rfl <| ARun.qv (t_len rfl) rfl <| rM rfl rfl <| rN <| ATodo.block <| ATodo.loopI (fun x : Int => slices_Equal_string_string_b1 p0x0 p1x0 x) (fun x σ' => σ' = ⟨26, [(0, .list 1 (p0x0.map AV.str)), (1, .list 1 (p1x0.map AV.str)), (12, I (p0x0.length : Int)), (13, I x)], []⟩) h ?_ ?_
    · exact ImpX.lq [] rfl rfl rfl
    · intro n2 z1 σ' J1 hmk h hJ1 hA1
      obtain rfl := hmk
      replace h : slices_Equal_string_string_b1 p0x0 p1x0 n2 = some z1 := h
      unfold slices_Equal_string_string_b1 at h
      refine tSR <| ARun.qv (q_lss rfl rfl) rfl <| rN <| tS <| ATodo.cond_d rfl (fun hc => ?_) (fun hc => ?_)
      · refine have h := iteT hc h; tK <| tS <| ATodo.block <| tSR <| rM rfl rfl <| rA rfl rfl <| rN <| tS <| ATodo.regionM (id := 6) (A := [0, 0, 3, 7, 0, 0, 48, 112, 255]) 9 mixed rfl (by kernel_rfl) (by kernel_rfl) <| AM.qv (q_move rfl) rfl <| AM.qv (q_move rfl) rfl <| bndE h fun v3 e1 h => AM.qv (t_index rfl rfl rfl e1 rfl rfl) rfl <| AM.qv (q_load_rptr rfl rfl rfl) rfl <| AM.qv (q_move rfl) rfl <| AM.qv (q_move rfl) rfl <| bndE h fun v4 e2 h => AM.qv (t_index rfl rfl rfl e2 rfl rfl) rfl <| AM.qv (q_load_rptr rfl rfl rfl) rfl <| AM.qv (q_sne rfl rfl) rfl <| AM.nil <| rN <| ATodo.cond_d rfl (fun hc => ?_) (fun hc => ?_)
        · refine have h := iteT hc h; tSR <| rA rfl rfl <| rN <| ATodo.ret <| have h := outL h hA1; ?_
          obtain rfl := Option.some.inj h
          exact ImpX.here ⟨_, .cons (.tmp _ _ rfl) .nil, rfl⟩
        · refine have h := iteF hc h; tK <| ATodo.blk <| tR <| ARun.qv (q_addw rfl rfl) rfl <| rM rfl rfl <| rN <| ATodo.stop <| ?_
          obtain rfl := Option.some.inj h
          exact hJ1 _ _ rfl <| ImpX.lq [] rfl rfl rfl
      · refine have h := iteF hc h; ATodo.exit rfl <| have h := outL h hA1; tSR <| rA rfl rfl <| rN <| ATodo.ret <| ?_
        obtain rfl := Option.some.inj h
        exact ImpX.here ⟨_, .cons (.tmp _ _ rfl) .nil, rfl⟩

set_option maxHeartbeats 4000000 in
theorem L_DevicesRemember_c {p0x0 : List Int} {r : Bool} (h : L_DevicesRemember p0x0 = some r) : Pu Tryz.prog 3 [.list 1 (p0x0.map I)] (.bool r) := by
  unfold L_DevicesRemember at h
  refine ACall.bodyN Tryz.func3 rfl Tryz.ntmps3 Tryz.results3 rfl rfl ?_
  refine tSR <| rA rfl rfl <| rN <| tSR <| rM rfl rfl <| ARun.qv (n_build rfl rfl rfl rfl rfl) rfl <| n_box rfl rfl rfl rfl fun b1 => rA rfl rfl <| rN <| tSR <| rM rfl rfl <| n_buildSliceL (xs := ([(1 : Int), (2 : Int), (3 : Int), (1000 : Int), (0 : Int), (1001 : Int)]).map I) rfl rfl rfl rfl rfl rfl <| bndE h fun v2 e1 h => t_call0 rfl (Stream_Pick_c e1) (CoL.refl _) (.cons .p0 .nil) rfl rfl <| rA rfl rfl <| rN <| tSR <| rM rfl rfl <| optE h (fun e2 h => ?_) (fun x3 e2 h => ?_)
  · refine have cM5 := TM_none e2 (command_NewDoer_c rfl); t_call0 rfl cM5 (CoL.refl _) .nil rfl rfl <| rM rfl rfl <| rX rfl rfl rfl <| rX rfl rfl rfl <| rA rfl rfl <| rA rfl rfl <| rN <| tS <| tS <| ATodo.cut (fun σ' => ∃ (n4 : Int), L_DevicesRemember_j1 v2 n4 = some r ∧ σ' = ⟨113, [(3, .ptr b1 0), (4, I v2.1), (5, .raw (.pointer none)), (6, I ((command_NewDoer v2.1).2)), (7, I n4)], [(b1, .cells [.list 1 (v2.2.L.map I), I v2.2.at_])]⟩) ?_ ?_
    · refine tR <| rM rfl rfl <| ARun.qv (q_lss rfl rfl) rfl <| rM rfl rfl <| ARun.guard_df rfl rfl rfl (fun hc => ?_) (fun hc => ?_)
      · exact have h := iteF hc h; rM rfl rfl <| rY rfl rfl rfl <| ARun.qv (q_gtr rfl rfl) rfl <| rE rfl rfl rfl <| r_callp rfl (L_when_c rfl) (CoL.refl _) rfl <| rA rfl rfl <| rN <| ATodo.stop <| ImpX.lq [0] ⟨(L_when (decide ((1000 : Int) < v2.1)) (1 : Int)), h, rfl⟩ rfl rfl
      · exact have h := iteT hc h; rG rfl rfl rfl rfl <| rT rfl rfl rfl <| r_callp rfl (L_when_c rfl) (CoL.refl _) rfl <| rA rfl rfl <| rN <| ATodo.stop <| ImpX.lq [0] ⟨(L_when true (1 : Int)), h, rfl⟩ rfl rfl
    · rintro σ' ⟨n4, h, rfl⟩
      unfold L_DevicesRemember_j1 at h
      refine tS <| ATodo.cut (fun σ' => ∃ (c5 : Bool), L_DevicesRemember_j2 v2 n4 c5 = some r ∧ σ' = ⟨113, [(3, .ptr b1 0), (4, I v2.1), (5, .raw (.pointer none)), (6, I ((command_NewDoer v2.1).2)), (7, I n4), (40, .bool c5)], [(b1, .cells [.list 1 (v2.2.L.map I), I v2.2.at_])]⟩) ?_ ?_
      · refine tR <| rM rfl rfl <| rM rfl rfl <| ARun.qv (q_neq rfl rfl) rfl <| rM rfl rfl <| ARun.guard_df rfl rfl rfl (fun hc => ?_) (fun hc => ?_)
        · rw [orFd hc] at h
          exact rM rfl rfl <| rY rfl rfl rfl <| ARun.qv (q_neq rfl rfl) rfl <| rE rfl rfl rfl <| rN <| ATodo.stop <| ImpX.lq [0] ⟨decide (n4 ≠ (0 : Int)), h, rfl⟩ rfl rfl
        · rw [orTd hc] at h
          exact rG rfl rfl rfl rfl <| rT rfl rfl rfl <| rN <| ATodo.stop <| ImpX.lq [0] ⟨true, h, rfl⟩ rfl rfl
      · rintro σ' ⟨c5, h, rfl⟩
        unfold L_DevicesRemember_j2 at h
        refine ATodo.cond rfl (fun hc => ?_) (fun hc => ?_)
        · refine have h := iteT hc h; tS <| ATodo.cut (fun σ' => ∃ (c6 : Bool), L_DevicesRemember_j3 c6 = some r ∧ σ' = ⟨113, [(2, .bool c6)], []⟩) ?_ ?_
          · refine tR <| rM rfl rfl <| rM rfl rfl <| ARun.qv (q_eql rfl rfl) rfl <| rM rfl rfl <| ARun.guard_dt rfl rfl rfl (fun hc => ?_) (fun hc => ?_)
            · exact have h := iteT hc h; rM rfl rfl <| rY rfl rfl rfl <| ARun.qv (q_ppneql rfl rfl) rfl <| rT rfl rfl rfl <| rM rfl rfl <| rY rfl rfl rfl <| bndE h fun v7 e3 h => r_callp rfl (L_posted_c e3) (CoL.refl _) rfl <| rT rfl rfl rfl <| rA rfl rfl <| rN <| ATodo.stop <| ImpX.lq [] ⟨v7, h, rfl⟩ rfl rfl
            · exact have h := iteF hc h; rG rfl rfl rfl rfl <| rE rfl rfl rfl <| rM rfl rfl <| rG rfl rfl rfl rfl <| rE rfl rfl rfl <| rA rfl rfl <| rN <| ATodo.stop <| ImpX.lq [] ⟨false, h, rfl⟩ rfl rfl
          · rintro σ' ⟨c6, h, rfl⟩
            unfold L_DevicesRemember_j3 at h
            refine ATodo.ret <| ?_
            obtain rfl := Option.some.inj h
            exact ImpX.here ⟨_, .cons (.tmp _ _ rfl) .nil, rfl⟩
        · refine have h := iteFb hc h; tK <| tS <| tSR <| rM rfl rfl <| ARun.qv (q_ppneql rfl rfl) rfl <| rN <| ATodo.cond_t rfl <| tSR <| rA rfl rfl <| rN <| ATodo.ret <| ?_
          obtain rfl := Option.some.inj h
          exact ImpX.here ⟨_, .cons (.tmp _ _ rfl) .nil, rfl⟩
  · refine have cM6 := TM_some e2 (command_NewDoer_c rfl); t_call2 rfl cM6 (CoL.refl _) .nil (fun _ _ => rfl) rfl fun b8 b9 => rM rfl rfl <| rX rfl rfl rfl <| rX rfl rfl rfl <| rA rfl rfl <| rA rfl rfl <| rN <| tS <| tS <| ATodo.cut (fun σ' => ∃ (n10 : Int), L_DevicesRemember_j4 v2 x3 n10 = some r ∧ σ' = ⟨113, [(3, .ptr b1 0), (4, I v2.1), (5, .ptr b8 0), (6, I ((command_NewDoer v2.1).2)), (7, I n10)], [(b1, .cells [.list 1 (v2.2.L.map I), I v2.2.at_]), (b8, .cells [I x3.most_, .sl 2 b9 0 x3.l_.length, I x3.time_]), (b9, .arr 2 (x3.l_.map Command_done.av))]⟩) ?_ ?_
    · refine tR <| rM rfl rfl <| ARun.qv (q_lss rfl rfl) rfl <| rM rfl rfl <| ARun.guard_df rfl rfl rfl (fun hc => ?_) (fun hc => ?_)
      · exact have h := iteF hc h; rM rfl rfl <| rY rfl rfl rfl <| ARun.qv (q_gtr rfl rfl) rfl <| rE rfl rfl rfl <| r_callp rfl (L_when_c rfl) (CoL.refl _) rfl <| rA rfl rfl <| rN <| ATodo.stop <| ImpX.lq [2, 0, 0] ⟨(L_when (decide ((1000 : Int) < v2.1)) (1 : Int)), h, rfl⟩ rfl rfl
      · exact have h := iteT hc h; rG rfl rfl rfl rfl <| rT rfl rfl rfl <| r_callp rfl (L_when_c rfl) (CoL.refl _) rfl <| rA rfl rfl <| rN <| ATodo.stop <| ImpX.lq [2, 0, 0] ⟨(L_when true (1 : Int)), h, rfl⟩ rfl rfl
    · rintro σ' ⟨n10, h, rfl⟩
      unfold L_DevicesRemember_j4 at h
      refine tS <| ATodo.cut (fun σ' => ∃ (c11 : Bool), L_DevicesRemember_j5 v2 x3 n10 c11 = some r ∧ σ' = ⟨113, [(3, .ptr b1 0), (4, I v2.1), (5, .ptr b8 0), (6, I ((command_NewDoer v2.1).2)), (7, I n10), (40, .bool c11)], [(b1, .cells [.list 1 (v2.2.L.map I), I v2.2.at_]), (b8, .cells [I x3.most_, .sl 2 b9 0 x3.l_.length, I x3.time_]), (b9, .arr 2 (x3.l_.map Command_done.av))]⟩) ?_ ?_
      · refine tR <| rM rfl rfl <| rM rfl rfl <| ARun.qv (q_neq rfl rfl) rfl <| rM rfl rfl <| ARun.guard_df rfl rfl rfl (fun hc => ?_) (fun hc => ?_)
        · rw [orFd hc] at h
          exact rM rfl rfl <| rY rfl rfl rfl <| ARun.qv (q_neq rfl rfl) rfl <| rE rfl rfl rfl <| rN <| ATodo.stop <| ImpX.lq [0, 0, 0] ⟨decide (n10 ≠ (0 : Int)), h, rfl⟩ rfl rfl
        · rw [orTd hc] at h
          exact rG rfl rfl rfl rfl <| rT rfl rfl rfl <| rN <| ATodo.stop <| ImpX.lq [0, 0, 0] ⟨true, h, rfl⟩ rfl rfl
      · rintro σ' ⟨c11, h, rfl⟩
        unfold L_DevicesRemember_j5 at h
        refine ATodo.cond rfl (fun hc => ?_) (fun hc => ?_)
        · refine have h := iteT hc h; tS <| ATodo.cut (fun σ' => L_DevicesRemember_j6 = some r ∧ σ' = ⟨113, [(2, .bool false)], []⟩) ?_ ?_
          · refine tR <| rM rfl rfl <| rM rfl rfl <| ARun.qv (q_eql rfl rfl) rfl <| rM rfl rfl <| ARun.guard_dt rfl rfl rfl (fun hc => ?_) (fun hc => ?_)
            · exact have h := iteT hc h; rM rfl rfl <| rY rfl rfl rfl <| ARun.qv (q_ppeql rfl rfl) rfl <| rT rfl rfl rfl <| rM rfl rfl <| rG rfl rfl rfl rfl <| rE rfl rfl rfl <| rA rfl rfl <| rN <| ATodo.stop <| ImpX.lq [] ⟨h, rfl⟩ rfl rfl
            · exact have h := iteF hc h; rG rfl rfl rfl rfl <| rE rfl rfl rfl <| rM rfl rfl <| rG rfl rfl rfl rfl <| rE rfl rfl rfl <| rA rfl rfl <| rN <| ATodo.stop <| ImpX.lq [] ⟨h, rfl⟩ rfl rfl
          · rintro σ' ⟨h, rfl⟩
            unfold L_DevicesRemember_j6 at h
            refine ATodo.ret <| ?_
            obtain rfl := Option.some.inj h
            exact ImpX.here ⟨_, .cons (.tmp _ _ rfl) .nil, rfl⟩
        · refine have h := iteFb hc h; tK <| tS <| tSR <| rM rfl rfl <| ARun.qv (q_ppeql rfl rfl) rfl <| rN <| ATodo.cond_f rfl <| tK <| tSR <| rM rfl rfl <| ARun.qv (n_build rfl rfl rfl rfl rfl) rfl <| n_box rfl rfl rfl rfl fun b12 => rA rfl rfl <| rN <| tSR <| rA rfl rfl <| rN <| tS <| tSR <| rM rfl rfl <| bndE h fun v13 e4 h => t_call0 rfl (Stream_Range_c e4) (CoL.refl _) (.cons .p1 .nil) rfl rfl <| rM rfl rfl <| rN <| ATodo.block <| ATodo.loopI (fun x : (List Int) × Int × Int × (List Command_done) × Int × Int × (List Letter) × Int × Int × Int => L_DevicesRemember_b1 v13 x.1 x.2.1 x.2.2.1 x.2.2.2.1 x.2.2.2.2.1 x.2.2.2.2.2.1 x.2.2.2.2.2.2.1 x.2.2.2.2.2.2.2.1 x.2.2.2.2.2.2.2.2.1 x.2.2.2.2.2.2.2.2.2) (fun x σ' => ∃ (b29 : Bk) (b33 : Bk), σ' = ⟨113, [(3, .ptr b1 0), (5, .ptr b8 0), (8, .ptr b12 0), (9, I x.2.2.2.2.2.2.2.2.1), (57, I v13.1), (58, I x.2.2.2.2.2.2.2.2.2)], [(b1, .cells [.list 1 (x.1.map I), I x.2.1]), (b8, .cells [I x.2.2.1, .sl 2 b29 0 x.2.2.2.1.length, I x.2.2.2.2.1]), (b29, .arr 2 (x.2.2.2.1.map Command_done.av)), (b12, .cells [I x.2.2.2.2.2.1, .sl 6 b33 0 x.2.2.2.2.2.2.1.length, I x.2.2.2.2.2.2.2.1]), (b33, .arr 6 (x.2.2.2.2.2.2.1.map Letter.av))]⟩) h ?_ ?_
          · exact ImpX.arrBox (j := 1) 6 (fun _ => .p1) rfl (fun _ => rfl) (fun _ => rfl) fun b38 => ImpX.lq [1, 2, 2, 1, 0] ⟨b9, b38, rfl⟩ rfl rfl
          · intro x z1 σ' J1 hmk h hJ1 hA1
            obtain ⟨l26, n27, n28, l30, n31, n32, l34, n35, n36, n37⟩ := x
            obtain ⟨b29, b33, rfl⟩ := hmk
            replace h : L_DevicesRemember_b1 v13 l26 n27 n28 l30 n31 n32 l34 n35 n36 n37 = some z1 := h
            unfold L_DevicesRemember_b1 at h
            refine tSR <| ARun.qv (q_lss rfl rfl) rfl <| rN <| tS <| ATodo.cond_d rfl (fun hc => ?_) (fun hc => ?_)
            · refine have h := iteT hc h; tK <| tS <| ATodo.block <| tSR <| rM rfl rfl <| rM rfl rfl <| n_buildSliceL (xs := ([(0 : Int), (1 : Int), (2 : Int), (5 : Int), (10 : Int)]).map I) rfl rfl rfl rfl rfl rfl <| bndE h fun v39 e5 h => t_call0 rfl (Stream_Pick_c e5) (CoL.refl _) (.cons .p0 .nil) rfl rfl <| ARun.qv (q_addw rfl rfl) rfl <| rA rfl rfl <| rN <| tSR <| rM rfl rfl <| rA rfl rfl <| rN <| tS <| tSR <| rM rfl rfl <| bndE h fun v40 e6 h => t_call0 rfl (Stream_Flip_c e6) (CoL.refl _) (.cons .p0 .nil) rfl rfl <| rN <| ATodo.cut (fun σ' => ∃ (l41 : List Int) (n42 : Int) (n43 : Int), L_DevicesRemember_j7 n28 l30 n31 n32 l34 n35 n36 n37 v39 l41 n42 n43 = some z1 ∧ σ' = ⟨113, [(3, .ptr b1 0), (5, .ptr b8 0), (8, .ptr b12 0), (9, I (w64 (n36 + v39.1))), (10, I n43), (57, I v13.1), (58, I n37)], [(b1, .cells [.list 1 (l41.map I), I n42]), (b8, .cells [I n28, .sl 2 b29 0 l30.length, I n31]), (b29, .arr 2 (l30.map Command_done.av)), (b12, .cells [I n32, .sl 6 b33 0 l34.length, I n35]), (b33, .arr 6 (l34.map Letter.av))]⟩) ?_ ?_
              · refine ATodo.cond rfl (fun hc => ?_) (fun hc => ?_)
                · exact have h := iteT hc h; tR <| rM rfl rfl <| rM rfl rfl <| ARun.qv (q_subw rfl rfl) rfl <| n_buildSliceL (xs := ([(-1 : Int), (345686400000 : Int), w64 ((w64 (n36 + v39.1)) - (1 : Int))]).map I) rfl rfl rfl rfl rfl rfl <| bndE h fun v44 e7 h => t_call0 rfl (Stream_Pick_c e7) (CoL.refl _) (.cons .p0 .nil) rfl rfl <| rA rfl rfl <| rN <| ATodo.stop <| ImpX.lq [0, 0, 0, 0, 0] ⟨v44.2.L, v44.2.at_, v44.1, h, rfl⟩ rfl rfl
                · exact have h := iteFb hc h; tK <| ATodo.stop <| ImpX.lq [0, 0, 0, 0, 0] ⟨v40.2.L, v40.2.at_, w64 (n36 + v39.1), h, rfl⟩ rfl rfl
              · rintro σ' ⟨l41, n42, n43, h, rfl⟩
                unfold L_DevicesRemember_j7 at h
                refine tSR <| rM rfl rfl <| rM rfl rfl <| rM rfl rfl <| n_buildSliceL (xs := ([(0 : Int), (0 : Int), (5 : Int), (20 : Int)]).map I) rfl rfl rfl rfl rfl rfl <| bndE h fun v45 e8 h => t_call0 rfl (Stream_Pick_c e8) (CoL.refl _) (.cons .p0 .nil) rfl rfl <| ARun.qv (q_subw rfl rfl) rfl <| ARun.qv (q_max rfl rfl) rfl <| bndE h fun v46 e9 h => t_call0 rfl (Stream_Letter_c e9) (CoL.refl _) (.cons .p0 .nil) rfl rfl <| n_alloc rfl rfl rfl rfl fun b47 => n_store_ptr rfl rfl rfl rfl .p0 rfl rfl <| rN <| tSR <| rM rfl rfl <| ARun.qv (q_load_ptr_all rfl rfl .p0 rfl) rfl <| rM rfl rfl <| bndE h fun v48 e10 h => t_call1 rfl (command_Doer_Do_c e10) (CoL.refl _) (.cons .p2 (.cons .p2 .nil)) (fun _ => rfl) rfl fun b49 => rM rfl rfl <| rX rfl rfl rfl <| rX rfl rfl rfl <| rA rfl rfl <| rA rfl rfl <| rN <| tSR <| rM rfl rfl <| ARun.qv (q_load_ptr_all rfl rfl .p2 rfl) rfl <| rM rfl rfl <| bndE h fun v50 e11 h => t_call1 rfl (Q_Hand_Do_c e11) (CoL.refl _) (.cons .p4 (.cons .p4 .nil)) (fun _ => rfl) rfl fun b51 => rM rfl rfl <| rX rfl rfl rfl <| rX rfl rfl rfl <| rA rfl rfl <| rA rfl rfl <| rN <| tS <| ATodo.cut (fun σ' => ∃ (c52 : Bool), L_DevicesRemember_j8 n36 n37 v39 v46 v48 v50 c52 = some z1 ∧ σ' = ⟨113, [(3, .ptr b1 0), (5, .ptr b8 0), (8, .ptr b12 0), (9, I (w64 (n36 + v39.1))), (57, I v13.1), (58, I n37), (110, .bool c52)], [(b1, .cells [.list 1 (v46.2.L.map I), I v46.2.at_]), (b8, .cells [I v48.2.2.most_, .sl 2 b49 0 v48.2.2.l_.length, I v48.2.2.time_]), (b49, .arr 2 (v48.2.2.l_.map Command_done.av)), (b12, .cells [I v50.2.2.Most, .sl 6 b51 0 v50.2.2.L.length, I v50.2.2.time_]), (b51, .arr 6 (v50.2.2.L.map Letter.av))]⟩) ?_ ?_
                · refine tR <| rM rfl rfl <| rM rfl rfl <| ARun.qv (q_bne rfl rfl) rfl <| rM rfl rfl <| ARun.guard rfl rfl rfl (fun hc => ?_) (fun hc => ?_)
                  · refine have h := iteFb hc h; rM rfl rfl <| rY rfl rfl rfl <| rM rfl rfl <| rY rfl rfl rfl <| ARun.qv (q_neq rfl rfl) rfl <| rE rfl rfl rfl <| rM rfl rfl <| ARun.guard_df rfl rfl rfl (fun hc => ?_) (fun hc => ?_)
                    · exact have h := iteF hc h; rM rfl rfl <| rY rfl rfl rfl <| bndE h fun v53 e12 h => t_call1 rfl (command_Doer_Done_c0x1x_c e12) (CoL.refl _) (.cons .p2 (.cons .p2 .nil)) (fun _ => rfl) rfl fun b54 => rY rfl rfl rfl <| rM rfl rfl <| rY rfl rfl rfl <| bndE h fun v55 e13 h => t_call1 rfl (Q_Hand_Done_c0x1x_c e13) (CoL.refl _) (.cons .p3 (.cons .p3 .nil)) (fun _ => rfl) rfl fun b56 => rY rfl rfl rfl <| bndE h fun v57 e14 h => r_callpB rfl (slices_Equal_string_string_c e14) (.cons (CoB.arrT .p5) (.cons (CoB.arrT .p2) .nil)) rfl rfl <| rY rfl rfl rfl <| ARun.qv (q_not rfl) rfl <| rE rfl rfl rfl <| rN <| ATodo.stop <| ImpX.lq [7, 3, 3, 0, 0] ⟨!v57, h, rfl⟩ rfl rfl
                    · exact have h := iteT hc h; rG rfl rfl rfl rfl <| rG rfl rfl rfl rfl <| rG rfl rfl rfl rfl <| rG rfl rfl rfl rfl <| rG rfl rfl rfl rfl <| rT rfl rfl rfl <| rN <| ATodo.stop <| ImpX.lq [5, 2, 2, 0, 0] ⟨true, h, rfl⟩ rfl rfl
                  · exact have h := iteT hc h; rG rfl rfl rfl rfl <| rG rfl rfl rfl rfl <| rT rfl rfl rfl <| rM rfl rfl <| rG rfl rfl rfl rfl <| rG rfl rfl rfl rfl <| rG rfl rfl rfl rfl <| rG rfl rfl rfl rfl <| rG rfl rfl rfl rfl <| rG rfl rfl rfl rfl <| rT rfl rfl rfl <| rN <| ATodo.stop <| ImpX.lq [5, 2, 2, 0, 0] ⟨true, h, rfl⟩ rfl rfl
                · rintro σ' ⟨c52, h, rfl⟩
                  unfold L_DevicesRemember_j8 at h
                  refine ATodo.cond rfl (fun hc => ?_) (fun hc => ?_)
                  · refine have h := iteT hc h; tSR <| rA rfl rfl <| rN <| ATodo.ret <| have h := outL h hA1; ?_
                    obtain rfl := Option.some.inj h
                    exact ImpX.here ⟨_, .cons (.tmp _ _ rfl) .nil, rfl⟩
                  · refine have h := iteFb hc h; tK <| ATodo.blk <| tR <| ARun.qv (q_addw rfl rfl) rfl <| rM rfl rfl <| rN <| ATodo.stop <| ?_
                    obtain rfl := Option.some.inj h
                    exact hJ1 _ _ rfl <| ImpX.lq [0, 0, 0, 0, 0] ⟨b49, b51, rfl⟩ rfl rfl
            · refine have h := iteF hc h; ATodo.exit rfl <| have h := outL h hA1; ?_
              unfold L_DevicesRemember_k9 at h
              refine tSR <| bndE h fun v58 e15 h => r_callp rfl (L_posted_c e15) (CoL.refl _) rfl <| rA rfl rfl <| rN <| ATodo.ret <| ?_
              obtain rfl := Option.some.inj h
              exact ImpX.here ⟨_, .cons (.tmp _ _ rfl) .nil, rfl⟩

end Go.Proofs.YtibjdfdmkahocaaGreatDoor
