/- The code computes the plain functions: proofs written by shal.py. -/
import Derived.Test.YtfhlfjnjcjbomaaGreatDoorLetW1
set_option maxRecDepth 100000
set_option linter.unusedVariables false
set_option linter.unusedSimpArgs false
namespace Go.Proofs.YtfhlfjnjcjbomaaGreatDoor
open Go Go.Eng Go.Proofs Go.Beacon
attribute [local irreducible] ARun ATodo AQ QV ACall ImpX AWp AM
set_option maxHeartbeats 4000000 in
theorem command_Office_Waiting_c [GI : GTab] {b_0 : Bk} {b_0x4 : Bk} {p0x0 : Command_Office} {p1x0 : Int} {r : Int × Int × Command_Office} (h : command_Office_Waiting p0x0 p1x0 = some r) : ACall Tryz.prog 39 [.ptr b_0 0, I p1x0] [(b_0, .cells [I p0x0.post_.Room, I p0x0.post_.Timeout, I p0x0.post_.Tries, I p0x0.post_.Kept, .mref b_0x4, I p0x0.time_]), (b_0x4, .mp (p0x0.notes_.map (fun e => (AV.str e.1, Note.av e.2))))] (T1 (fun c_0x4 => [(b_0, .cells [I r.2.2.post_.Room, I r.2.2.post_.Timeout, I r.2.2.post_.Tries, I r.2.2.post_.Kept, .mref c_0x4, I r.2.2.time_]), (c_0x4, .mp (r.2.2.notes_.map (fun e => (AV.str e.1, Note.av e.2))))]) (fun c_0x4 => .tup [I r.1, I r.2.1])) := by
  unfold command_Office_Waiting at h
  refine ACall.lessH ?_
  refine ACall.bodyN Tryz.func39 rfl Tryz.ntmps39 Tryz.results39 rfl rfl ?_
  refine tSR <| rA rfl rfl <| rA rfl rfl <| rN <| tS <| tSR <| rM rfl rfl <| rM rfl rfl <| t_call0 rfl (command_Office_timeFault_c rfl) (CoL.refl _) (.cons .p0 .nil) rfl rfl <| rA rfl rfl <| rN <| tSR <| rM rfl rfl <| ARun.qv (q_neq rfl rfl) rfl <| rN <| ATodo.cond_d rfl (fun hc => ?_) (fun hc => ?_)
  · refine have h := iteT hc h; tSR <| rM rfl rfl <| rA rfl rfl <| rA rfl rfl <| rN <| ATodo.ret <| ?_
    obtain rfl := Option.some.inj h
    exact ImpX.here ⟨_, .cons (.tmp _ _ rfl) (.cons (.tmp _ _ rfl) .nil), _, .cons .p0 (.cons .p0 .nil), ⟨b_0x4, rfl, rfl⟩⟩
  · refine have h := iteF hc h; tK <| tSR <| rM rfl rfl <| rM rfl rfl <| rM rfl rfl <| bndE h fun v1 e1 h => t_call1 rfl (command_Office_aged_c e1) (CoL.refl _) (.cons .p0 (.cons .p0 .nil)) (fun _ => rfl) rfl fun b2 => rM rfl rfl <| t_call1 rfl (command_Office_keep_c rfl) (CoL.refl _) (.cons .p0 (.cons .p0 (.cons .p0 .nil))) (fun _ => rfl) rfl fun b3 => rN <| tSR <| rM rfl rfl <| ARun.qv (q_nilCheck_ptr rfl) rfl <| rF rfl rfl rfl <| rL rfl rfl .p0 rfl rfl <| bndE h fun v4 e2 h => t_call0 rfl (command_pending_c e2) (CoL.refl _) (.cons .p1 .nil) rfl rfl <| rA rfl rfl <| rA rfl rfl <| rN <| ATodo.ret <| ?_
    obtain rfl := Option.some.inj h
    exact ImpX.here ⟨_, .cons (.tmp _ _ rfl) (.cons (.tmp _ _ rfl) .nil), _, .cons .p1 (.cons .p0 .nil), ⟨b3, rfl, rfl⟩⟩

set_option maxHeartbeats 4000000 in
theorem L_posted_c {r : Bool} (h : L_posted = some r) : Pu Tryz.prog 9 [] (.bool r) := by
  unfold L_posted at h
  refine ACall.bodyN Tryz.func9 rfl Tryz.ntmps9 Tryz.results9 rfl rfl ?_
  refine tSR <| rA rfl rfl <| rN <| tSR <| ARun.qv (n_build rfl rfl rfl rfl rfl) rfl <| optE h (fun e1 h => ?_) (fun x1 e1 h => ?_)
  · refine have cM5 := TM_none e1 (command_New_c (rfl : command_New (⟨(1 : Int), (1 : Int), (1 : Int), (0 : Int)⟩ : Post) = _)); t_call0 rfl cM5 (CoL.refl _) .nil rfl rfl <| rM rfl rfl <| rX rfl rfl rfl <| rX rfl rfl rfl <| rA rfl rfl <| rA rfl rfl <| rN <| tS <| tS <| ATodo.cut (fun σ' => L_posted_j1 = some r ∧ σ' = ⟨32, [(1, .raw (.pointer none)), (20, .bool true)], []⟩) ?_ ?_
    · refine tR <| rM rfl rfl <| ARun.qv (q_neq rfl rfl) rfl <| rM rfl rfl <| ARun.guard_df rfl rfl rfl (fun hc => ?_) (fun hc => ?_)
      · exact have h := iteF hc h; rM rfl rfl <| rY rfl rfl rfl <| ARun.qv (q_ppneql rfl rfl) rfl <| rE rfl rfl rfl <| rM rfl rfl <| rG rfl rfl rfl rfl <| rG rfl rfl rfl rfl <| rG rfl rfl rfl rfl <| rG rfl rfl rfl rfl <| rT rfl rfl rfl <| rN <| ATodo.stop <| ImpX.lq [] ⟨h, rfl⟩ rfl rfl
      · exact have h := iteT hc h; rG rfl rfl rfl rfl <| rT rfl rfl rfl <| rM rfl rfl <| rG rfl rfl rfl rfl <| rG rfl rfl rfl rfl <| rG rfl rfl rfl rfl <| rG rfl rfl rfl rfl <| rT rfl rfl rfl <| rN <| ATodo.stop <| ImpX.lq [] ⟨h, rfl⟩ rfl rfl
    · rintro σ' ⟨h, rfl⟩
      unfold L_posted_j1 at h
      refine ATodo.cond_t rfl <| tSR <| rA rfl rfl <| rN <| ATodo.ret <| ?_
      obtain rfl := Option.some.inj h
      exact ImpX.here ⟨_, .cons (.tmp _ _ rfl) .nil, rfl⟩
  · refine have cM6 := TM_some e1 (command_New_c (rfl : command_New (⟨(1 : Int), (1 : Int), (1 : Int), (0 : Int)⟩ : Post) = _)); t_call2 rfl cM6 (CoL.refl _) .nil (fun _ _ => rfl) rfl fun b2 b3 => rM rfl rfl <| rX rfl rfl rfl <| rX rfl rfl rfl <| rA rfl rfl <| rA rfl rfl <| rN <| tS <| tS <| ATodo.cut (fun σ' => ∃ (b8 : Bk) (n4 : Int) (n5 : Int) (n6 : Int) (n7 : Int) (l9 : List (Str × Note)) (n10 : Int) (c11 : Bool), L_posted_j2 n4 n5 n6 n7 l9 n10 c11 = some r ∧ σ' = ⟨32, [(1, .ptr b2 0), (20, .bool c11)], [(b2, .cells [I n4, I n5, I n6, I n7, .mref b8, I n10]), (b8, .mp (l9.map (fun e => (AV.str e.1, Note.av e.2))))]⟩) ?_ ?_
    · refine tR <| rM rfl rfl <| ARun.qv (q_neq rfl rfl) rfl <| rM rfl rfl <| ARun.guard_df rfl rfl rfl (fun hc => ?_) (fun hc => ?_)
      · exact have h := iteF hc h; rM rfl rfl <| rY rfl rfl rfl <| ARun.qv (q_ppeql rfl rfl) rfl <| rE rfl rfl rfl <| rM rfl rfl <| rY rfl rfl rfl <| rM rfl rfl <| rY rfl rfl rfl <| ARun.qv (n_build rfl rfl rfl rfl rfl) rfl <| rY rfl rfl rfl <| bndE h fun v12 e2 h => t_call1 rfl (command_Office_Put_c e2) (CoL.refl _) (.cons .p0 (.cons .p0 .nil)) (fun _ => rfl) rfl fun b13 => rY rfl rfl rfl <| ARun.qv (q_neq rfl rfl) rfl <| rE rfl rfl rfl <| rN <| ATodo.stop <| ImpX.lq [0, 0] ⟨b13, v12.2.post_.Room, v12.2.post_.Timeout, v12.2.post_.Tries, v12.2.post_.Kept, v12.2.notes_, v12.2.time_, decide (v12.1 ≠ (0 : Int)), h, rfl⟩ rfl rfl
      · exact have h := iteT hc h; rG rfl rfl rfl rfl <| rT rfl rfl rfl <| rM rfl rfl <| rG rfl rfl rfl rfl <| rG rfl rfl rfl rfl <| rG rfl rfl rfl rfl <| rG rfl rfl rfl rfl <| rT rfl rfl rfl <| rN <| ATodo.stop <| ImpX.lq [0, 0] ⟨b3, x1.post_.Room, x1.post_.Timeout, x1.post_.Tries, x1.post_.Kept, x1.notes_, x1.time_, true, h, rfl⟩ rfl rfl
    · rintro σ' ⟨b8, n4, n5, n6, n7, l9, n10, c11, h, rfl⟩
      unfold L_posted_j2 at h
      refine ATodo.cond rfl (fun hc => ?_) (fun hc => ?_)
      · refine have h := iteT hc h; tSR <| rA rfl rfl <| rN <| ATodo.ret <| ?_
        obtain rfl := Option.some.inj h
        exact ImpX.here ⟨_, .cons (.tmp _ _ rfl) .nil, rfl⟩
      · refine have h := iteFb hc h; tK <| tSR <| rM rfl rfl <| bndE h fun v14 e3 h => t_call1 rfl (command_Office_Waiting_c e3) (CoL.refl _) (.cons .p0 (.cons .p0 .nil)) (fun _ => rfl) rfl fun b15 => rM rfl rfl <| rX rfl rfl rfl <| rX rfl rfl rfl <| rA rfl rfl <| rA rfl rfl <| rN <| tS <| ATodo.cut (fun σ' => ∃ (c16 : Bool), L_posted_j3 c16 = some r ∧ σ' = ⟨32, [(0, .bool c16)], []⟩) ?_ ?_
        · refine tR <| rM rfl rfl <| ARun.qv (q_eql rfl rfl) rfl <| rM rfl rfl <| ARun.guard_dt rfl rfl rfl (fun hc => ?_) (fun hc => ?_)
          · rw [andTd hc] at h
            exact rM rfl rfl <| rY rfl rfl rfl <| ARun.qv (q_eql rfl rfl) rfl <| rT rfl rfl rfl <| rA rfl rfl <| rN <| ATodo.stop <| ImpX.lq [] ⟨decide (v14.1 = (1 : Int)), h, rfl⟩ rfl rfl
          · rw [andFd hc] at h
            exact rG rfl rfl rfl rfl <| rE rfl rfl rfl <| rA rfl rfl <| rN <| ATodo.stop <| ImpX.lq [] ⟨false, h, rfl⟩ rfl rfl
        · rintro σ' ⟨c16, h, rfl⟩
          unfold L_posted_j3 at h
          refine ATodo.ret <| ?_
          obtain rfl := Option.some.inj h
          exact ImpX.here ⟨_, .cons (.tmp _ _ rfl) .nil, rfl⟩

set_option maxHeartbeats 4000000 in
theorem L_LettersChecked_c {p0x0 : List Int} {r : Bool} (h : L_LettersChecked p0x0 = some r) : Pu Tryz.prog 5 [.list 1 (p0x0.map I)] (.bool r) := by
  unfold L_LettersChecked at h
  refine ACall.bodyN Tryz.func5 rfl Tryz.ntmps5 Tryz.results5 rfl rfl ?_
  refine tSR <| rA rfl rfl <| rN <| tSR <| rM rfl rfl <| ARun.qv (n_build rfl rfl rfl rfl rfl) rfl <| n_box rfl rfl rfl rfl fun b1 => rA rfl rfl <| rN <| tSR <| rM rfl rfl <| bndE h fun v2 e1 h => t_call0 rfl (Stream_Letter_c e1) (CoL.refl _) (.cons .p0 .nil) rfl rfl <| rM rfl rfl <| bndE h fun v3 e2 h => t_call0 rfl (Stream_Post_c e2) (CoL.refl _) (.cons .p0 .nil) rfl rfl <| rM rfl rfl <| rM rfl rfl <| bndE h fun v4 e3 h => t_call0 rfl (Stream_Range_c e3) (CoL.refl _) (.cons .p0 .nil) rfl rfl <| bndE h fun v5 e4 h => t_call1 rfl (Stream_Letters_c e4) (CoL.refl _) (.cons .p0 .nil) (fun _ => rfl) rfl fun b6 => n_alloc rfl rfl rfl rfl fun b7 => n_alloc rfl rfl rfl rfl fun b8 => n_store_ptr rfl rfl rfl rfl .p1 rfl rfl <| n_store_ptr rfl rfl rfl rfl .p0 rfl rfl <| rA rfl rfl <| rN <| tSR <| rM rfl rfl <| bndE h fun v9 e5 h => t_callL1 rfl (command_Order_c e5) .nil (.cons (CoB.arrT .p3) .nil) (fun _ => rfl) (fun _ => rfl) (fun _ => (.cons (NoS.arrT (fun _ => rfl)) .nil)) rfl fun b10 => rM rfl rfl <| rX rfl rfl rfl <| rX rfl rfl rfl <| rA rfl rfl <| rA rfl rfl <| rN <| tSR <| rM rfl rfl <| bndE h fun v11 e6 h => r_callpB rfl (Q_LettersFault_c e6) (.cons (CoB.arrT .p4) .nil) rfl rfl <| rA rfl rfl <| rN <| tS <| tS <| ATodo.cut (fun σ' => ∃ (c12 : Bool), L_LettersChecked_j1 v5 v9 v11 c12 = some r ∧ σ' = ⟨69, [(6, .sl 6 b6 0 v5.1.length), (7, .sl 6 b10 0 v9.1.length), (9, I v11), (45, .bool c12)], [(b6, .arr 6 (v5.1.map Letter.av)), (b10, .arr 6 (v9.1.map Letter.av))]⟩) ?_ ?_
  · refine ATodo.regionM (id := 5) (A := [0, 1, 0, 7, 15, 31, 63, 127, 63, 511, 1023, 2047, 4095, 8191, 8191, 32767, 65535]) 17 mixed rfl (by kernel_rfl) (by kernel_rfl) <| AM.qv (q_load_ptr_all rfl rfl .p2 rfl) rfl <| bndE h fun v13 e7 h => AM.callp rfl (command_CheckLetter_c e7) (CoL.refl _) rfl <| AM.qv (q_load_ptr_all rfl rfl .p2 rfl) rfl <| bndE h fun v14 e8 h => AM.callp rfl (Q_LetterFault_c e8) (CoL.refl _) rfl <| AM.qv (q_neq rfl rfl) rfl <| AM.qv (q_move rfl) rfl <| AM.guard_df rfl rfl rfl (fun hc => ?_) (fun hc => ?_)
    · rw [orFd hc] at h
      refine AM.qv (q_load_ptr_all rfl rfl .p1 rfl) rfl <| AM.guard_yes rfl rfl rfl <| AM.callp rfl (command_CheckPost_c rfl) (CoL.refl _) rfl <| AM.guard_yes rfl rfl rfl <| AM.qv (q_load_ptr_all rfl rfl .p1 rfl) rfl <| AM.guard_yes rfl rfl rfl <| AM.callp rfl (Q_PostFault_c rfl) (CoL.refl _) rfl <| AM.guard_yes rfl rfl rfl <| AM.qv (q_neq rfl rfl) rfl <| AM.qv (q_pick_f rfl rfl) rfl <| AM.qv (q_move rfl) rfl <| AM.guard_df rfl rfl rfl (fun hc => ?_) (fun hc => ?_)
      · rw [orFd hc] at h
        exact AM.qv (q_move rfl) rfl <| AM.guard_yes rfl rfl rfl <| AM.qv (q_move rfl) rfl <| AM.guard_yes rfl rfl rfl <| AM.qv (q_neq rfl rfl) rfl <| AM.qv (q_pick_f rfl rfl) rfl <| AM.nil <| rN <| ATodo.stop <| ImpX.lq [4, 0] ⟨decide (v9.2 ≠ v11), h, rfl⟩ rfl rfl
      · rw [orTd hc] at h
        exact AM.guard_no rfl rfl rfl rfl <| AM.guard_no rfl rfl rfl rfl <| AM.qv (q_pick_t rfl rfl) rfl <| AM.nil <| rN <| ATodo.stop <| ImpX.lq [4, 0] ⟨true, h, rfl⟩ rfl rfl
    · rw [orTd hc] at h
      exact AM.guard_no rfl rfl rfl rfl <| AM.guard_no rfl rfl rfl rfl <| AM.guard_no rfl rfl rfl rfl <| AM.guard_no rfl rfl rfl rfl <| AM.qv (q_pick_t rfl rfl) rfl <| AM.qv (q_move rfl) rfl <| AM.guard_no rfl rfl rfl rfl <| AM.guard_no rfl rfl rfl rfl <| AM.guard_no rfl rfl rfl rfl <| AM.qv (q_pick_t rfl rfl) rfl <| AM.nil <| rN <| ATodo.stop <| ImpX.lq [4, 0] ⟨true, h, rfl⟩ rfl rfl
  · rintro σ' ⟨c12, h, rfl⟩
    unfold L_LettersChecked_j1 at h
    refine ATodo.cond rfl (fun hc => ?_) (fun hc => ?_)
    · refine have h := iteT hc h; tSR <| rA rfl rfl <| rN <| ATodo.ret <| ?_
      obtain rfl := Option.some.inj h
      exact ImpX.here ⟨_, .cons (.tmp _ _ rfl) .nil, rfl⟩
    · refine have h := iteFb hc h; tK <| tSR <| rM rfl rfl <| bndE h fun v15 e9 h => t_callL1 rfl (slices_Clone_Letter_Letter_c e9) .nil (.cons (CoB.arrT .p0) .nil) (fun _ => rfl) (fun _ => rfl) (fun _ => (.cons (NoS.arrT (fun _ => rfl)) .nil)) rfl fun b16 => rA rfl rfl <| rN <| tSR <| rM rfl rfl <| bndE h fun v17 e10 h => t_call0 rfl (slices_SortFunc_Letter_Letter_c (fun e => Q_LetterOrder_c (GI := strongT) (Option.some.inj e)) (lenOk_f e10)) (CoL.refl _) (.cons .p0 .nil) rfl rfl <| ARun.ghost <| ImpX.eqs (s := 10) (av' := .sl 6 b16 0 v17.length) rfl (congrArg (AV.sl 6 b16 0) (lenOk_l e10)) <| ImpX.here <| ARun.ghost <| ImpX.eqs (s := 47) (av' := .sl 6 b16 0 v17.length) rfl (congrArg (AV.sl 6 b16 0) (lenOk_l e10)) <| ImpX.here <| ARun.ghost <| ImpX.eqs (s := 48) (av' := .sl 6 b16 0 v17.length) rfl (congrArg (AV.sl 6 b16 0) (lenOk_l e10)) <| ImpX.here <| rN <| tS <| ATodo.cut (fun σ' => ∃ (c18 : Bool), L_LettersChecked_j2 c18 = some r ∧ σ' = ⟨69, [(2, .bool c18)], []⟩) ?_ ?_
      · refine tR <| rM rfl rfl <| ARun.qv (q_eql rfl rfl) rfl <| rM rfl rfl <| ARun.guard_dt rfl rfl rfl (fun hc => ?_) (fun hc => ?_)
        · refine have h := iteT hc h; rM rfl rfl <| rY rfl rfl rfl <| rM rfl rfl <| rY rfl rfl rfl <| bndE h fun v19 e11 h => r_callpB rfl (slices_Equal_Letter_Letter_c e11) (.cons (CoB.arrT .p2) (.cons (CoB.arrT .p0) .nil)) rfl rfl <| rT rfl rfl rfl <| rM rfl rfl <| ARun.guard rfl rfl rfl (fun hc => ?_) (fun hc => ?_)
          · refine have h := iteFb hc h; rM rfl rfl <| rY rfl rfl rfl <| ARun.qv (q_neq rfl rfl) rfl <| rY rfl rfl rfl <| rM rfl rfl <| ARun.guard_dt rfl rfl rfl (fun hc => ?_) (fun hc => ?_)
            · refine have h := iteT hc h; rM rfl rfl <| rY rfl rfl rfl <| ARun.qv (t_len_sl rfl) rfl <| rY rfl rfl rfl <| ARun.qv (q_eql rfl rfl) rfl <| rY rfl rfl rfl <| rT rfl rfl rfl <| rE rfl rfl rfl <| rM rfl rfl <| ARun.guard_dt rfl rfl rfl (fun hc => ?_) (fun hc => ?_)
              · exact have h := iteT hc h; bndE h fun v20 e12 h => r_callp rfl (L_posted_c e12) (CoL.refl _) rfl <| rT rfl rfl rfl <| rA rfl rfl <| rN <| ATodo.stop <| ImpX.lq [] ⟨v20, h, rfl⟩ rfl rfl
              · exact have h := iteF hc h; rE rfl rfl rfl <| rA rfl rfl <| rN <| ATodo.stop <| ImpX.lq [] ⟨false, h, rfl⟩ rfl rfl
            · exact have h := iteF hc h; rG rfl rfl rfl rfl <| rG rfl rfl rfl rfl <| rY rfl rfl rfl <| rE rfl rfl rfl <| rE rfl rfl rfl <| rM rfl rfl <| rG rfl rfl rfl rfl <| rE rfl rfl rfl <| rA rfl rfl <| rN <| ATodo.stop <| ImpX.lq [] ⟨false, h, rfl⟩ rfl rfl
          · exact have h := iteT hc h; rG rfl rfl rfl rfl <| rG rfl rfl rfl rfl <| ARun.guard_und rfl rfl rfl <| ARun.guard_und rfl rfl rfl <| ARun.guard_und rfl rfl rfl <| rG rfl rfl rfl rfl <| rT rfl rfl rfl <| rM rfl rfl <| rY rfl rfl rfl <| bndE h fun v21 e13 h => r_callp rfl (L_posted_c e13) (CoL.refl _) rfl <| rT rfl rfl rfl <| rA rfl rfl <| rN <| ATodo.stop <| ImpX.lq [] ⟨v21, h, rfl⟩ rfl rfl
        · refine have h := iteF hc h; rG rfl rfl rfl rfl <| rG rfl rfl rfl rfl <| rE rfl rfl rfl <| rM rfl rfl <| rY rfl rfl rfl <| rM rfl rfl <| rY rfl rfl rfl <| ARun.qv (q_neq rfl rfl) rfl <| rY rfl rfl rfl <| rM rfl rfl <| ARun.guard_dt rfl rfl rfl (fun hc => ?_) (fun hc => ?_)
          · refine have h := iteT hc h; rM rfl rfl <| rY rfl rfl rfl <| ARun.qv (t_len_sl rfl) rfl <| rY rfl rfl rfl <| ARun.qv (q_eql rfl rfl) rfl <| rY rfl rfl rfl <| rT rfl rfl rfl <| rE rfl rfl rfl <| rM rfl rfl <| ARun.guard_dt rfl rfl rfl (fun hc => ?_) (fun hc => ?_)
            · exact have h := iteT hc h; bndE h fun v22 e14 h => r_callp rfl (L_posted_c e14) (CoL.refl _) rfl <| rT rfl rfl rfl <| rA rfl rfl <| rN <| ATodo.stop <| ImpX.lq [] ⟨v22, h, rfl⟩ rfl rfl
            · exact have h := iteF hc h; rE rfl rfl rfl <| rA rfl rfl <| rN <| ATodo.stop <| ImpX.lq [] ⟨false, h, rfl⟩ rfl rfl
          · exact have h := iteF hc h; rG rfl rfl rfl rfl <| rG rfl rfl rfl rfl <| rY rfl rfl rfl <| rE rfl rfl rfl <| rE rfl rfl rfl <| rM rfl rfl <| rG rfl rfl rfl rfl <| rE rfl rfl rfl <| rA rfl rfl <| rN <| ATodo.stop <| ImpX.lq [] ⟨false, h, rfl⟩ rfl rfl
      · rintro σ' ⟨c18, h, rfl⟩
        unfold L_LettersChecked_j2 at h
        refine ATodo.ret <| ?_
        obtain rfl := Option.some.inj h
        exact ImpX.here ⟨_, .cons (.tmp _ _ rfl) .nil, rfl⟩

end Go.Proofs.YtfhlfjnjcjbomaaGreatDoor
