/- The code computes the plain functions: proofs written by shal.py. -/
import Derived.Test.YtibjdfdmkahocaaGreatDoorOffW1
set_option maxRecDepth 100000
set_option linter.unusedVariables false
set_option linter.unusedSimpArgs false
namespace Go.Proofs.YtibjdfdmkahocaaGreatDoor
open Go Go.Eng Go.Proofs Go.Beacon
attribute [local irreducible] ARun ATodo AQ QV ACall ImpX AWp AM
set_option maxHeartbeats 4000000 in
theorem slices_Equal_Letter_Letter_c [GI : GTab] {p0x0 : List Letter} {p1x0 : List Letter} {r : Bool} (h : slices_Equal_Letter_Letter p0x0 p1x0 = some r) : Pu Tryz.prog 50 [.list 6 (p0x0.map Letter.av), .list 6 (p1x0.map Letter.av)] (.bool r) := by
  unfold slices_Equal_Letter_Letter at h
  refine ACall.bodyN Tryz.func50 rfl Tryz.ntmps50 Tryz.results50 rfl rfl ?_
  refine tSR <| rA rfl rfl <| rN <| tS <| tSR <| rM rfl rfl <| ARun.qv (t_len rfl) rfl <| rM rfl rfl <| ARun.qv (t_len rfl) rfl <| ARun.qv (q_neq rfl rfl) rfl <| rN <| ATodo.cond_d rfl (fun hc => ?_) (fun hc => ?_)
  · refine have h := iteT hc h; tSR <| rA rfl rfl <| rN <| ATodo.ret <| ?_
    obtain rfl := Option.some.inj h
    exact ImpX.here ⟨_, .cons (.tmp _ _ rfl) .nil, rfl⟩
  · refine have h := iteF hc h; tK <| tS <| tSR <| rM rfl rfl <| ARun.qv (t_len rfl) rfl <| rM rfl rfl <| rN <| ATodo.block <| ATodo.loopI (fun x : Int => slices_Equal_Letter_Letter_b1 p0x0 p1x0 x) (fun x σ' => σ' = ⟨26, [(0, .list 6 (p0x0.map Letter.av)), (1, .list 6 (p1x0.map Letter.av)), (12, I (p0x0.length : Int)), (13, I x)], []⟩) h ?_ ?_
    · exact ImpX.lq [] rfl rfl rfl
    · intro n2 z1 σ' J1 hmk h hJ1 hA1
      obtain rfl := hmk
      replace h : slices_Equal_Letter_Letter_b1 p0x0 p1x0 n2 = some z1 := h
      unfold slices_Equal_Letter_Letter_b1 at h
      refine tSR <| ARun.qv (q_lss rfl rfl) rfl <| rN <| tS <| ATodo.cond_d rfl (fun hc => ?_) (fun hc => ?_)
      · refine have h := iteT hc h; tK <| tS <| ATodo.block <| tSR <| rM rfl rfl <| rA rfl rfl <| rN <| tS <| ATodo.regionM (id := 6) (A := [0, 0, 3, 7, 0, 0, 48, 112, 255]) 9 mixed rfl (by kernel_rfl) (by kernel_rfl) <| AM.qv (q_move rfl) rfl <| AM.qv (q_move rfl) rfl <| bndE h fun v3 e1 h => AM.qv (t_index rfl rfl rfl e1 rfl rfl) rfl <| AM.qv (q_load_rptr_agg rfl rfl rfl) rfl <| AM.qv (q_move rfl) rfl <| AM.qv (q_move rfl) rfl <| bndE h fun v4 e2 h => AM.qv (t_index rfl rfl rfl e2 rfl rfl) rfl <| AM.qv (q_load_rptr_agg rfl rfl rfl) rfl <| AM.qv (t_tne (g := Letter.av) (X := v3) (Y := v4) rfl rfl rfl rfl rfl) rfl <| AM.nil <| rN <| ATodo.cond_d rfl (fun hc => ?_) (fun hc => ?_)
        · refine have h := iteT hc h; tSR <| rA rfl rfl <| rN <| ATodo.ret <| have h := outL h hA1; ?_
          obtain rfl := Option.some.inj h
          exact ImpX.here ⟨_, .cons (.tmp _ _ rfl) .nil, rfl⟩
        · refine have h := iteF hc h; tK <| ATodo.blk <| tR <| ARun.qv (q_addw rfl rfl) rfl <| rM rfl rfl <| rN <| ATodo.stop <| ?_
          obtain rfl := Option.some.inj h
          exact hJ1 _ _ rfl <| ImpX.lq [] rfl rfl rfl
      · refine have h := iteF hc h; ATodo.exit rfl <| have h := outL h hA1; tSR <| rA rfl rfl <| rN <| ATodo.ret <| ?_
        obtain rfl := Option.some.inj h
        exact ImpX.here ⟨_, .cons (.tmp _ _ rfl) .nil, rfl⟩

set_option maxHeartbeats 4000000 in
theorem command_Office_Answer_c [GI : GTab] {b_0 : Bk} {b_0x4 : Bk} {p0x0 : Command_Office} {p1x0 : Str} {p2x0 : Int} {p3x0 : Bool} {r : Int × Command_Office} (h : command_Office_Answer p0x0 p1x0 p2x0 p3x0 = some r) : ACall Tryz.prog 51 [.ptr b_0 0, .str p1x0, I p2x0, .bool p3x0] [(b_0, .cells [I p0x0.post_.Room, I p0x0.post_.Timeout, I p0x0.post_.Tries, I p0x0.post_.Kept, .mref b_0x4, I p0x0.time_]), (b_0x4, .mp (p0x0.notes_.map (fun e => (AV.str e.1, Note.av e.2))))] (T1 (fun c_0x4 => [(b_0, .cells [I r.2.post_.Room, I r.2.post_.Timeout, I r.2.post_.Tries, I r.2.post_.Kept, .mref c_0x4, I r.2.time_]), (c_0x4, .mp (r.2.notes_.map (fun e => (AV.str e.1, Note.av e.2))))]) (fun c_0x4 => I r.1)) := by
  unfold command_Office_Answer at h
  refine ACall.lessH ?_
  refine ACall.bodyN Tryz.func51 rfl Tryz.ntmps51 Tryz.results51 rfl rfl ?_
  refine tSR <| rA rfl rfl <| rN <| tS <| tSR <| rM rfl rfl <| rM rfl rfl <| t_call0 rfl (command_Office_timeFault_c rfl) (CoL.refl _) (.cons .p0 .nil) rfl rfl <| rA rfl rfl <| rN <| tSR <| rM rfl rfl <| ARun.qv (q_neq rfl rfl) rfl <| rN <| ATodo.cond_d rfl (fun hc => ?_) (fun hc => ?_)
  · refine have h := iteT hc h; tSR <| rM rfl rfl <| rA rfl rfl <| rN <| ATodo.ret <| ?_
    obtain rfl := Option.some.inj h
    exact ImpX.here ⟨_, .cons (.tmp _ _ rfl) .nil, _, .cons .p0 (.cons .p0 .nil), ⟨b_0x4, rfl, rfl⟩⟩
  · refine have h := iteF hc h; tK <| tSR <| rM rfl rfl <| rM rfl rfl <| bndE h fun v1 e1 h => t_call1 rfl (command_Office_aged_c e1) (CoL.refl _) (.cons .p0 (.cons .p0 .nil)) (fun _ => rfl) rfl fun b2 => rA rfl rfl <| rN <| tSR <| rM rfl rfl <| rM rfl rfl <| bndE h fun v3 e2 h => ARun.qv (t_lookup2 (gk := AV.str) (gv := Note.av) (M := v1) (key := p1x0) (Z := (⟨(⟨[], [], [], (0 : Int), (0 : Int), (0 : Int)⟩ : Letter), (0 : Int), (0 : Int), (0 : Int)⟩ : Note)) rfl rfl .p2 rfl rfl rfl e2 rfl) rfl <| rM rfl rfl <| rX rfl rfl rfl <| rX rfl rfl rfl <| n_alloc rfl rfl rfl rfl fun b4 => n_store_ptr rfl rfl rfl rfl .p0 rfl rfl <| rA rfl rfl <| rN <| tS <| ATodo.block <| tSR <| rM rfl rfl <| ARun.qv (q_not rfl) rfl <| rA rfl rfl <| rN <| ATodo.cond rfl (fun hc => ?_) (fun hc => ?_)
    · refine have h := iteT hc h; tSR <| rA rfl rfl <| rN <| ATodo.ret <| ?_
      obtain rfl := Option.some.inj h
      exact ImpX.here ⟨_, .cons (.tmp _ _ rfl) .nil, _, .cons .p1 (.cons .p1 .nil), ⟨b_0x4, rfl, rfl⟩⟩
    · refine have h := iteFb hc h; tS <| ATodo.cut (fun σ' => ∃ (c5 : Bool), command_Office_Answer_j1 p0x0 p1x0 p2x0 p3x0 v1 v3 c5 = some r ∧ σ' = ⟨52, [(0, .ptr b_0 0), (1, .str p1x0), (2, I p2x0), (3, .bool p3x0), (10, .mref b2), (11, .ptr b4 0), (31, .bool c5)], [(b_0, .cells [I p0x0.post_.Room, I p0x0.post_.Timeout, I p0x0.post_.Tries, I p0x0.post_.Kept, .mref b_0x4, I p0x0.time_]), (b_0x4, .mp (p0x0.notes_.map (fun e => (AV.str e.1, Note.av e.2)))), (b2, .mp (v1.map (fun e => (AV.str e.1, Note.av e.2)))), (b4, .cells [.str v3.1.Letter.Id, .str v3.1.Letter.Slot, .str v3.1.Letter.Body, I v3.1.Letter.Prio, I v3.1.Letter.At, I v3.1.Letter.Until, I v3.1.State, I v3.1.Tries, I v3.1.Since])]⟩) ?_ ?_
      · refine tR <| rF rfl rfl rfl <| rL rfl rfl .p0 rfl rfl <| ARun.qv (q_eql rfl rfl) rfl <| rM rfl rfl <| ARun.guard_df rfl rfl rfl (fun hc => ?_) (fun hc => ?_)
        · rw [orFd hc] at h
          exact rF rfl rfl rfl <| rY rfl rfl rfl <| rL rfl rfl .p0 rfl rfl <| rY rfl rfl rfl <| r_callp rfl (command_ended_c rfl) (CoL.refl _) rfl <| rE rfl rfl rfl <| rA rfl rfl <| rN <| ATodo.stop <| ImpX.lq [1, 1, 1, 0] ⟨(command_ended v3.1.State), h, rfl⟩ rfl rfl
        · rw [orTd hc] at h
          exact rG rfl rfl rfl rfl <| rG rfl rfl rfl rfl <| rT rfl rfl rfl <| rA rfl rfl <| rN <| ATodo.stop <| ImpX.lq [1, 1, 1, 0] ⟨true, h, rfl⟩ rfl rfl
      · rintro σ' ⟨c5, h, rfl⟩
        unfold command_Office_Answer_j1 at h
        refine ATodo.cond rfl (fun hc => ?_) (fun hc => ?_)
        · refine have h := iteT hc h; tSR <| rA rfl rfl <| rN <| ATodo.ret <| ?_
          obtain rfl := Option.some.inj h
          exact ImpX.here ⟨_, .cons (.tmp _ _ rfl) .nil, _, .cons .p0 (.cons .p0 .nil), ⟨b_0x4, rfl, rfl⟩⟩
        · refine have h := iteFb hc h; tK <| ATodo.blk <| tSR <| rM rfl rfl <| rF rfl rfl rfl <| n_store_ptr rfl rfl rfl rfl .p3 rfl rfl <| rF rfl rfl rfl <| n_store_ptr rfl rfl rfl rfl .p3 rfl rfl <| rN <| tS <| tSR <| rM rfl rfl <| rN <| ATodo.cut (fun σ' => ∃ (n6 : Int), command_Office_Answer_j2 p0x0 p1x0 p2x0 v1 v3 n6 = some r ∧ σ' = ⟨52, [(0, .ptr b_0 0), (1, .str p1x0), (2, I p2x0), (10, .mref b2), (11, .ptr b4 0)], [(b_0, .cells [I p0x0.post_.Room, I p0x0.post_.Timeout, I p0x0.post_.Tries, I p0x0.post_.Kept, .mref b_0x4, I p0x0.time_]), (b_0x4, .mp (p0x0.notes_.map (fun e => (AV.str e.1, Note.av e.2)))), (b2, .mp (v1.map (fun e => (AV.str e.1, Note.av e.2)))), (b4, .cells [.str v3.1.Letter.Id, .str v3.1.Letter.Slot, .str v3.1.Letter.Body, I v3.1.Letter.Prio, I v3.1.Letter.At, I v3.1.Letter.Until, I n6, I v3.1.Tries, I p2x0])]⟩) ?_ ?_
          · refine ATodo.cond rfl (fun hc => ?_) (fun hc => ?_)
            · exact have h := iteT hc h; tR <| rF rfl rfl rfl <| n_store_ptr rfl rfl rfl rfl .p3 rfl rfl <| rN <| ATodo.stop <| ImpX.lq [0, 0, 0, 0] ⟨(3 : Int), h, rfl⟩ rfl rfl
            · exact have h := iteFb hc h; tK <| ATodo.stop <| ImpX.lq [0, 0, 0, 0] ⟨(4 : Int), h, rfl⟩ rfl rfl
          · rintro σ' ⟨n6, h, rfl⟩
            unfold command_Office_Answer_j2 at h
            refine tSR <| rM rfl rfl <| rM rfl rfl <| ARun.qv (q_load_ptr_all rfl rfl .p3 rfl) rfl <| t_mapUpdate (gk := AV.str) (gv := Note.av) (M := v1) (key := p1x0) (v := (⟨v3.1.Letter, n6, v3.1.Tries, p2x0⟩ : Note)) rfl rfl rfl rfl .p2 <| rN <| tSR <| rM rfl rfl <| rM rfl rfl <| rM rfl rfl <| t_call1 rfl (command_Office_keep_c (rfl : command_Office_keep p0x0 (mset v1 p1x0 (⟨v3.1.Letter, n6, v3.1.Tries, p2x0⟩ : Note)) p2x0 = _)) (CoL.refl _) (.cons .p0 (.cons .p0 (.cons .p0 .nil))) (fun _ => rfl) rfl fun b7 => rN <| tSR <| rA rfl rfl <| rN <| ATodo.ret <| ?_
            obtain rfl := Option.some.inj h
            exact ImpX.here ⟨_, .cons (.tmp _ _ rfl) .nil, _, .cons .p0 (.cons .p0 .nil), ⟨b7, rfl, rfl⟩⟩

set_option maxHeartbeats 4000000 in
theorem Q_Desk_Answer_c [GI : GTab] {b_0 : Bk} {b_0x4 : Bk} {p0x0 : Fleetref2_Desk} {p1x0 : Str} {p2x0 : Int} {p3x0 : Bool} {r : Int × Fleetref2_Desk} (h : Q_Desk_Answer p0x0 p1x0 p2x0 p3x0 = some r) : ACall Tryz.prog 52 [.ptr b_0 0, .str p1x0, I p2x0, .bool p3x0] [(b_0, .cells [I p0x0.P.Room, I p0x0.P.Timeout, I p0x0.P.Tries, I p0x0.P.Kept, .sl 9 b_0x4 0 p0x0.L.length, I p0x0.time_]), (b_0x4, .arr 9 (p0x0.L.map Note.av))] (T1 (fun c_0x4 => [(b_0, .cells [I r.2.P.Room, I r.2.P.Timeout, I r.2.P.Tries, I r.2.P.Kept, .sl 9 c_0x4 0 r.2.L.length, I r.2.time_]), (c_0x4, .arr 9 (r.2.L.map Note.av))]) (fun c_0x4 => I r.1)) := by
  unfold Q_Desk_Answer at h
  refine ACall.lessH ?_
  refine ACall.bodyN Tryz.func52 rfl Tryz.ntmps52 Tryz.results52 rfl rfl ?_
  refine tSR <| rA rfl rfl <| rN <| tSR <| rM rfl rfl <| rM rfl rfl <| bndE h fun v1 e1 h => optE h (fun e2 h => ?_) (fun x2 e2 h => ?_)
  · refine have cM11 := TM_none e2 (Q_Desk_turn_c0x4x_c e1); t_call0 rfl cM11 (CoL.refl _) (.cons .p0 (.cons .p0 .nil)) rfl rfl <| rM rfl rfl <| rX rfl rfl rfl <| rX rfl rfl rfl <| rA rfl rfl <| rA rfl rfl <| rN <| tS <| tSR <| rM rfl rfl <| ARun.qv (q_neq rfl rfl) rfl <| rN <| ATodo.cond_d rfl (fun hc => ?_) (fun hc => ?_)
    · refine have h := iteT hc h; tSR <| rM rfl rfl <| rA rfl rfl <| rN <| ATodo.ret <| ?_
      obtain rfl := Option.some.inj h
      exact ImpX.here ⟨_, .cons (.tmp _ _ rfl) .nil, _, .cons .p0 (.cons .p0 .nil), ⟨b_0x4, rfl, rfl⟩⟩
    · refine have h := iteF hc h; tK <| tSR <| rM rfl rfl <| rM rfl rfl <| ?_
      cases h
  · refine have cM12 := TM_some e2 (Q_Desk_turn_c0x4x_c e1); t_call2 rfl cM12 (CoL.refl _) (.cons .p0 (.cons .p0 .nil)) (fun _ _ => rfl) rfl fun b3 b4 => rM rfl rfl <| rX rfl rfl rfl <| rX rfl rfl rfl <| rA rfl rfl <| rA rfl rfl <| rN <| tS <| tSR <| rM rfl rfl <| ARun.qv (q_neq rfl rfl) rfl <| rN <| ATodo.cond_d rfl (fun hc => ?_) (fun hc => ?_)
    · refine have h := iteT hc h; tSR <| rM rfl rfl <| rA rfl rfl <| rN <| ATodo.ret <| ?_
      obtain rfl := Option.some.inj h
      exact ImpX.here ⟨_, .cons (.tmp _ _ rfl) .nil, _, .cons .p0 (.cons .p0 .nil), ⟨b_0x4, rfl, rfl⟩⟩
    · refine have h := iteF hc h; tK <| tSR <| rM rfl rfl <| rM rfl rfl <| bndE h fun v5 e3 h => r_callpB rfl (Q_Desk_at_c e3) (.cons (.boxL _ _ _ .p2 (.cons (.co (.refl _)) (.cons (.co (.refl _)) (.cons (.co (.refl _)) (.cons (.co (.refl _)) (.cons (CoB.arrT .p3) (.cons (.co (.refl _)) .nil))))))) (.cons (.co (.refl _)) .nil)) rfl rfl <| rA rfl rfl <| rN <| tS <| ATodo.block <| tSR <| rM rfl rfl <| ARun.qv (q_lss rfl rfl) rfl <| rA rfl rfl <| rN <| ATodo.cond_d rfl (fun hc => ?_) (fun hc => ?_)
      · refine have h := iteT hc h; tSR <| rA rfl rfl <| rN <| ATodo.ret <| ?_
        obtain rfl := Option.some.inj h
        exact ImpX.here ⟨_, .cons (.tmp _ _ rfl) .nil, _, .cons .p0 (.cons .p0 .nil), ⟨b_0x4, rfl, rfl⟩⟩
      · refine have h := iteF hc h; tS <| ATodo.cut (fun σ' => ∃ (c6 : Bool), Q_Desk_Answer_j1 p0x0 p2x0 p3x0 x2 v5 c6 = some r ∧ σ' = ⟨78, [(0, .ptr b_0 0), (2, I p2x0), (3, .bool p3x0), (9, .ptr b3 0), (11, I v5), (27, .bool c6)], [(b_0, .cells [I p0x0.P.Room, I p0x0.P.Timeout, I p0x0.P.Tries, I p0x0.P.Kept, .sl 9 b_0x4 0 p0x0.L.length, I p0x0.time_]), (b_0x4, .arr 9 (p0x0.L.map Note.av)), (b3, .cells [I x2.P.Room, I x2.P.Timeout, I x2.P.Tries, I x2.P.Kept, .sl 9 b4 0 x2.L.length, I x2.time_]), (b4, .arr 9 (x2.L.map Note.av))]⟩) ?_ ?_
        · refine tR <| rM rfl rfl <| ARun.qv (q_nilCheck_ptr rfl) rfl <| rF rfl rfl rfl <| rL rfl rfl .p2 rfl rfl <| rM rfl rfl <| bndE h fun v7 e4 h => ARun.qv (t_index_sl rfl rfl rfl e4) rfl <| ARun.qv (t_load_aptr_agg (g := Note.av) rfl rfl (.inl .p3) rfl e4 rfl) rfl <| r_callp rfl (Q_open_c rfl) (CoL.refl _) rfl <| ARun.qv (q_not rfl) rfl <| rM rfl rfl <| ARun.guard rfl rfl rfl (fun hc => ?_) (fun hc => ?_)
          · exact have h := iteFb hc h; rM rfl rfl <| rY rfl rfl rfl <| ARun.qv (q_nilCheck_ptr rfl) rfl <| rY rfl rfl rfl <| rF rfl rfl rfl <| rY rfl rfl rfl <| rL rfl rfl .p2 rfl rfl <| rY rfl rfl rfl <| rM rfl rfl <| rY rfl rfl rfl <| bndE h fun v8 e5 h => ARun.qv (t_index_sl rfl rfl rfl e5) rfl <| rY rfl rfl rfl <| ARun.qv (t_field_aptr rfl rfl) rfl <| rY rfl rfl rfl <| ARun.qv (t_load_aptr (g := Note.av) rfl rfl (.inl .p3) e5 rfl) rfl <| rY rfl rfl rfl <| ARun.qv (q_eql rfl rfl) rfl <| rE rfl rfl rfl <| rA rfl rfl <| rN <| ATodo.stop <| ImpX.lq [0, 0, 0, 0] ⟨decide (v8.Tries = (0 : Int)), h, rfl⟩ rfl rfl
          · exact have h := iteT hc h; rG rfl rfl rfl rfl <| rG rfl rfl rfl rfl <| rG rfl rfl rfl rfl <| rG rfl rfl rfl rfl <| rG rfl rfl rfl rfl <| rG rfl rfl rfl rfl <| rG rfl rfl rfl rfl <| rG rfl rfl rfl rfl <| rT rfl rfl rfl <| rA rfl rfl <| rN <| ATodo.stop <| ImpX.lq [0, 0, 0, 0] ⟨true, h, rfl⟩ rfl rfl
        · rintro σ' ⟨c6, h, rfl⟩
          unfold Q_Desk_Answer_j1 at h
          refine ATodo.cond rfl (fun hc => ?_) (fun hc => ?_)
          · refine have h := iteT hc h; tSR <| rA rfl rfl <| rN <| ATodo.ret <| ?_
            obtain rfl := Option.some.inj h
            exact ImpX.here ⟨_, .cons (.tmp _ _ rfl) .nil, _, .cons .p0 (.cons .p0 .nil), ⟨b_0x4, rfl, rfl⟩⟩
          · refine have h := iteFb hc h; tK <| ATodo.blk <| tS <| bndE h fun v9 e6 h => ATodo.regionT (id := 9) (A := [0, 1, 3, 7, 0, 0, 32, 96, 224, 0, 0, 511, 2559, 6655, 16383, 32767, 65535]) (H0 := [(b4, .arr 9 (x2.L.map Note.av))]) (HH := fun β => [(b4, .arr 9 ((x2.L.set v5.toNat (⟨v9.Letter, (4 : Int), v9.Tries, v9.Since⟩ : Note)).map Note.av)), (b_0, .cells [I p0x0.P.Room, I p0x0.P.Timeout, I p0x0.P.Tries, I p0x0.P.Kept, .sl 9 b_0x4 0 p0x0.L.length, I p0x0.time_]), (b_0x4, .arr 9 (p0x0.L.map Note.av)), (b3, .cells [I x2.P.Room, I x2.P.Timeout, I x2.P.Tries, I x2.P.Kept, .sl 9 b4 0 x2.L.length, I x2.time_])]) 14 mixed rfl (by kernel_rfl) (by kernel_rfl) [⟨none, some 13, [], fun _ => (b4, .arr 9 (x2.L.map Note.av)), none⟩, ⟨some 13, none, [], fun _ => (b4, .arr 9 ((x2.L.set v5.toNat (⟨v9.Letter, (4 : Int), v9.Tries, v9.Since⟩ : Note)).map Note.av)), none⟩] [] rfl (by kernel_rfl) rfl (.cons .p3 .nil) (fun _ => rfl) <| AT.am 13 rfl rfl <| AM.qv (q_move rfl) rfl <| AM.qv (q_nilCheck_ptr rfl) rfl <| AM.qv (n_field_ptr rfl rfl) rfl <| AM.qv (q_load_ptr rfl rfl .p2 rfl) rfl <| AM.qv (q_move rfl) rfl <| AM.qv (q_move rfl) rfl <| AM.qv (q_nilCheck_ptr rfl) rfl <| AM.qv (n_field_ptr rfl rfl) rfl <| AM.qv (q_load_ptr rfl rfl .p2 rfl) rfl <| AM.qv (q_move rfl) rfl <| AM.qv (q_move rfl) rfl <| AM.qv (t_index_sl rfl rfl rfl e6) rfl <| AM.qv (t_field_aptr rfl rfl) rfl <| AM.nil <| AT.run0 (Ti := [(b4, .arr 9 (x2.L.map Note.av))]) (Pi := [(b4, .arr 9 ((x2.L.set v5.toNat (⟨v9.Letter, (4 : Int), v9.Tries, v9.Since⟩ : Note)).map Note.av))]) (fun _ => rfl) (fun _ => rfl) (fun _ => rfl) rfl rfl ?_ ?_
            · exact t_store_aptr1 (g := Note.av) (el' := (⟨v9.Letter, (4 : Int), v9.Tries, v9.Since⟩ : Note)) rfl rfl rfl rfl e6 rfl .p0 rfl <| ARun.nil ⟨_, rfl⟩
            refine AT.nilN (fun _ => rfl) fun β => ARun.ghost <| ImpX.eqs (s := 51) (av' := .sl 9 b4 0 (x2.L.set v5.toNat (⟨v9.Letter, (4 : Int), v9.Tries, v9.Since⟩ : Note)).length) rfl (by simp) <| ImpX.here <| ARun.ghost <| ImpX.eqs (s := 56) (av' := .sl 9 b4 0 (x2.L.set v5.toNat (⟨v9.Letter, (4 : Int), v9.Tries, v9.Since⟩ : Note)).length) rfl (by simp) <| ImpX.here <| ARun.ghost <| ImpX.eqBox (j := 4) (av' := .sl 9 b4 0 (x2.L.set v5.toNat (⟨v9.Letter, (4 : Int), v9.Tries, v9.Since⟩ : Note)).length) .p3 rfl (by simp) rfl <| ImpX.here <| bndE h fun v10 e7 h => ARun.qv (t_index_sl rfl rfl rfl e7) rfl <| ARun.qv (t_field_aptr rfl rfl) rfl <| t_store_aptr1 (g := Note.av) (el' := (⟨v10.Letter, v10.State, v10.Tries, p2x0⟩ : Note)) rfl rfl rfl rfl e7 rfl .p0 rfl <| ARun.ghost <| ImpX.eqs (s := 51) (av' := .sl 9 b4 0 ((x2.L.set v5.toNat (⟨v9.Letter, (4 : Int), v9.Tries, v9.Since⟩ : Note)).set v5.toNat (⟨v10.Letter, v10.State, v10.Tries, p2x0⟩ : Note)).length) rfl (by rw [List.length_set]) <| ImpX.here <| ARun.ghost <| ImpX.eqs (s := 56) (av' := .sl 9 b4 0 ((x2.L.set v5.toNat (⟨v9.Letter, (4 : Int), v9.Tries, v9.Since⟩ : Note)).set v5.toNat (⟨v10.Letter, v10.State, v10.Tries, p2x0⟩ : Note)).length) rfl (by rw [List.length_set]) <| ImpX.here <| ARun.ghost <| ImpX.eqBox (j := 4) (av' := .sl 9 b4 0 ((x2.L.set v5.toNat (⟨v9.Letter, (4 : Int), v9.Tries, v9.Since⟩ : Note)).set v5.toNat (⟨v10.Letter, v10.State, v10.Tries, p2x0⟩ : Note)).length) .p3 rfl (by rw [List.length_set]) rfl <| ImpX.here <| rN <| tS <| tSR <| rM rfl rfl <| rN <| ATodo.cut (fun σ' => ∃ (l11 : List Note), Q_Desk_Answer_j2 x2 l11 = some r ∧ σ' = ⟨78, [(0, .ptr b_0 0), (9, .ptr b3 0)], [(b_0, .cells [I p0x0.P.Room, I p0x0.P.Timeout, I p0x0.P.Tries, I p0x0.P.Kept, .sl 9 b_0x4 0 p0x0.L.length, I p0x0.time_]), (b_0x4, .arr 9 (p0x0.L.map Note.av)), (b3, .cells [I x2.P.Room, I x2.P.Timeout, I x2.P.Tries, I x2.P.Kept, .sl 9 b4 0 l11.length, I x2.time_]), (b4, .arr 9 (l11.map Note.av))]⟩) ?_ ?_
            · refine ATodo.cond rfl (fun hc => ?_) (fun hc => ?_)
              · exact have h := iteT hc h; tR <| rM rfl rfl <| ARun.qv (q_nilCheck_ptr rfl) rfl <| rF rfl rfl rfl <| rL rfl rfl .p3 rfl rfl <| rM rfl rfl <| bndE h fun v12 e8 h => ARun.qv (t_index_sl rfl rfl rfl e8) rfl <| ARun.qv (t_field_aptr rfl rfl) rfl <| t_store_aptr1 (g := Note.av) (el' := (⟨v12.Letter, (3 : Int), v12.Tries, v12.Since⟩ : Note)) rfl rfl rfl rfl e8 rfl .p0 rfl <| ARun.ghost <| ImpX.eqs (s := 51) (av' := .sl 9 b4 0 (((x2.L.set v5.toNat (⟨v9.Letter, (4 : Int), v9.Tries, v9.Since⟩ : Note)).set v5.toNat (⟨v10.Letter, v10.State, v10.Tries, p2x0⟩ : Note)).set v5.toNat (⟨v12.Letter, (3 : Int), v12.Tries, v12.Since⟩ : Note)).length) rfl (by rw [List.length_set]) <| ImpX.here <| ARun.ghost <| ImpX.eqs (s := 56) (av' := .sl 9 b4 0 (((x2.L.set v5.toNat (⟨v9.Letter, (4 : Int), v9.Tries, v9.Since⟩ : Note)).set v5.toNat (⟨v10.Letter, v10.State, v10.Tries, p2x0⟩ : Note)).set v5.toNat (⟨v12.Letter, (3 : Int), v12.Tries, v12.Since⟩ : Note)).length) rfl (by rw [List.length_set]) <| ImpX.here <| ARun.ghost <| ImpX.eqs (s := 67) (av' := .sl 9 b4 0 (((x2.L.set v5.toNat (⟨v9.Letter, (4 : Int), v9.Tries, v9.Since⟩ : Note)).set v5.toNat (⟨v10.Letter, v10.State, v10.Tries, p2x0⟩ : Note)).set v5.toNat (⟨v12.Letter, (3 : Int), v12.Tries, v12.Since⟩ : Note)).length) rfl (by rw [List.length_set]) <| ImpX.here <| ARun.ghost <| ImpX.eqBox (j := 4) (av' := .sl 9 b4 0 (((x2.L.set v5.toNat (⟨v9.Letter, (4 : Int), v9.Tries, v9.Since⟩ : Note)).set v5.toNat (⟨v10.Letter, v10.State, v10.Tries, p2x0⟩ : Note)).set v5.toNat (⟨v12.Letter, (3 : Int), v12.Tries, v12.Since⟩ : Note)).length) .p3 rfl (by rw [List.length_set]) rfl <| ImpX.here <| rN <| ATodo.stop <| ImpX.lq [1, 1, 1, 0] ⟨((x2.L.set v5.toNat (⟨v9.Letter, (4 : Int), v9.Tries, v9.Since⟩ : Note)).set v5.toNat (⟨v10.Letter, v10.State, v10.Tries, p2x0⟩ : Note)).set v5.toNat (⟨v12.Letter, (3 : Int), v12.Tries, v12.Since⟩ : Note), h, rfl⟩ rfl rfl
              · exact have h := iteFb hc h; tK <| ATodo.stop <| ImpX.lq [1, 1, 1, 0] ⟨(x2.L.set v5.toNat (⟨v9.Letter, (4 : Int), v9.Tries, v9.Since⟩ : Note)).set v5.toNat (⟨v10.Letter, v10.State, v10.Tries, p2x0⟩ : Note), h, rfl⟩ rfl rfl
            · rintro σ' ⟨l11, h, rfl⟩
              unfold Q_Desk_Answer_j2 at h
              refine tSR <| rM rfl rfl <| bndE h fun v13 e9 h => t_call1 rfl (Q_Desk_forget_c e9) (CoL.refl _) (.cons .p2 (.cons .p2 .nil)) (fun _ => rfl) rfl fun b14 => rN <| tSR <| rM rfl rfl <| rM rfl rfl <| ARun.qv (q_nilCheck_ptr rfl) rfl <| ARun.qv (q_load_ptr_all rfl rfl .p0 rfl) rfl <| ARun.qv (q_nilCheck_ptr rfl) rfl <| n_store_ptr rfl rfl rfl rfl .p2 rfl rfl <| rN <| tSR <| rA rfl rfl <| rN <| ATodo.ret <| ?_
              obtain rfl := Option.some.inj h
              exact ImpX.here ⟨_, .cons (.tmp _ _ rfl) .nil, _, .cons .p2 (.cons .p1 .nil), ⟨b14, rfl, rfl⟩⟩

set_option maxHeartbeats 4000000 in
theorem command_Office_Withdraw_c [GI : GTab] {b_0 : Bk} {b_0x4 : Bk} {p0x0 : Command_Office} {p1x0 : Str} {p2x0 : Int} {r : Int × Command_Office} (h : command_Office_Withdraw p0x0 p1x0 p2x0 = some r) : ACall Tryz.prog 53 [.ptr b_0 0, .str p1x0, I p2x0] [(b_0, .cells [I p0x0.post_.Room, I p0x0.post_.Timeout, I p0x0.post_.Tries, I p0x0.post_.Kept, .mref b_0x4, I p0x0.time_]), (b_0x4, .mp (p0x0.notes_.map (fun e => (AV.str e.1, Note.av e.2))))] (T1 (fun c_0x4 => [(b_0, .cells [I r.2.post_.Room, I r.2.post_.Timeout, I r.2.post_.Tries, I r.2.post_.Kept, .mref c_0x4, I r.2.time_]), (c_0x4, .mp (r.2.notes_.map (fun e => (AV.str e.1, Note.av e.2))))]) (fun c_0x4 => I r.1)) := by
  unfold command_Office_Withdraw at h
  refine ACall.lessH ?_
  refine ACall.bodyN Tryz.func53 rfl Tryz.ntmps53 Tryz.results53 rfl rfl ?_
  refine tSR <| rA rfl rfl <| rN <| tS <| tSR <| rM rfl rfl <| rM rfl rfl <| t_call0 rfl (command_Office_timeFault_c rfl) (CoL.refl _) (.cons .p0 .nil) rfl rfl <| rA rfl rfl <| rN <| tSR <| rM rfl rfl <| ARun.qv (q_neq rfl rfl) rfl <| rN <| ATodo.cond_d rfl (fun hc => ?_) (fun hc => ?_)
  · refine have h := iteT hc h; tSR <| rM rfl rfl <| rA rfl rfl <| rN <| ATodo.ret <| ?_
    obtain rfl := Option.some.inj h
    exact ImpX.here ⟨_, .cons (.tmp _ _ rfl) .nil, _, .cons .p0 (.cons .p0 .nil), ⟨b_0x4, rfl, rfl⟩⟩
  · refine have h := iteF hc h; tK <| tSR <| rM rfl rfl <| rM rfl rfl <| bndE h fun v1 e1 h => t_call1 rfl (command_Office_aged_c e1) (CoL.refl _) (.cons .p0 (.cons .p0 .nil)) (fun _ => rfl) rfl fun b2 => rA rfl rfl <| rN <| tSR <| rM rfl rfl <| rM rfl rfl <| bndE h fun v3 e2 h => ARun.qv (t_lookup2 (gk := AV.str) (gv := Note.av) (M := v1) (key := p1x0) (Z := (⟨(⟨[], [], [], (0 : Int), (0 : Int), (0 : Int)⟩ : Letter), (0 : Int), (0 : Int), (0 : Int)⟩ : Note)) rfl rfl .p2 rfl rfl rfl e2 rfl) rfl <| rM rfl rfl <| rX rfl rfl rfl <| rX rfl rfl rfl <| n_alloc rfl rfl rfl rfl fun b4 => n_store_ptr rfl rfl rfl rfl .p0 rfl rfl <| rA rfl rfl <| rN <| tS <| ATodo.block <| tSR <| rM rfl rfl <| ARun.qv (q_not rfl) rfl <| rA rfl rfl <| rN <| ATodo.cond rfl (fun hc => ?_) (fun hc => ?_)
    · refine have h := iteT hc h; tSR <| rA rfl rfl <| rN <| ATodo.ret <| ?_
      obtain rfl := Option.some.inj h
      exact ImpX.here ⟨_, .cons (.tmp _ _ rfl) .nil, _, .cons .p1 (.cons .p1 .nil), ⟨b_0x4, rfl, rfl⟩⟩
    · refine have h := iteFb hc h; tS <| ATodo.cut (fun σ' => ∃ (c5 : Bool), command_Office_Withdraw_j1 p0x0 p1x0 p2x0 v1 c5 = some r ∧ σ' = ⟨44, [(0, .ptr b_0 0), (1, .str p1x0), (2, I p2x0), (8, .mref b2), (29, .bool c5)], [(b_0, .cells [I p0x0.post_.Room, I p0x0.post_.Timeout, I p0x0.post_.Tries, I p0x0.post_.Kept, .mref b_0x4, I p0x0.time_]), (b_0x4, .mp (p0x0.notes_.map (fun e => (AV.str e.1, Note.av e.2)))), (b2, .mp (v1.map (fun e => (AV.str e.1, Note.av e.2))))]⟩) ?_ ?_
      · refine tR <| rF rfl rfl rfl <| rL rfl rfl .p0 rfl rfl <| ARun.qv (q_gtr rfl rfl) rfl <| rM rfl rfl <| ARun.guard_df rfl rfl rfl (fun hc => ?_) (fun hc => ?_)
        · rw [orFd hc] at h
          exact rF rfl rfl rfl <| rY rfl rfl rfl <| rL rfl rfl .p0 rfl rfl <| rY rfl rfl rfl <| r_callp rfl (command_ended_c rfl) (CoL.refl _) rfl <| rE rfl rfl rfl <| rA rfl rfl <| rN <| ATodo.stop <| ImpX.lq [1, 1, 1] ⟨(command_ended v3.1.State), h, rfl⟩ rfl rfl
        · rw [orTd hc] at h
          exact rG rfl rfl rfl rfl <| rG rfl rfl rfl rfl <| rT rfl rfl rfl <| rA rfl rfl <| rN <| ATodo.stop <| ImpX.lq [1, 1, 1] ⟨true, h, rfl⟩ rfl rfl
      · rintro σ' ⟨c5, h, rfl⟩
        unfold command_Office_Withdraw_j1 at h
        refine ATodo.cond rfl (fun hc => ?_) (fun hc => ?_)
        · refine have h := iteT hc h; tSR <| rA rfl rfl <| rN <| ATodo.ret <| ?_
          obtain rfl := Option.some.inj h
          exact ImpX.here ⟨_, .cons (.tmp _ _ rfl) .nil, _, .cons .p0 (.cons .p0 .nil), ⟨b_0x4, rfl, rfl⟩⟩
        · refine have h := iteFb hc h; tK <| ATodo.blk <| tSR <| rM rfl rfl <| rM rfl rfl <| t_delete (gk := AV.str) (gv := Note.av) (M := v1) (key := p1x0) rfl rfl .p2 <| rN <| tSR <| rM rfl rfl <| rM rfl rfl <| rM rfl rfl <| t_call1 rfl (command_Office_keep_c rfl) (CoL.refl _) (.cons .p0 (.cons .p0 (.cons .p0 .nil))) (fun _ => rfl) rfl fun b6 => rN <| tSR <| rA rfl rfl <| rN <| ATodo.ret <| ?_
          obtain rfl := Option.some.inj h
          exact ImpX.here ⟨_, .cons (.tmp _ _ rfl) .nil, _, .cons .p0 (.cons .p0 .nil), ⟨b6, rfl, rfl⟩⟩

set_option maxHeartbeats 4000000 in
theorem Q_Desk_Withdraw_c [GI : GTab] {b_0 : Bk} {b_0x4 : Bk} {p0x0 : Fleetref2_Desk} {p1x0 : Str} {p2x0 : Int} {r : Int × Fleetref2_Desk} (h : Q_Desk_Withdraw p0x0 p1x0 p2x0 = some r) : ACall Tryz.prog 54 [.ptr b_0 0, .str p1x0, I p2x0] [(b_0, .cells [I p0x0.P.Room, I p0x0.P.Timeout, I p0x0.P.Tries, I p0x0.P.Kept, .sl 9 b_0x4 0 p0x0.L.length, I p0x0.time_]), (b_0x4, .arr 9 (p0x0.L.map Note.av))] (T1 (fun c_0x4 => [(b_0, .cells [I r.2.P.Room, I r.2.P.Timeout, I r.2.P.Tries, I r.2.P.Kept, .sl 9 c_0x4 0 r.2.L.length, I r.2.time_]), (c_0x4, .arr 9 (r.2.L.map Note.av))]) (fun c_0x4 => I r.1)) := by
  unfold Q_Desk_Withdraw at h
  refine ACall.lessH ?_
  refine ACall.bodyN Tryz.func54 rfl Tryz.ntmps54 Tryz.results54 rfl rfl ?_
  refine tSR <| rA rfl rfl <| rN <| tSR <| rM rfl rfl <| rM rfl rfl <| bndE h fun v1 e1 h => optE h (fun e2 h => ?_) (fun x2 e2 h => ?_)
  · refine have cM11 := TM_none e2 (Q_Desk_turn_c0x4x_c e1); t_call0 rfl cM11 (CoL.refl _) (.cons .p0 (.cons .p0 .nil)) rfl rfl <| rM rfl rfl <| rX rfl rfl rfl <| rX rfl rfl rfl <| rA rfl rfl <| rA rfl rfl <| rN <| tS <| tSR <| rM rfl rfl <| ARun.qv (q_neq rfl rfl) rfl <| rN <| ATodo.cond_d rfl (fun hc => ?_) (fun hc => ?_)
    · refine have h := iteT hc h; tSR <| rM rfl rfl <| rA rfl rfl <| rN <| ATodo.ret <| ?_
      obtain rfl := Option.some.inj h
      exact ImpX.here ⟨_, .cons (.tmp _ _ rfl) .nil, _, .cons .p0 (.cons .p0 .nil), ⟨b_0x4, rfl, rfl⟩⟩
    · refine have h := iteF hc h; tK <| tSR <| rM rfl rfl <| rM rfl rfl <| ?_
      cases h
  · refine have cM12 := TM_some e2 (Q_Desk_turn_c0x4x_c e1); t_call2 rfl cM12 (CoL.refl _) (.cons .p0 (.cons .p0 .nil)) (fun _ _ => rfl) rfl fun b3 b4 => rM rfl rfl <| rX rfl rfl rfl <| rX rfl rfl rfl <| rA rfl rfl <| rA rfl rfl <| rN <| tS <| tSR <| rM rfl rfl <| ARun.qv (q_neq rfl rfl) rfl <| rN <| ATodo.cond_d rfl (fun hc => ?_) (fun hc => ?_)
    · refine have h := iteT hc h; tSR <| rM rfl rfl <| rA rfl rfl <| rN <| ATodo.ret <| ?_
      obtain rfl := Option.some.inj h
      exact ImpX.here ⟨_, .cons (.tmp _ _ rfl) .nil, _, .cons .p0 (.cons .p0 .nil), ⟨b_0x4, rfl, rfl⟩⟩
    · refine have h := iteF hc h; tK <| tSR <| rM rfl rfl <| rM rfl rfl <| bndE h fun v5 e3 h => r_callpB rfl (Q_Desk_at_c e3) (.cons (.boxL _ _ _ .p2 (.cons (.co (.refl _)) (.cons (.co (.refl _)) (.cons (.co (.refl _)) (.cons (.co (.refl _)) (.cons (CoB.arrT .p3) (.cons (.co (.refl _)) .nil))))))) (.cons (.co (.refl _)) .nil)) rfl rfl <| rA rfl rfl <| rN <| tS <| ATodo.block <| tSR <| rM rfl rfl <| ARun.qv (q_lss rfl rfl) rfl <| rA rfl rfl <| rN <| ATodo.cond_d rfl (fun hc => ?_) (fun hc => ?_)
      · refine have h := iteT hc h; tSR <| rA rfl rfl <| rN <| ATodo.ret <| ?_
        obtain rfl := Option.some.inj h
        exact ImpX.here ⟨_, .cons (.tmp _ _ rfl) .nil, _, .cons .p0 (.cons .p0 .nil), ⟨b_0x4, rfl, rfl⟩⟩
      · refine have h := iteF hc h; tS <| ATodo.cut (fun σ' => ∃ (c6 : Bool), Q_Desk_Withdraw_j1 p0x0 x2 v5 c6 = some r ∧ σ' = ⟨62, [(0, .ptr b_0 0), (7, .ptr b3 0), (9, I v5), (25, .bool c6)], [(b_0, .cells [I p0x0.P.Room, I p0x0.P.Timeout, I p0x0.P.Tries, I p0x0.P.Kept, .sl 9 b_0x4 0 p0x0.L.length, I p0x0.time_]), (b_0x4, .arr 9 (p0x0.L.map Note.av)), (b3, .cells [I x2.P.Room, I x2.P.Timeout, I x2.P.Tries, I x2.P.Kept, .sl 9 b4 0 x2.L.length, I x2.time_]), (b4, .arr 9 (x2.L.map Note.av))]⟩) ?_ ?_
        · refine tR <| rM rfl rfl <| ARun.qv (q_nilCheck_ptr rfl) rfl <| rF rfl rfl rfl <| rL rfl rfl .p2 rfl rfl <| rM rfl rfl <| bndE h fun v7 e4 h => ARun.qv (t_index_sl rfl rfl rfl e4) rfl <| ARun.qv (t_load_aptr_agg (g := Note.av) rfl rfl (.inl .p3) rfl e4 rfl) rfl <| r_callp rfl (Q_open_c rfl) (CoL.refl _) rfl <| ARun.qv (q_not rfl) rfl <| rM rfl rfl <| ARun.guard rfl rfl rfl (fun hc => ?_) (fun hc => ?_)
          · exact have h := iteFb hc h; rM rfl rfl <| rY rfl rfl rfl <| ARun.qv (q_nilCheck_ptr rfl) rfl <| rY rfl rfl rfl <| rF rfl rfl rfl <| rY rfl rfl rfl <| rL rfl rfl .p2 rfl rfl <| rY rfl rfl rfl <| rM rfl rfl <| rY rfl rfl rfl <| bndE h fun v8 e5 h => ARun.qv (t_index_sl rfl rfl rfl e5) rfl <| rY rfl rfl rfl <| ARun.qv (t_field_aptr rfl rfl) rfl <| rY rfl rfl rfl <| ARun.qv (t_load_aptr (g := Note.av) rfl rfl (.inl .p3) e5 rfl) rfl <| rY rfl rfl rfl <| ARun.qv (q_gtr rfl rfl) rfl <| rE rfl rfl rfl <| rA rfl rfl <| rN <| ATodo.stop <| ImpX.lq [0, 0, 0, 0] ⟨decide ((0 : Int) < v8.Tries), h, rfl⟩ rfl rfl
          · exact have h := iteT hc h; rG rfl rfl rfl rfl <| rG rfl rfl rfl rfl <| rG rfl rfl rfl rfl <| rG rfl rfl rfl rfl <| rG rfl rfl rfl rfl <| rG rfl rfl rfl rfl <| rG rfl rfl rfl rfl <| rG rfl rfl rfl rfl <| rT rfl rfl rfl <| rA rfl rfl <| rN <| ATodo.stop <| ImpX.lq [0, 0, 0, 0] ⟨true, h, rfl⟩ rfl rfl
        · rintro σ' ⟨c6, h, rfl⟩
          unfold Q_Desk_Withdraw_j1 at h
          refine ATodo.cond rfl (fun hc => ?_) (fun hc => ?_)
          · refine have h := iteT hc h; tSR <| rA rfl rfl <| rN <| ATodo.ret <| ?_
            obtain rfl := Option.some.inj h
            exact ImpX.here ⟨_, .cons (.tmp _ _ rfl) .nil, _, .cons .p0 (.cons .p0 .nil), ⟨b_0x4, rfl, rfl⟩⟩
          · refine have h := iteFb hc h; tK <| ATodo.blk <| tSR <| rM rfl rfl <| rM rfl rfl <| ARun.qv (q_nilCheck_ptr rfl) rfl <| rF rfl rfl rfl <| rL rfl rfl .p2 rfl rfl <| rM rfl rfl <| rM rfl rfl <| ARun.qv (q_addw rfl rfl) rfl <| bndE h fun v9 e6 h => t_call1 rfl (slices_Delete_Note_Note_c e6) (CoL.refl _) (.cons .p3 .nil) (fun _ => rfl) rfl fun b10 => ARun.qv (q_nilCheck_ptr rfl) rfl <| rF rfl rfl rfl <| n_store_ptr rfl rfl rfl rfl .p3 rfl rfl <| rN <| tSR <| rM rfl rfl <| rM rfl rfl <| ARun.qv (q_nilCheck_ptr rfl) rfl <| ARun.qv (q_load_ptr_all rfl rfl .p3 rfl) rfl <| ARun.qv (q_nilCheck_ptr rfl) rfl <| n_store_ptr rfl rfl rfl rfl .p1 rfl rfl <| rN <| tSR <| rA rfl rfl <| rN <| ATodo.ret <| ?_
            obtain rfl := Option.some.inj h
            exact ImpX.here ⟨_, .cons (.tmp _ _ rfl) .nil, _, .cons .p1 (.cons .p0 .nil), ⟨b10, rfl, rfl⟩⟩

set_option maxHeartbeats 4000000 in
theorem command_Office_Note_c [GI : GTab] {b_0 : Bk} {b_0x4 : Bk} {p0x0 : Command_Office} {p1x0 : Str} {p2x0 : Int} {r : Note × Int × Command_Office} (h : command_Office_Note p0x0 p1x0 p2x0 = some r) : ACall Tryz.prog 55 [.ptr b_0 0, .str p1x0, I p2x0] [(b_0, .cells [I p0x0.post_.Room, I p0x0.post_.Timeout, I p0x0.post_.Tries, I p0x0.post_.Kept, .mref b_0x4, I p0x0.time_]), (b_0x4, .mp (p0x0.notes_.map (fun e => (AV.str e.1, Note.av e.2))))] (T1 (fun c_0x4 => [(b_0, .cells [I r.2.2.post_.Room, I r.2.2.post_.Timeout, I r.2.2.post_.Tries, I r.2.2.post_.Kept, .mref c_0x4, I r.2.2.time_]), (c_0x4, .mp (r.2.2.notes_.map (fun e => (AV.str e.1, Note.av e.2))))]) (fun c_0x4 => .tup [.agg [.str r.1.Letter.Id, .str r.1.Letter.Slot, .str r.1.Letter.Body, I r.1.Letter.Prio, I r.1.Letter.At, I r.1.Letter.Until, I r.1.State, I r.1.Tries, I r.1.Since], I r.2.1])) := by
  unfold command_Office_Note at h
  refine ACall.lessH ?_
  refine ACall.bodyN Tryz.func55 rfl Tryz.ntmps55 Tryz.results55 rfl rfl ?_
  refine tSR <| n_alloc rfl rfl rfl rfl fun b1 => rA rfl rfl <| rN <| tS <| tSR <| rM rfl rfl <| rM rfl rfl <| t_call0 rfl (command_Office_timeFault_c rfl) (CoL.refl _) (.cons .p1 .nil) rfl rfl <| rA rfl rfl <| rN <| tSR <| rM rfl rfl <| ARun.qv (q_neq rfl rfl) rfl <| rN <| ATodo.cond_d rfl (fun hc => ?_) (fun hc => ?_)
  · refine have h := iteT hc h; tSR <| ARun.qv (n_build rfl rfl rfl rfl rfl) rfl <| rM rfl rfl <| n_store_ptr rfl rfl rfl rfl .p1 rfl rfl <| rA rfl rfl <| rN <| ATodo.ret <| ?_
    obtain rfl := Option.some.inj h
    exact ImpX.here ⟨_, .cons (.all _ _ _ _ _ _ rfl .p1 TUnder.h TInfo.h rfl rfl) (.cons (.tmp _ _ rfl) .nil), _, .cons .p0 (.cons .p1 .nil), ⟨b_0x4, rfl, rfl⟩⟩
  · refine have h := iteF hc h; tK <| tSR <| rM rfl rfl <| rM rfl rfl <| bndE h fun v2 e1 h => t_call1 rfl (command_Office_aged_c e1) (CoL.refl _) (.cons .p0 (.cons .p1 .nil)) (fun _ => rfl) rfl fun b3 => rA rfl rfl <| rN <| tSR <| rM rfl rfl <| rM rfl rfl <| bndE h fun v4 e2 h => ARun.qv (t_lookup2 (gk := AV.str) (gv := Note.av) (M := v2) (key := p1x0) (Z := (⟨(⟨[], [], [], (0 : Int), (0 : Int), (0 : Int)⟩ : Letter), (0 : Int), (0 : Int), (0 : Int)⟩ : Note)) rfl rfl .p2 rfl rfl rfl e2 rfl) rfl <| rM rfl rfl <| rX rfl rfl rfl <| rX rfl rfl rfl <| n_alloc rfl rfl rfl rfl fun b5 => n_store_ptr rfl rfl rfl rfl .p0 rfl rfl <| rA rfl rfl <| rN <| tS <| tSR <| rM rfl rfl <| ARun.qv (q_not rfl) rfl <| rN <| ATodo.cond rfl (fun hc => ?_) (fun hc => ?_)
    · refine have h := iteT hc h; tSR <| ARun.qv (n_build rfl rfl rfl rfl rfl) rfl <| n_store_ptr rfl rfl rfl rfl .p4 rfl rfl <| rA rfl rfl <| rN <| ATodo.ret <| ?_
      obtain rfl := Option.some.inj h
      exact ImpX.here ⟨_, .cons (.all _ _ _ _ _ _ rfl .p4 TUnder.h TInfo.h rfl rfl) (.cons (.tmp _ _ rfl) .nil), _, .cons .p1 (.cons .p1 .nil), ⟨b_0x4, rfl, rfl⟩⟩
    · refine have h := iteFb hc h; tK <| tSR <| rM rfl rfl <| rM rfl rfl <| rM rfl rfl <| t_call1 rfl (command_Office_keep_c rfl) (CoL.refl _) (.cons .p1 (.cons .p1 (.cons .p1 .nil))) (fun _ => rfl) rfl fun b6 => rN <| tSR <| ARun.qv (q_load_ptr_all rfl rfl .p2 rfl) rfl <| n_store_ptr rfl rfl rfl rfl .p3 rfl rfl <| rA rfl rfl <| rN <| ATodo.ret <| ?_
      obtain rfl := Option.some.inj h
      exact ImpX.here ⟨_, .cons (.all _ _ _ _ _ _ rfl .p3 TUnder.h TInfo.h rfl rfl) (.cons (.tmp _ _ rfl) .nil), _, .cons .p0 (.cons .p0 .nil), ⟨b6, rfl, rfl⟩⟩

set_option maxHeartbeats 4000000 in
theorem Q_Desk_Note_c [GI : GTab] {b_0 : Bk} {b_0x4 : Bk} {p0x0 : Fleetref2_Desk} {p1x0 : Str} {p2x0 : Int} {r : Note × Int × Fleetref2_Desk} (h : Q_Desk_Note p0x0 p1x0 p2x0 = some r) : ACall Tryz.prog 56 [.ptr b_0 0, .str p1x0, I p2x0] [(b_0, .cells [I p0x0.P.Room, I p0x0.P.Timeout, I p0x0.P.Tries, I p0x0.P.Kept, .sl 9 b_0x4 0 p0x0.L.length, I p0x0.time_]), (b_0x4, .arr 9 (p0x0.L.map Note.av))] (T1 (fun c_0x4 => [(b_0, .cells [I r.2.2.P.Room, I r.2.2.P.Timeout, I r.2.2.P.Tries, I r.2.2.P.Kept, .sl 9 c_0x4 0 r.2.2.L.length, I r.2.2.time_]), (c_0x4, .arr 9 (r.2.2.L.map Note.av))]) (fun c_0x4 => .tup [.agg [.str r.1.Letter.Id, .str r.1.Letter.Slot, .str r.1.Letter.Body, I r.1.Letter.Prio, I r.1.Letter.At, I r.1.Letter.Until, I r.1.State, I r.1.Tries, I r.1.Since], I r.2.1])) := by
  unfold Q_Desk_Note at h
  refine ACall.lessH ?_
  refine ACall.bodyN Tryz.func56 rfl Tryz.ntmps56 Tryz.results56 rfl rfl ?_
  refine tSR <| n_alloc rfl rfl rfl rfl fun b1 => rA rfl rfl <| rN <| tSR <| rM rfl rfl <| rM rfl rfl <| bndE h fun v2 e1 h => optE h (fun e2 h => ?_) (fun x3 e2 h => ?_)
  · refine have cM11 := TM_none e2 (Q_Desk_turn_c0x4x_c e1); t_call0 rfl cM11 (CoL.refl _) (.cons .p1 (.cons .p1 .nil)) rfl rfl <| rM rfl rfl <| rX rfl rfl rfl <| rX rfl rfl rfl <| rA rfl rfl <| rA rfl rfl <| rN <| tS <| tSR <| rM rfl rfl <| ARun.qv (q_neq rfl rfl) rfl <| rN <| ATodo.cond_d rfl (fun hc => ?_) (fun hc => ?_)
    · refine have h := iteT hc h; tSR <| ARun.qv (n_build rfl rfl rfl rfl rfl) rfl <| rM rfl rfl <| n_store_ptr rfl rfl rfl rfl .p2 rfl rfl <| rA rfl rfl <| rN <| ATodo.ret <| ?_
      obtain rfl := Option.some.inj h
      exact ImpX.here ⟨_, .cons (.all _ _ _ _ _ _ rfl .p2 TUnder.h TInfo.h rfl rfl) (.cons (.tmp _ _ rfl) .nil), _, .cons .p0 (.cons .p0 .nil), ⟨b_0x4, rfl, rfl⟩⟩
    · refine have h := iteF hc h; tK <| tSR <| rM rfl rfl <| rM rfl rfl <| ?_
      cases h
  · refine have cM12 := TM_some e2 (Q_Desk_turn_c0x4x_c e1); t_call2 rfl cM12 (CoL.refl _) (.cons .p1 (.cons .p1 .nil)) (fun _ _ => rfl) rfl fun b4 b5 => rM rfl rfl <| rX rfl rfl rfl <| rX rfl rfl rfl <| rA rfl rfl <| rA rfl rfl <| rN <| tS <| tSR <| rM rfl rfl <| ARun.qv (q_neq rfl rfl) rfl <| rN <| ATodo.cond_d rfl (fun hc => ?_) (fun hc => ?_)
    · refine have h := iteT hc h; tSR <| ARun.qv (n_build rfl rfl rfl rfl rfl) rfl <| rM rfl rfl <| n_store_ptr rfl rfl rfl rfl .p4 rfl rfl <| rA rfl rfl <| rN <| ATodo.ret <| ?_
      obtain rfl := Option.some.inj h
      exact ImpX.here ⟨_, .cons (.all _ _ _ _ _ _ rfl .p4 TUnder.h TInfo.h rfl rfl) (.cons (.tmp _ _ rfl) .nil), _, .cons .p0 (.cons .p0 .nil), ⟨b_0x4, rfl, rfl⟩⟩
    · refine have h := iteF hc h; tK <| tSR <| rM rfl rfl <| rM rfl rfl <| bndE h fun v6 e3 h => r_callpB rfl (Q_Desk_at_c e3) (.cons (.boxL _ _ _ .p2 (.cons (.co (.refl _)) (.cons (.co (.refl _)) (.cons (.co (.refl _)) (.cons (.co (.refl _)) (.cons (CoB.arrT .p3) (.cons (.co (.refl _)) .nil))))))) (.cons (.co (.refl _)) .nil)) rfl rfl <| rA rfl rfl <| rN <| tS <| tSR <| rM rfl rfl <| ARun.qv (q_lss rfl rfl) rfl <| rN <| ATodo.cond_d rfl (fun hc => ?_) (fun hc => ?_)
      · refine have h := iteT hc h; tSR <| ARun.qv (n_build rfl rfl rfl rfl rfl) rfl <| n_store_ptr rfl rfl rfl rfl .p4 rfl rfl <| rA rfl rfl <| rN <| ATodo.ret <| ?_
        obtain rfl := Option.some.inj h
        exact ImpX.here ⟨_, .cons (.all _ _ _ _ _ _ rfl .p4 TUnder.h TInfo.h rfl rfl) (.cons (.tmp _ _ rfl) .nil), _, .cons .p0 (.cons .p0 .nil), ⟨b_0x4, rfl, rfl⟩⟩
      · refine have h := iteF hc h; tK <| tSR <| rM rfl rfl <| rM rfl rfl <| ARun.qv (q_nilCheck_ptr rfl) rfl <| ARun.qv (q_load_ptr_all rfl rfl .p2 rfl) rfl <| ARun.qv (q_nilCheck_ptr rfl) rfl <| n_store_ptr rfl rfl rfl rfl .p0 rfl rfl <| rN <| tSR <| rM rfl rfl <| ARun.qv (q_nilCheck_ptr rfl) rfl <| rF rfl rfl rfl <| rL rfl rfl .p2 rfl rfl <| rM rfl rfl <| bndE h fun v7 e4 h => ARun.qv (t_index_sl rfl rfl rfl e4) rfl <| ARun.qv (t_load_aptr_agg (g := Note.av) rfl rfl (.inl .p3) rfl e4 rfl) rfl <| n_store_ptr rfl rfl rfl rfl .p4 rfl rfl <| rA rfl rfl <| rN <| ATodo.ret <| ?_
        obtain rfl := Option.some.inj h
        exact ImpX.here ⟨_, .cons (.all _ _ _ _ _ _ rfl .p4 TUnder.h TInfo.h rfl rfl) (.cons (.tmp _ _ rfl) .nil), _, .cons .p0 (.cons .p2 .nil), ⟨b5, rfl, rfl⟩⟩

set_option maxHeartbeats 4000000 in
theorem Q_Desk_Waiting_c [GI : GTab] {b_0 : Bk} {b_0x4 : Bk} {p0x0 : Fleetref2_Desk} {p1x0 : Int} {r : Int × Int × Fleetref2_Desk} (h : Q_Desk_Waiting p0x0 p1x0 = some r) : ACall Tryz.prog 57 [.ptr b_0 0, I p1x0] [(b_0, .cells [I p0x0.P.Room, I p0x0.P.Timeout, I p0x0.P.Tries, I p0x0.P.Kept, .sl 9 b_0x4 0 p0x0.L.length, I p0x0.time_]), (b_0x4, .arr 9 (p0x0.L.map Note.av))] (T1 (fun c_0x4 => [(b_0, .cells [I r.2.2.P.Room, I r.2.2.P.Timeout, I r.2.2.P.Tries, I r.2.2.P.Kept, .sl 9 c_0x4 0 r.2.2.L.length, I r.2.2.time_]), (c_0x4, .arr 9 (r.2.2.L.map Note.av))]) (fun c_0x4 => .tup [I r.1, I r.2.1])) := by
  unfold Q_Desk_Waiting at h
  refine ACall.lessH ?_
  refine ACall.bodyN Tryz.func57 rfl Tryz.ntmps57 Tryz.results57 rfl rfl ?_
  refine tSR <| rA rfl rfl <| rA rfl rfl <| rN <| tSR <| rM rfl rfl <| rM rfl rfl <| bndE h fun v1 e1 h => optE h (fun e2 h => ?_) (fun x2 e2 h => ?_)
  · refine have cM11 := TM_none e2 (Q_Desk_turn_c0x4x_c e1); t_call0 rfl cM11 (CoL.refl _) (.cons .p0 (.cons .p0 .nil)) rfl rfl <| rM rfl rfl <| rX rfl rfl rfl <| rX rfl rfl rfl <| rA rfl rfl <| rA rfl rfl <| rN <| tS <| tSR <| rM rfl rfl <| ARun.qv (q_neq rfl rfl) rfl <| rN <| ATodo.cond_d rfl (fun hc => ?_) (fun hc => ?_)
    · refine have h := iteT hc h; tSR <| rM rfl rfl <| rA rfl rfl <| rA rfl rfl <| rN <| ATodo.ret <| ?_
      obtain rfl := Option.some.inj h
      exact ImpX.here ⟨_, .cons (.tmp _ _ rfl) (.cons (.tmp _ _ rfl) .nil), _, .cons .p0 (.cons .p0 .nil), ⟨b_0x4, rfl, rfl⟩⟩
    · refine have h := iteF hc h; tK <| tSR <| rM rfl rfl <| rM rfl rfl <| ?_
      cases h
  · refine have cM12 := TM_some e2 (Q_Desk_turn_c0x4x_c e1); t_call2 rfl cM12 (CoL.refl _) (.cons .p0 (.cons .p0 .nil)) (fun _ _ => rfl) rfl fun b3 b4 => rM rfl rfl <| rX rfl rfl rfl <| rX rfl rfl rfl <| rA rfl rfl <| rA rfl rfl <| rN <| tS <| tSR <| rM rfl rfl <| ARun.qv (q_neq rfl rfl) rfl <| rN <| ATodo.cond_d rfl (fun hc => ?_) (fun hc => ?_)
    · refine have h := iteT hc h; tSR <| rM rfl rfl <| rA rfl rfl <| rA rfl rfl <| rN <| ATodo.ret <| ?_
      obtain rfl := Option.some.inj h
      exact ImpX.here ⟨_, .cons (.tmp _ _ rfl) (.cons (.tmp _ _ rfl) .nil), _, .cons .p0 (.cons .p0 .nil), ⟨b_0x4, rfl, rfl⟩⟩
    · refine have h := iteF hc h; tK <| tSR <| rM rfl rfl <| rM rfl rfl <| ARun.qv (q_nilCheck_ptr rfl) rfl <| ARun.qv (q_load_ptr_all rfl rfl .p2 rfl) rfl <| ARun.qv (q_nilCheck_ptr rfl) rfl <| n_store_ptr rfl rfl rfl rfl .p0 rfl rfl <| rN <| tSR <| rM rfl rfl <| bndE h fun v5 e3 h => r_callpB rfl (Q_Desk_many_c e3) (.cons (.boxL _ _ _ .p2 (.cons (.co (.refl _)) (.cons (.co (.refl _)) (.cons (.co (.refl _)) (.cons (.co (.refl _)) (.cons (CoB.arrT .p3) (.cons (.co (.refl _)) .nil))))))) .nil) rfl rfl <| rA rfl rfl <| rA rfl rfl <| rN <| ATodo.ret <| ?_
      obtain rfl := Option.some.inj h
      exact ImpX.here ⟨_, .cons (.tmp _ _ rfl) (.cons (.tmp _ _ rfl) .nil), _, .cons .p0 (.cons .p2 .nil), ⟨b4, rfl, rfl⟩⟩

set_option maxHeartbeats 4000000 in
theorem command_Office_Wake_c [GI : GTab] {b_0 : Bk} {b_0x4 : Bk} {p0x0 : Command_Office} {p1x0 : Int} {r : Int × Int × Command_Office} (h : command_Office_Wake p0x0 p1x0 = some r) : ACall Tryz.prog 58 [.ptr b_0 0, I p1x0] [(b_0, .cells [I p0x0.post_.Room, I p0x0.post_.Timeout, I p0x0.post_.Tries, I p0x0.post_.Kept, .mref b_0x4, I p0x0.time_]), (b_0x4, .mp (p0x0.notes_.map (fun e => (AV.str e.1, Note.av e.2))))] (T1 (fun c_0x4 => [(b_0, .cells [I r.2.2.post_.Room, I r.2.2.post_.Timeout, I r.2.2.post_.Tries, I r.2.2.post_.Kept, .mref c_0x4, I r.2.2.time_]), (c_0x4, .mp (r.2.2.notes_.map (fun e => (AV.str e.1, Note.av e.2))))]) (fun c_0x4 => .tup [I r.1, I r.2.1])) := by
  unfold command_Office_Wake at h
  refine ACall.lessH ?_
  refine ACall.bodyN Tryz.func58 rfl Tryz.ntmps58 Tryz.results58 rfl rfl ?_
  refine tSR <| rA rfl rfl <| rA rfl rfl <| rN <| tS <| tSR <| rM rfl rfl <| rM rfl rfl <| t_call0 rfl (command_Office_timeFault_c rfl) (CoL.refl _) (.cons .p0 .nil) rfl rfl <| rA rfl rfl <| rN <| tSR <| rM rfl rfl <| ARun.qv (q_neq rfl rfl) rfl <| rN <| ATodo.cond_d rfl (fun hc => ?_) (fun hc => ?_)
  · refine have h := iteT hc h; tSR <| rM rfl rfl <| rA rfl rfl <| rA rfl rfl <| rN <| ATodo.ret <| ?_
    obtain rfl := Option.some.inj h
    exact ImpX.here ⟨_, .cons (.tmp _ _ rfl) (.cons (.tmp _ _ rfl) .nil), _, .cons .p0 (.cons .p0 .nil), ⟨b_0x4, rfl, rfl⟩⟩
  · refine have h := iteF hc h; tK <| tSR <| rM rfl rfl <| rM rfl rfl <| rM rfl rfl <| bndE h fun v1 e1 h => t_call1 rfl (command_Office_aged_c e1) (CoL.refl _) (.cons .p0 (.cons .p0 .nil)) (fun _ => rfl) rfl fun b2 => rM rfl rfl <| t_call1 rfl (command_Office_keep_c rfl) (CoL.refl _) (.cons .p0 (.cons .p0 (.cons .p0 .nil))) (fun _ => rfl) rfl fun b3 => rN <| tSR <| rA rfl rfl <| rN <| tS <| tSR <| rM rfl rfl <| ARun.qv (q_nilCheck_ptr rfl) rfl <| rF rfl rfl rfl <| rL rfl rfl .p0 rfl rfl <| t_range (M := ((command_Office_keep p0x0 v1 p1x0).notes_)) (enc := (fun e => (AV.str e.1, Note.av e.2))) rfl (fun _ _ => .p1) rfl fun b4 Le2 ce2 hLe2 hIe2 => rN <| ATodo.block <| ATodo.loopMap (fun e (x : Int) => command_Office_Wake_b1 p0x0 p1x0 v1 e x) (fun x : Int => command_Office_Wake_f1 p0x0 p1x0 v1 x) (fun R x σ' => ∃ (s1m : List Nat), MIter Le2 ce2 s1m (R.map (fun e => (AV.str e.1, Note.av e.2))) ∧ σ' = ⟨50, [(0, .ptr b_0 0), (7, I x), (27, .ptr b4 0)], [(b_0, .cells [I ((command_Office_keep p0x0 v1 p1x0).post_.Room), I ((command_Office_keep p0x0 v1 p1x0).post_.Timeout), I ((command_Office_keep p0x0 v1 p1x0).post_.Tries), I ((command_Office_keep p0x0 v1 p1x0).post_.Kept), .mref b3, I ((command_Office_keep p0x0 v1 p1x0).time_)]), (b3, .mpb Le2 ce2), (b4, .mit b3 ce2 s1m)]⟩) h ?_ ?_
    · exact ImpX.lq [1, 1, 0] ⟨[], hIe2, rfl⟩ rfl rfl
    · intro R1 n6 σ' J1 hmk hH1 hK1
      obtain ⟨s1m, hI1m, rfl⟩ := hmk
      refine tSR <| t_next rfl hI1m .p1 (fun _ => .p2) rfl (fun hN => ?_) (fun v1m R' sv1m hP hlen hIv1m hCv1m => ?_)
      · have h := nilL hH1 hN
        replace h : command_Office_Wake_f1 p0x0 p1x0 v1 n6 = _ := h
        unfold command_Office_Wake_f1 at h
        refine ARun.ghost <| ImpX.mpDone hLe2 .p1 <| ImpX.here <| rX rfl rfl rfl <| rN <| tS <| ATodo.cond_f rfl <| ATodo.exit rfl <| tSR <| rM rfl rfl <| rA rfl rfl <| rA rfl rfl <| rN <| ATodo.ret <| ?_
        obtain rfl := Option.some.inj h
        exact ImpX.here ⟨_, .cons (.tmp _ _ rfl) (.cons (.tmp _ _ rfl) .nil), _, .cons .p0 (.cons .p0 .nil), ⟨b3, rfl, rfl⟩⟩
      · obtain ⟨z1, h, hN1, hA1⟩ := stepL hH1 hP
        replace h : command_Office_Wake_b1 p0x0 p1x0 v1 v1m n6 = some z1 := h
        unfold command_Office_Wake_b1 at h
        have hJ1 := fun y σ' (e : z1 = .inl y) hi => hK1 R' y σ' hlen (hN1 y e) hi
        clear hN1 hP hK1 hH1
        refine rX rfl rfl rfl <| rN <| tS <| ATodo.cond_t rfl <| tK <| ATodo.block <| tSR <| ARun.qv (t_entry rfl .p2 .p1 hCv1m rfl rfl) rfl <| rX rfl rfl rfl <| n_alloc rfl rfl rfl rfl fun b7 => n_store_ptr rfl rfl rfl rfl .p0 rfl rfl <| rN <| tSR <| rM rfl rfl <| ARun.qv (q_load_ptr_all rfl rfl .p0 rfl) rfl <| t_call0 rfl (command_Office_turn_c rfl) (CoL.refl _) (.cons .p1 .nil) rfl rfl <| rA rfl rfl <| rN <| tS <| ATodo.cut (fun σ' => ∃ (c8 : Bool), command_Office_Wake_j1 p0x0 p1x0 v1 n6 v1m c8 = some z1 ∧ σ' = ⟨50, [(0, .ptr b_0 0), (7, I n6), (10, I (command_Office_turn (command_Office_keep p0x0 v1 p1x0) v1m.2)), (27, .ptr b4 0), (47, .bool c8)], [(b_0, .cells [I ((command_Office_keep p0x0 v1 p1x0).post_.Room), I ((command_Office_keep p0x0 v1 p1x0).post_.Timeout), I ((command_Office_keep p0x0 v1 p1x0).post_.Tries), I ((command_Office_keep p0x0 v1 p1x0).post_.Kept), .mref b3, I ((command_Office_keep p0x0 v1 p1x0).time_)]), (b3, .mpb Le2 ce2), (b4, .mit b3 ce2 sv1m)]⟩) ?_ ?_
        · refine tR <| rF rfl rfl rfl <| rL rfl rfl .p1 rfl rfl <| r_callp rfl (command_ended_c rfl) (CoL.refl _) rfl <| ARun.qv (q_not rfl) rfl <| rM rfl rfl <| ARun.guard rfl rfl rfl (fun hc => ?_) (fun hc => ?_)
          · rw [andTb hc] at h
            refine rM rfl rfl <| rY rfl rfl rfl <| ARun.qv (q_lss rfl rfl) rfl <| rY rfl rfl rfl <| rM rfl rfl <| ARun.guard_df rfl rfl rfl (fun hc => ?_) (fun hc => ?_)
            · rw [orFd hc] at h
              exact rM rfl rfl <| rY rfl rfl rfl <| rM rfl rfl <| rY rfl rfl rfl <| ARun.qv (q_lss rfl rfl) rfl <| rY rfl rfl rfl <| rE rfl rfl rfl <| rT rfl rfl rfl <| rN <| ATodo.stop <| ImpX.lq [0, 1, 1] ⟨decide ((command_Office_turn (command_Office_keep p0x0 v1 p1x0) v1m.2) < n6), h, rfl⟩ rfl rfl
            · rw [orTd hc] at h
              exact rG rfl rfl rfl rfl <| rG rfl rfl rfl rfl <| rY rfl rfl rfl <| rT rfl rfl rfl <| rT rfl rfl rfl <| rN <| ATodo.stop <| ImpX.lq [0, 1, 1] ⟨true, h, rfl⟩ rfl rfl
          · rw [andFb hc] at h
            exact rG rfl rfl rfl rfl <| rG rfl rfl rfl rfl <| ARun.guard_und rfl rfl rfl <| ARun.guard_und rfl rfl rfl <| ARun.guard_und rfl rfl rfl <| rG rfl rfl rfl rfl <| rE rfl rfl rfl <| rN <| ATodo.stop <| ImpX.lq [0, 1, 1] ⟨false, h, rfl⟩ rfl rfl
        · rintro σ' ⟨c8, h, rfl⟩
          unfold command_Office_Wake_j1 at h
          refine ATodo.cut (fun σ' => ∃ (n9 : Int), command_Office_Wake_j2 n9 = some z1 ∧ σ' = ⟨50, [(0, .ptr b_0 0), (7, I n9), (27, .ptr b4 0)], [(b_0, .cells [I ((command_Office_keep p0x0 v1 p1x0).post_.Room), I ((command_Office_keep p0x0 v1 p1x0).post_.Timeout), I ((command_Office_keep p0x0 v1 p1x0).post_.Tries), I ((command_Office_keep p0x0 v1 p1x0).post_.Kept), .mref b3, I ((command_Office_keep p0x0 v1 p1x0).time_)]), (b3, .mpb Le2 ce2), (b4, .mit b3 ce2 sv1m)]⟩) ?_ ?_
          · refine ATodo.cond rfl (fun hc => ?_) (fun hc => ?_)
            · exact have h := iteT hc h; tR <| rM rfl rfl <| rA rfl rfl <| rN <| ATodo.stop <| ImpX.lq [0, 0, 0] ⟨(command_Office_turn (command_Office_keep p0x0 v1 p1x0) v1m.2), h, rfl⟩ rfl rfl
            · exact have h := iteFb hc h; tK <| ATodo.stop <| ImpX.lq [0, 0, 0] ⟨n6, h, rfl⟩ rfl rfl
          · rintro σ' ⟨n9, h, rfl⟩
            unfold command_Office_Wake_j2 at h
            refine ATodo.blk <| ATodo.stop <| ?_
            obtain rfl := Option.some.inj h
            exact hJ1 _ _ rfl <| ImpX.lq [0, 0, 0] ⟨sv1m, hIv1m, rfl⟩ rfl rfl

set_option maxHeartbeats 4000000 in
theorem Q_Desk_Wake_c [GI : GTab] {b_0 : Bk} {b_0x4 : Bk} {p0x0 : Fleetref2_Desk} {p1x0 : Int} {r : Int × Int × Fleetref2_Desk} (h : Q_Desk_Wake p0x0 p1x0 = some r) : ACall Tryz.prog 59 [.ptr b_0 0, I p1x0] [(b_0, .cells [I p0x0.P.Room, I p0x0.P.Timeout, I p0x0.P.Tries, I p0x0.P.Kept, .sl 9 b_0x4 0 p0x0.L.length, I p0x0.time_]), (b_0x4, .arr 9 (p0x0.L.map Note.av))] (T1 (fun c_0x4 => [(b_0, .cells [I r.2.2.P.Room, I r.2.2.P.Timeout, I r.2.2.P.Tries, I r.2.2.P.Kept, .sl 9 c_0x4 0 r.2.2.L.length, I r.2.2.time_]), (c_0x4, .arr 9 (r.2.2.L.map Note.av))]) (fun c_0x4 => .tup [I r.1, I r.2.1])) := by
  unfold Q_Desk_Wake at h
  refine ACall.lessH ?_
  refine ACall.bodyN Tryz.func59 rfl Tryz.ntmps59 Tryz.results59 rfl rfl ?_
  refine tSR <| rA rfl rfl <| rA rfl rfl <| rN <| tSR <| rM rfl rfl <| rM rfl rfl <| bndE h fun v1 e1 h => optE h (fun e2 h => ?_) (fun x2 e2 h => ?_)
  · refine have cM11 := TM_none e2 (Q_Desk_turn_c0x4x_c e1); t_call0 rfl cM11 (CoL.refl _) (.cons .p0 (.cons .p0 .nil)) rfl rfl <| rM rfl rfl <| rX rfl rfl rfl <| rX rfl rfl rfl <| rA rfl rfl <| rA rfl rfl <| rN <| tS <| tSR <| rM rfl rfl <| ARun.qv (q_neq rfl rfl) rfl <| rN <| ATodo.cond_d rfl (fun hc => ?_) (fun hc => ?_)
    · refine have h := iteT hc h; tSR <| rM rfl rfl <| rA rfl rfl <| rA rfl rfl <| rN <| ATodo.ret <| ?_
      obtain rfl := Option.some.inj h
      exact ImpX.here ⟨_, .cons (.tmp _ _ rfl) (.cons (.tmp _ _ rfl) .nil), _, .cons .p0 (.cons .p0 .nil), ⟨b_0x4, rfl, rfl⟩⟩
    · refine have h := iteF hc h; tK <| tSR <| rM rfl rfl <| rM rfl rfl <| ?_
      cases h
  · refine have cM12 := TM_some e2 (Q_Desk_turn_c0x4x_c e1); t_call2 rfl cM12 (CoL.refl _) (.cons .p0 (.cons .p0 .nil)) (fun _ _ => rfl) rfl fun b3 b4 => rM rfl rfl <| rX rfl rfl rfl <| rX rfl rfl rfl <| rA rfl rfl <| rA rfl rfl <| rN <| tS <| tSR <| rM rfl rfl <| ARun.qv (q_neq rfl rfl) rfl <| rN <| ATodo.cond_d rfl (fun hc => ?_) (fun hc => ?_)
    · refine have h := iteT hc h; tSR <| rM rfl rfl <| rA rfl rfl <| rA rfl rfl <| rN <| ATodo.ret <| ?_
      obtain rfl := Option.some.inj h
      exact ImpX.here ⟨_, .cons (.tmp _ _ rfl) (.cons (.tmp _ _ rfl) .nil), _, .cons .p0 (.cons .p0 .nil), ⟨b_0x4, rfl, rfl⟩⟩
    · refine have h := iteF hc h; tK <| tSR <| rM rfl rfl <| rM rfl rfl <| ARun.qv (q_nilCheck_ptr rfl) rfl <| ARun.qv (q_load_ptr_all rfl rfl .p2 rfl) rfl <| ARun.qv (q_nilCheck_ptr rfl) rfl <| n_store_ptr rfl rfl rfl rfl .p0 rfl rfl <| rN <| tSR <| rA rfl rfl <| rN <| tS <| tSR <| rM rfl rfl <| ARun.qv (q_nilCheck_ptr rfl) rfl <| rF rfl rfl rfl <| rL rfl rfl .p2 rfl rfl <| ARun.qv (t_len_sl rfl) rfl <| rM rfl rfl <| rN <| ATodo.block <| ATodo.loopI (fun x : Int × Int => Q_Desk_Wake_b1 x2 x.1 x.2) (fun x σ' => σ' = ⟨52, [(6, .ptr b3 0), (8, I x.1), (29, .sl 9 b4 0 x2.L.length), (30, I (x2.L.length : Int)), (31, I x.2)], [(b_0, .cells [I x2.P.Room, I x2.P.Timeout, I x2.P.Tries, I x2.P.Kept, .sl 9 b4 0 x2.L.length, I x2.time_]), (b4, .arr 9 (x2.L.map Note.av)), (b3, .cells [I x2.P.Room, I x2.P.Timeout, I x2.P.Tries, I x2.P.Kept, .sl 9 b4 0 x2.L.length, I x2.time_])]⟩) h ?_ ?_
      · exact ImpX.lq [0, 2, 1] rfl rfl rfl
      · intro x z1 σ' J1 hmk h hJ1 hA1
        obtain ⟨n7, n8⟩ := x
        obtain rfl := hmk
        replace h : Q_Desk_Wake_b1 x2 n7 n8 = some z1 := h
        unfold Q_Desk_Wake_b1 at h
        refine tSR <| ARun.qv (q_lss rfl rfl) rfl <| rN <| tS <| ATodo.cond_d rfl (fun hc => ?_) (fun hc => ?_)
        · refine have h := iteT hc h; tK <| tS <| ATodo.block <| tSR <| bndE h fun v9 e3 h => ARun.qv (t_index_sl rfl rfl rfl e3) rfl <| ARun.qv (t_load_aptr_agg (g := Note.av) rfl rfl (.inl .p1) rfl e3 rfl) rfl <| n_alloc rfl rfl rfl rfl fun b10 => n_store_ptr rfl rfl rfl rfl .p0 rfl rfl <| rN <| tSR <| rM rfl rfl <| ARun.qv (q_load_ptr_all rfl rfl .p0 rfl) rfl <| r_callpB rfl (Q_Desk_due_c rfl) (.cons (.boxL _ _ _ .p3 (.cons (.co (.refl _)) (.cons (.co (.refl _)) (.cons (.co (.refl _)) (.cons (.co (.refl _)) (.cons (CoB.arrT .p2) (.cons (.co (.refl _)) .nil))))))) (.cons (.co (.refl _)) .nil)) rfl rfl <| rA rfl rfl <| rN <| tS <| ATodo.cut (fun σ' => ∃ (c11 : Bool), Q_Desk_Wake_j1 x2 n7 n8 v9 c11 = some z1 ∧ σ' = ⟨52, [(6, .ptr b3 0), (8, I n7), (11, I (Q_Desk_due x2 v9)), (29, .sl 9 b4 0 x2.L.length), (30, I (x2.L.length : Int)), (31, I n8), (48, .bool c11)], [(b_0, .cells [I x2.P.Room, I x2.P.Timeout, I x2.P.Tries, I x2.P.Kept, .sl 9 b4 0 x2.L.length, I x2.time_]), (b4, .arr 9 (x2.L.map Note.av)), (b3, .cells [I x2.P.Room, I x2.P.Timeout, I x2.P.Tries, I x2.P.Kept, .sl 9 b4 0 x2.L.length, I x2.time_])]⟩) ?_ ?_
          · refine tR <| rM rfl rfl <| ARun.qv (q_geq rfl rfl) rfl <| rM rfl rfl <| ARun.guard_dt rfl rfl rfl (fun hc => ?_) (fun hc => ?_)
            · rw [andTd hc] at h
              refine rM rfl rfl <| rY rfl rfl rfl <| ARun.qv (q_lss rfl rfl) rfl <| rY rfl rfl rfl <| rM rfl rfl <| ARun.guard_df rfl rfl rfl (fun hc => ?_) (fun hc => ?_)
              · rw [orFd hc] at h
                exact rM rfl rfl <| rY rfl rfl rfl <| rM rfl rfl <| rY rfl rfl rfl <| ARun.qv (q_lss rfl rfl) rfl <| rY rfl rfl rfl <| rE rfl rfl rfl <| rT rfl rfl rfl <| rN <| ATodo.stop <| ImpX.lq [1, 1, 1] ⟨decide ((Q_Desk_due x2 v9) < n7), h, rfl⟩ rfl rfl
              · rw [orTd hc] at h
                exact rG rfl rfl rfl rfl <| rG rfl rfl rfl rfl <| rY rfl rfl rfl <| rT rfl rfl rfl <| rT rfl rfl rfl <| rN <| ATodo.stop <| ImpX.lq [1, 1, 1] ⟨true, h, rfl⟩ rfl rfl
            · rw [andFd hc] at h
              exact rG rfl rfl rfl rfl <| rG rfl rfl rfl rfl <| ARun.guard_und rfl rfl rfl <| ARun.guard_und rfl rfl rfl <| ARun.guard_und rfl rfl rfl <| rG rfl rfl rfl rfl <| rE rfl rfl rfl <| rN <| ATodo.stop <| ImpX.lq [1, 1, 1] ⟨false, h, rfl⟩ rfl rfl
          · rintro σ' ⟨c11, h, rfl⟩
            unfold Q_Desk_Wake_j1 at h
            refine ATodo.cut (fun σ' => ∃ (n12 : Int), Q_Desk_Wake_j2 n8 n12 = some z1 ∧ σ' = ⟨52, [(6, .ptr b3 0), (8, I n12), (29, .sl 9 b4 0 x2.L.length), (30, I (x2.L.length : Int)), (31, I n8)], [(b_0, .cells [I x2.P.Room, I x2.P.Timeout, I x2.P.Tries, I x2.P.Kept, .sl 9 b4 0 x2.L.length, I x2.time_]), (b4, .arr 9 (x2.L.map Note.av)), (b3, .cells [I x2.P.Room, I x2.P.Timeout, I x2.P.Tries, I x2.P.Kept, .sl 9 b4 0 x2.L.length, I x2.time_])]⟩) ?_ ?_
            · refine ATodo.cond rfl (fun hc => ?_) (fun hc => ?_)
              · exact have h := iteT hc h; tR <| rM rfl rfl <| rA rfl rfl <| rN <| ATodo.stop <| ImpX.lq [0, 0, 0] ⟨(Q_Desk_due x2 v9), h, rfl⟩ rfl rfl
              · exact have h := iteFb hc h; tK <| ATodo.stop <| ImpX.lq [0, 0, 0] ⟨n7, h, rfl⟩ rfl rfl
            · rintro σ' ⟨n12, h, rfl⟩
              unfold Q_Desk_Wake_j2 at h
              refine ATodo.blk <| tR <| ARun.qv (q_addw rfl rfl) rfl <| rM rfl rfl <| rN <| ATodo.stop <| ?_
              obtain rfl := Option.some.inj h
              exact hJ1 _ _ rfl <| ImpX.lq [0, 0, 0] rfl rfl rfl
        · refine have h := iteF hc h; ATodo.exit rfl <| have h := outL h hA1; tSR <| rM rfl rfl <| rA rfl rfl <| rA rfl rfl <| rN <| ATodo.ret <| ?_
          obtain rfl := Option.some.inj h
          exact ImpX.here ⟨_, .cons (.tmp _ _ rfl) (.cons (.tmp _ _ rfl) .nil), _, .cons .p0 (.cons .p0 .nil), ⟨b4, rfl, rfl⟩⟩

set_option maxHeartbeats 4000000 in
theorem L_officeStep_c {b_0 : Bk} {b_1 : Bk} {b_1x4 : Bk} {b_2 : Bk} {b_2x4 : Bk} {p0x0 : Fleetmake_Stream} {p1x0 : Command_Office} {p2x0 : Fleetref2_Desk} {p3x0 : Int} {p4x0 : Str} {r : Bool × Fleetmake_Stream × Command_Office × Fleetref2_Desk} (h : L_officeStep p0x0 p1x0 p2x0 p3x0 p4x0 = some r) : ACall Tryz.prog 21 [.ptr b_0 0, .ptr b_1 0, .ptr b_2 0, I p3x0, .str p4x0] [(b_0, .cells [.list 1 (p0x0.L.map I), I p0x0.at_]), (b_1, .cells [I p1x0.post_.Room, I p1x0.post_.Timeout, I p1x0.post_.Tries, I p1x0.post_.Kept, .mref b_1x4, I p1x0.time_]), (b_1x4, .mp (p1x0.notes_.map (fun e => (AV.str e.1, Note.av e.2)))), (b_2, .cells [I p2x0.P.Room, I p2x0.P.Timeout, I p2x0.P.Tries, I p2x0.P.Kept, .sl 9 b_2x4 0 p2x0.L.length, I p2x0.time_]), (b_2x4, .arr 9 (p2x0.L.map Note.av))] (T2 (fun c_1x4 c_2x4 => [(b_0, .cells [.list 1 (r.2.1.L.map I), I r.2.1.at_]), (b_1, .cells [I r.2.2.1.post_.Room, I r.2.2.1.post_.Timeout, I r.2.2.1.post_.Tries, I r.2.2.1.post_.Kept, .mref c_1x4, I r.2.2.1.time_]), (c_1x4, .mp (r.2.2.1.notes_.map (fun e => (AV.str e.1, Note.av e.2)))), (b_2, .cells [I r.2.2.2.P.Room, I r.2.2.2.P.Timeout, I r.2.2.2.P.Tries, I r.2.2.2.P.Kept, .sl 9 c_2x4 0 r.2.2.2.L.length, I r.2.2.2.time_]), (c_2x4, .arr 9 (r.2.2.2.L.map Note.av))]) (fun c_1x4 c_2x4 => .bool r.1)) := by
  unfold L_officeStep at h
  refine ACall.lessH ?_
  refine ACall.bodyN Tryz.func21 rfl Tryz.ntmps21 Tryz.results21 rfl rfl ?_
  refine tSR <| rA rfl rfl <| rN <| tS <| tSR <| rM rfl rfl <| bndE h fun v1 e1 h => t_call0 rfl (Stream_Next_c e1) (CoL.refl _) (.cons .p0 .nil) rfl rfl <| rN <| ATodo.block <| tS <| tSR <| ARun.qv (q_eql rfl rfl) rfl <| rA rfl rfl <| rN <| ATodo.cut (fun σ' => ∃ (c2 : Bool), L_officeStep_j1 p1x0 p2x0 p3x0 p4x0 v1 c2 = some r ∧ σ' = ⟨167, [(0, .ptr b_0 0), (1, .ptr b_1 0), (2, .ptr b_2 0), (3, I p3x0), (4, .str p4x0), (31, I v1.1), (32, .bool c2)], [(b_0, .cells [.list 1 (v1.2.L.map I), I v1.2.at_]), (b_1, .cells [I p1x0.post_.Room, I p1x0.post_.Timeout, I p1x0.post_.Tries, I p1x0.post_.Kept, .mref b_1x4, I p1x0.time_]), (b_1x4, .mp (p1x0.notes_.map (fun e => (AV.str e.1, Note.av e.2)))), (b_2, .cells [I p2x0.P.Room, I p2x0.P.Timeout, I p2x0.P.Tries, I p2x0.P.Kept, .sl 9 b_2x4 0 p2x0.L.length, I p2x0.time_]), (b_2x4, .arr 9 (p2x0.L.map Note.av))]⟩) ?_ ?_
  · refine ATodo.cond_d rfl (fun hc => ?_) (fun hc => ?_)
    · exact have h := iteT hc h; tK <| ATodo.stop <| ImpX.lq [0, 0, 0, 0, 0] ⟨decide (v1.1 = (0 : Int)), h, rfl⟩ rfl rfl
    · refine have h := iteF hc h; tSR <| ARun.qv (q_eql rfl rfl) rfl <| rA rfl rfl <| rN <| ATodo.cut (fun σ' => ∃ (c3 : Bool), L_officeStep_j2 p1x0 p2x0 p3x0 p4x0 v1 c3 = some r ∧ σ' = ⟨167, [(0, .ptr b_0 0), (1, .ptr b_1 0), (2, .ptr b_2 0), (3, I p3x0), (4, .str p4x0), (31, I v1.1), (32, .bool c3)], [(b_0, .cells [.list 1 (v1.2.L.map I), I v1.2.at_]), (b_1, .cells [I p1x0.post_.Room, I p1x0.post_.Timeout, I p1x0.post_.Tries, I p1x0.post_.Kept, .mref b_1x4, I p1x0.time_]), (b_1x4, .mp (p1x0.notes_.map (fun e => (AV.str e.1, Note.av e.2)))), (b_2, .cells [I p2x0.P.Room, I p2x0.P.Timeout, I p2x0.P.Tries, I p2x0.P.Kept, .sl 9 b_2x4 0 p2x0.L.length, I p2x0.time_]), (b_2x4, .arr 9 (p2x0.L.map Note.av))]⟩) ?_ ?_
      · refine ATodo.cond_d rfl (fun hc => ?_) (fun hc => ?_)
        · exact have h := iteT hc h; tK <| ATodo.stop <| ImpX.lq [0, 0, 0, 0, 0] ⟨decide (v1.1 = (1 : Int)), h, rfl⟩ rfl rfl
        · exact have h := iteF hc h; tR <| ARun.qv (q_eql rfl rfl) rfl <| rA rfl rfl <| rN <| ATodo.stop <| ImpX.lq [0, 0, 0, 0, 0] ⟨decide (v1.1 = (2 : Int)), h, rfl⟩ rfl rfl
      · rintro σ' ⟨c3, h, rfl⟩
        unfold L_officeStep_j2 at h
        exact ATodo.stop <| ImpX.lq [0, 0, 0, 0, 0] ⟨c3, h, rfl⟩ rfl rfl
  · rintro σ' ⟨c2, h, rfl⟩
    unfold L_officeStep_j1 at h
    refine ATodo.cond rfl (fun hc => ?_) (fun hc => ?_)
    · refine have h := iteT hc h; tSR <| rM rfl rfl <| rM rfl rfl <| bndE h fun v4 e2 h => t_call0 rfl (Stream_Letter_c e2) (CoL.refl _) (.cons .p0 .nil) rfl rfl <| n_alloc rfl rfl rfl rfl fun b5 => n_store_ptr rfl rfl rfl rfl .p0 rfl rfl <| rN <| tS <| bndE h fun v6 e3 h => ATodo.regionT (id := 6) (A := [0, 0, 3, 0, 0, 31, 63, 127]) (H0 := [(b_1, .cells [I p1x0.post_.Room, I p1x0.post_.Timeout, I p1x0.post_.Tries, I p1x0.post_.Kept, .mref b_1x4, I p1x0.time_]), (b_1x4, .mp (p1x0.notes_.map (fun e => (AV.str e.1, Note.av e.2))))]) (HH := fun β => [(b_1, .cells [I v6.2.post_.Room, I v6.2.post_.Timeout, I v6.2.post_.Tries, I v6.2.post_.Kept, .mref (β 2), I v6.2.time_]), ((β 2), .mp (v6.2.notes_.map (fun e => (AV.str e.1, Note.av e.2)))), (b5, .cells [.str v4.1.Id, .str v4.1.Slot, .str v4.1.Body, I v4.1.Prio, I v4.1.At, I v4.1.Until]), (b_0, .cells [.list 1 (v4.2.L.map I), I v4.2.at_]), (b_2, .cells [I p2x0.P.Room, I p2x0.P.Timeout, I p2x0.P.Tries, I p2x0.P.Kept, .sl 9 b_2x4 0 p2x0.L.length, I p2x0.time_]), (b_2x4, .arr 9 (p2x0.L.map Note.av))]) 5 mixed rfl (by kernel_rfl) (by kernel_rfl) [⟨none, some 2, [], fun _ => (b_1, .cells [I p1x0.post_.Room, I p1x0.post_.Timeout, I p1x0.post_.Tries, I p1x0.post_.Kept, .mref b_1x4, I p1x0.time_]), none⟩, ⟨none, some 2, [], fun _ => (b_1x4, .mp (p1x0.notes_.map (fun e => (AV.str e.1, Note.av e.2)))), none⟩, ⟨some 2, none, [], fun b => (b_1, .cells [I v6.2.post_.Room, I v6.2.post_.Timeout, I v6.2.post_.Tries, I v6.2.post_.Kept, .mref b, I v6.2.time_]), none⟩, ⟨some 2, none, [], fun b => (b, .mp (v6.2.notes_.map (fun e => (AV.str e.1, Note.av e.2)))), none⟩] [2] rfl (by kernel_rfl) rfl (.cons .p2 (.cons .p2 .nil)) (fun _ => rfl) <| AT.am 2 rfl rfl <| AM.qv (q_move rfl) rfl <| AM.qv (q_load_ptr_all rfl rfl .p0 rfl) rfl <| AM.nil <| AT.runD (V := fun b => I v6.1) (Ti := [(b_1, .cells [I p1x0.post_.Room, I p1x0.post_.Timeout, I p1x0.post_.Tries, I p1x0.post_.Kept, .mref b_1x4, I p1x0.time_]), (b_1x4, .mp (p1x0.notes_.map (fun e => (AV.str e.1, Note.av e.2))))]) (Pi := fun b => [(b_1, .cells [I v6.2.post_.Room, I v6.2.post_.Timeout, I v6.2.post_.Tries, I v6.2.post_.Kept, .mref b, I v6.2.time_]), (b, .mp (v6.2.notes_.map (fun e => (AV.str e.1, Note.av e.2))))]) (fun _ => rfl) (fun _ => rfl) (fun _ _ => rfl) rfl (fun _ => rfl) rfl rfl rfl ?_ ?_
      · exact t_call1 rfl (command_Office_Put_c e3) (CoL.refl _) (.cons .p0 (.cons .p0 .nil)) (fun _ => rfl) rfl fun b7 => ARun.nil ⟨b7, _, rfl, rfl⟩
      refine AT.am 2 rfl rfl <| AM.qv (q_move rfl) rfl <| AM.qv (q_load_ptr_all rfl rfl .p0 rfl) rfl <| AM.nil <| AT.nilN (fun _ => rfl) fun β => ?_
      generalize β 2 = b7
      clear β
      refine bndE h fun v8 e4 h => t_call1 rfl (Q_Desk_Put_c e4) (CoL.refl _) (.cons .p4 (.cons .p4 .nil)) (fun _ => rfl) rfl fun b9 => ARun.qv (q_eql rfl rfl) rfl <| rA rfl rfl <| rN <| ATodo.ret <| ?_
      obtain rfl := Option.some.inj h
      exact ImpX.here ⟨_, .cons (.tmp _ _ rfl) .nil, _, .cons .p5 (.cons .p2 (.cons .p2 (.cons .p0 (.cons .p0 .nil)))), ⟨b7, b9, rfl, rfl⟩⟩
    · refine have h := iteFb hc h; tS <| tSR <| ARun.qv (q_eql rfl rfl) rfl <| rA rfl rfl <| rN <| ATodo.cut (fun σ' => ∃ (c10 : Bool), L_officeStep_j3 p1x0 p2x0 p3x0 p4x0 v1 c10 = some r ∧ σ' = ⟨167, [(0, .ptr b_0 0), (1, .ptr b_1 0), (2, .ptr b_2 0), (3, I p3x0), (4, .str p4x0), (31, I v1.1), (46, .bool c10)], [(b_0, .cells [.list 1 (v1.2.L.map I), I v1.2.at_]), (b_1, .cells [I p1x0.post_.Room, I p1x0.post_.Timeout, I p1x0.post_.Tries, I p1x0.post_.Kept, .mref b_1x4, I p1x0.time_]), (b_1x4, .mp (p1x0.notes_.map (fun e => (AV.str e.1, Note.av e.2)))), (b_2, .cells [I p2x0.P.Room, I p2x0.P.Timeout, I p2x0.P.Tries, I p2x0.P.Kept, .sl 9 b_2x4 0 p2x0.L.length, I p2x0.time_]), (b_2x4, .arr 9 (p2x0.L.map Note.av))]⟩) ?_ ?_
      · refine ATodo.cond_d rfl (fun hc => ?_) (fun hc => ?_)
        · exact have h := iteT hc h; tK <| ATodo.stop <| ImpX.lq [0, 0, 0, 0, 0] ⟨decide (v1.1 = (3 : Int)), h, rfl⟩ rfl rfl
        · exact have h := iteF hc h; tR <| ARun.qv (q_eql rfl rfl) rfl <| rA rfl rfl <| rN <| ATodo.stop <| ImpX.lq [0, 0, 0, 0, 0] ⟨decide (v1.1 = (4 : Int)), h, rfl⟩ rfl rfl
      · rintro σ' ⟨c10, h, rfl⟩
        unfold L_officeStep_j3 at h
        refine ATodo.cond rfl (fun hc => ?_) (fun hc => ?_)
        · refine have h := iteT hc h; tSR <| rM rfl rfl <| n_buildSliceL (xs := ([(1 : Int), (1 : Int), (2 : Int), (9 : Int), (0 : Int), (-1 : Int), (501 : Int)]).map I) rfl rfl rfl rfl rfl rfl <| bndE h fun v11 e5 h => t_call0 rfl (Stream_Pick_c e5) (CoL.refl _) (.cons .p0 .nil) rfl rfl <| rA rfl rfl <| rN <| tSR <| rM rfl rfl <| rM rfl rfl <| rM rfl rfl <| bndE h fun v12 e6 h => t_call2 rfl (command_Office_Fetch_c e6) (CoL.refl _) (.cons .p1 (.cons .p1 .nil)) (fun _ _ => rfl) rfl fun b13 b14 => rM rfl rfl <| rX rfl rfl rfl <| rX rfl rfl rfl <| rA rfl rfl <| rA rfl rfl <| rN <| tSR <| rM rfl rfl <| rM rfl rfl <| rM rfl rfl <| bndE h fun v15 e7 h => t_call2 rfl (Q_Desk_Fetch_c e7) (CoL.refl _) (.cons .p4 (.cons .p4 .nil)) (fun _ _ => rfl) rfl fun b16 b17 => rM rfl rfl <| rX rfl rfl rfl <| rX rfl rfl rfl <| rA rfl rfl <| rA rfl rfl <| rN <| tS <| ATodo.cut (fun σ' => ∃ (c18 : Bool), L_officeStep_j4 v11 v12 v15 c18 = some r ∧ σ' = ⟨167, [(10, .bool c18)], [(b_0, .cells [.list 1 (v11.2.L.map I), I v11.2.at_]), (b_1, .cells [I v12.2.2.post_.Room, I v12.2.2.post_.Timeout, I v12.2.2.post_.Tries, I v12.2.2.post_.Kept, .mref b13, I v12.2.2.time_]), (b13, .mp (v12.2.2.notes_.map (fun e => (AV.str e.1, Note.av e.2)))), (b_2, .cells [I v15.2.2.P.Room, I v15.2.2.P.Timeout, I v15.2.2.P.Tries, I v15.2.2.P.Kept, .sl 9 b16 0 v15.2.2.L.length, I v15.2.2.time_]), (b16, .arr 9 (v15.2.2.L.map Note.av))]⟩) ?_ ?_
          · refine tR <| rM rfl rfl <| rM rfl rfl <| ARun.qv (q_eql rfl rfl) rfl <| rM rfl rfl <| ARun.guard_dt rfl rfl rfl (fun hc => ?_) (fun hc => ?_)
            · exact have h := iteT hc h; rM rfl rfl <| rY rfl rfl rfl <| rM rfl rfl <| rY rfl rfl rfl <| bndE h fun v19 e8 h => r_callpB rfl (slices_Equal_Letter_Letter_c e8) (.cons (CoB.arrT .p5) (.cons (CoB.arrT .p2) .nil)) rfl rfl <| rT rfl rfl rfl <| rA rfl rfl <| rN <| ATodo.stop <| ImpX.lq [6, 3, 3, 0, 0] ⟨v19, h, rfl⟩ rfl rfl
            · exact have h := iteF hc h; rG rfl rfl rfl rfl <| rG rfl rfl rfl rfl <| rE rfl rfl rfl <| rA rfl rfl <| rN <| ATodo.stop <| ImpX.lq [6, 3, 3, 0, 0] ⟨false, h, rfl⟩ rfl rfl
          · rintro σ' ⟨c18, h, rfl⟩
            unfold L_officeStep_j4 at h
            refine ATodo.ret <| ?_
            obtain rfl := Option.some.inj h
            exact ImpX.here ⟨_, .cons (.tmp _ _ rfl) .nil, _, .cons .p0 (.cons .p0 (.cons .p0 (.cons .p0 (.cons .p0 .nil)))), ⟨b13, b16, rfl, rfl⟩⟩
        · refine have h := iteFb hc h; tS <| tSR <| ARun.qv (q_eql rfl rfl) rfl <| rA rfl rfl <| rN <| ATodo.cut (fun σ' => ∃ (c20 : Bool), L_officeStep_j5 p1x0 p2x0 p3x0 p4x0 v1 c20 = some r ∧ σ' = ⟨167, [(0, .ptr b_0 0), (1, .ptr b_1 0), (2, .ptr b_2 0), (3, I p3x0), (4, .str p4x0), (31, I v1.1), (74, .bool c20)], [(b_0, .cells [.list 1 (v1.2.L.map I), I v1.2.at_]), (b_1, .cells [I p1x0.post_.Room, I p1x0.post_.Timeout, I p1x0.post_.Tries, I p1x0.post_.Kept, .mref b_1x4, I p1x0.time_]), (b_1x4, .mp (p1x0.notes_.map (fun e => (AV.str e.1, Note.av e.2)))), (b_2, .cells [I p2x0.P.Room, I p2x0.P.Timeout, I p2x0.P.Tries, I p2x0.P.Kept, .sl 9 b_2x4 0 p2x0.L.length, I p2x0.time_]), (b_2x4, .arr 9 (p2x0.L.map Note.av))]⟩) ?_ ?_
          · refine ATodo.cond_d rfl (fun hc => ?_) (fun hc => ?_)
            · exact have h := iteT hc h; tK <| ATodo.stop <| ImpX.lq [0, 0, 0, 0, 0] ⟨decide (v1.1 = (5 : Int)), h, rfl⟩ rfl rfl
            · exact have h := iteF hc h; tR <| ARun.qv (q_eql rfl rfl) rfl <| rA rfl rfl <| rN <| ATodo.stop <| ImpX.lq [0, 0, 0, 0, 0] ⟨decide (v1.1 = (6 : Int)), h, rfl⟩ rfl rfl
          · rintro σ' ⟨c20, h, rfl⟩
            unfold L_officeStep_j5 at h
            refine ATodo.cond rfl (fun hc => ?_) (fun hc => ?_)
            · refine have h := iteT hc h; tSR <| rM rfl rfl <| bndE h fun v21 e9 h => t_call0 rfl (Stream_Flip_c e9) (CoL.refl _) (.cons .p0 .nil) rfl rfl <| rA rfl rfl <| rN <| tSR <| rM rfl rfl <| rM rfl rfl <| rM rfl rfl <| rM rfl rfl <| bndE h fun v22 e10 h => t_call1 rfl (command_Office_Answer_c e10) (CoL.refl _) (.cons .p1 (.cons .p1 .nil)) (fun _ => rfl) rfl fun b23 => rM rfl rfl <| rM rfl rfl <| rM rfl rfl <| rM rfl rfl <| bndE h fun v24 e11 h => t_call1 rfl (Q_Desk_Answer_c e11) (CoL.refl _) (.cons .p3 (.cons .p3 .nil)) (fun _ => rfl) rfl fun b25 => ARun.qv (q_eql rfl rfl) rfl <| rA rfl rfl <| rN <| ATodo.ret <| ?_
              obtain rfl := Option.some.inj h
              exact ImpX.here ⟨_, .cons (.tmp _ _ rfl) .nil, _, .cons .p4 (.cons .p2 (.cons .p2 (.cons .p0 (.cons .p0 .nil)))), ⟨b23, b25, rfl, rfl⟩⟩
            · refine have h := iteFb hc h; tSR <| ARun.qv (q_eql rfl rfl) rfl <| rA rfl rfl <| rN <| ATodo.cond_d rfl (fun hc => ?_) (fun hc => ?_)
              · refine have h := iteT hc h; tSR <| rM rfl rfl <| rM rfl rfl <| rM rfl rfl <| bndE h fun v26 e12 h => t_call1 rfl (command_Office_Withdraw_c e12) (CoL.refl _) (.cons .p1 (.cons .p1 .nil)) (fun _ => rfl) rfl fun b27 => rM rfl rfl <| rM rfl rfl <| rM rfl rfl <| bndE h fun v28 e13 h => t_call1 rfl (Q_Desk_Withdraw_c e13) (CoL.refl _) (.cons .p3 (.cons .p3 .nil)) (fun _ => rfl) rfl fun b29 => ARun.qv (q_eql rfl rfl) rfl <| rA rfl rfl <| rN <| ATodo.ret <| ?_
                obtain rfl := Option.some.inj h
                exact ImpX.here ⟨_, .cons (.tmp _ _ rfl) .nil, _, .cons .p4 (.cons .p2 (.cons .p2 (.cons .p0 (.cons .p0 .nil)))), ⟨b27, b29, rfl, rfl⟩⟩
              · refine have h := iteF hc h; tK <| ATodo.blk <| tSR <| rM rfl rfl <| rM rfl rfl <| rM rfl rfl <| bndE h fun v30 e14 h => t_call1 rfl (command_Office_Note_c e14) (CoL.refl _) (.cons .p1 (.cons .p1 .nil)) (fun _ => rfl) rfl fun b31 => rM rfl rfl <| rX rfl rfl rfl <| rX rfl rfl rfl <| n_alloc rfl rfl rfl rfl fun b32 => n_store_ptr rfl rfl rfl rfl .p0 rfl rfl <| rA rfl rfl <| rN <| tSR <| rM rfl rfl <| rM rfl rfl <| rM rfl rfl <| bndE h fun v33 e15 h => t_call1 rfl (Q_Desk_Note_c e15) (CoL.refl _) (.cons .p4 (.cons .p4 .nil)) (fun _ => rfl) rfl fun b34 => rM rfl rfl <| rX rfl rfl rfl <| rX rfl rfl rfl <| n_alloc rfl rfl rfl rfl fun b35 => n_store_ptr rfl rfl rfl rfl .p0 rfl rfl <| rA rfl rfl <| rN <| tSR <| rM rfl rfl <| rM rfl rfl <| bndE h fun v36 e16 h => t_call1 rfl (command_Office_Waiting_c e16) (CoL.refl _) (.cons .p4 (.cons .p4 .nil)) (fun _ => rfl) rfl fun b37 => rM rfl rfl <| rX rfl rfl rfl <| rX rfl rfl rfl <| rA rfl rfl <| rA rfl rfl <| rN <| tSR <| rM rfl rfl <| rM rfl rfl <| bndE h fun v38 e17 h => t_call1 rfl (Q_Desk_Waiting_c e17) (CoL.refl _) (.cons .p3 (.cons .p3 .nil)) (fun _ => rfl) rfl fun b39 => rM rfl rfl <| rX rfl rfl rfl <| rX rfl rfl rfl <| rA rfl rfl <| rA rfl rfl <| rN <| tSR <| rM rfl rfl <| rM rfl rfl <| bndE h fun v40 e18 h => t_call1 rfl (command_Office_Wake_c e18) (CoL.refl _) (.cons .p2 (.cons .p2 .nil)) (fun _ => rfl) rfl fun b41 => rM rfl rfl <| rX rfl rfl rfl <| rX rfl rfl rfl <| rA rfl rfl <| rA rfl rfl <| rN <| tSR <| rM rfl rfl <| rM rfl rfl <| bndE h fun v42 e19 h => t_call1 rfl (Q_Desk_Wake_c e19) (CoL.refl _) (.cons .p2 (.cons .p2 .nil)) (fun _ => rfl) rfl fun b43 => rM rfl rfl <| rX rfl rfl rfl <| rX rfl rfl rfl <| rA rfl rfl <| rA rfl rfl <| rN <| tS <| ATodo.cut (fun σ' => ∃ (c44 : Bool), L_officeStep_j6 v1 v40 v42 c44 = some r ∧ σ' = ⟨167, [(10, .bool c44)], [(b_0, .cells [.list 1 (v1.2.L.map I), I v1.2.at_]), (b_1, .cells [I v40.2.2.post_.Room, I v40.2.2.post_.Timeout, I v40.2.2.post_.Tries, I v40.2.2.post_.Kept, .mref b41, I v40.2.2.time_]), (b41, .mp (v40.2.2.notes_.map (fun e => (AV.str e.1, Note.av e.2)))), (b_2, .cells [I v42.2.2.P.Room, I v42.2.2.P.Timeout, I v42.2.2.P.Tries, I v42.2.2.P.Kept, .sl 9 b43 0 v42.2.2.L.length, I v42.2.2.time_]), (b43, .arr 9 (v42.2.2.L.map Note.av))]⟩) ?_ ?_
                · refine tR <| ARun.qv (q_load_ptr_all rfl rfl .p5 rfl) rfl <| ARun.qv (q_load_ptr_all rfl rfl .p4 rfl) rfl <| ARun.qv (t_teq (g := Note.av) (X := v30.1) (Y := v33.1) rfl rfl rfl rfl rfl) rfl <| rM rfl rfl <| ARun.guard_dt rfl rfl rfl (fun hc => ?_) (fun hc => ?_)
                  · rw [andTd hc] at h
                    refine rM rfl rfl <| rY rfl rfl rfl <| rM rfl rfl <| rY rfl rfl rfl <| ARun.qv (q_eql rfl rfl) rfl <| rT rfl rfl rfl <| rM rfl rfl <| ARun.guard_dt rfl rfl rfl (fun hc => ?_) (fun hc => ?_)
                    · rw [andTd hc] at h
                      refine rM rfl rfl <| rY rfl rfl rfl <| rM rfl rfl <| rY rfl rfl rfl <| ARun.qv (q_eql rfl rfl) rfl <| rT rfl rfl rfl <| rM rfl rfl <| ARun.guard_dt rfl rfl rfl (fun hc => ?_) (fun hc => ?_)
                      · rw [andTd hc] at h
                        refine rM rfl rfl <| rY rfl rfl rfl <| rM rfl rfl <| rY rfl rfl rfl <| ARun.qv (q_eql rfl rfl) rfl <| rT rfl rfl rfl <| rM rfl rfl <| ARun.guard_dt rfl rfl rfl (fun hc => ?_) (fun hc => ?_)
                        · rw [andTd hc] at h
                          refine rM rfl rfl <| rY rfl rfl rfl <| rM rfl rfl <| rY rfl rfl rfl <| ARun.qv (q_eql rfl rfl) rfl <| rT rfl rfl rfl <| rM rfl rfl <| ARun.guard_dt rfl rfl rfl (fun hc => ?_) (fun hc => ?_)
                          · rw [andTd hc] at h
                            exact rM rfl rfl <| rY rfl rfl rfl <| rM rfl rfl <| rY rfl rfl rfl <| ARun.qv (q_eql rfl rfl) rfl <| rT rfl rfl rfl <| rA rfl rfl <| rN <| ATodo.stop <| ImpX.lq [6, 2, 2, 0, 0] ⟨decide (v40.2.1 = v42.2.1), h, rfl⟩ rfl rfl
                          · rw [andFd hc] at h
                            exact rG rfl rfl rfl rfl <| rG rfl rfl rfl rfl <| rE rfl rfl rfl <| rA rfl rfl <| rN <| ATodo.stop <| ImpX.lq [6, 2, 2, 0, 0] ⟨false, h, rfl⟩ rfl rfl
                        · rw [andFd hc] at h
                          exact rG rfl rfl rfl rfl <| rG rfl rfl rfl rfl <| rE rfl rfl rfl <| rM rfl rfl <| rG rfl rfl rfl rfl <| rG rfl rfl rfl rfl <| rG rfl rfl rfl rfl <| rE rfl rfl rfl <| rA rfl rfl <| rN <| ATodo.stop <| ImpX.lq [6, 2, 2, 0, 0] ⟨false, h, rfl⟩ rfl rfl
                      · rw [andFd hc] at h
                        exact rG rfl rfl rfl rfl <| rG rfl rfl rfl rfl <| rE rfl rfl rfl <| rM rfl rfl <| rG rfl rfl rfl rfl <| rG rfl rfl rfl rfl <| rG rfl rfl rfl rfl <| rE rfl rfl rfl <| rM rfl rfl <| rG rfl rfl rfl rfl <| rG rfl rfl rfl rfl <| rG rfl rfl rfl rfl <| rE rfl rfl rfl <| rA rfl rfl <| rN <| ATodo.stop <| ImpX.lq [6, 2, 2, 0, 0] ⟨false, h, rfl⟩ rfl rfl
                    · rw [andFd hc] at h
                      exact rG rfl rfl rfl rfl <| rG rfl rfl rfl rfl <| rE rfl rfl rfl <| rM rfl rfl <| rG rfl rfl rfl rfl <| rG rfl rfl rfl rfl <| rG rfl rfl rfl rfl <| rE rfl rfl rfl <| rM rfl rfl <| rG rfl rfl rfl rfl <| rG rfl rfl rfl rfl <| rG rfl rfl rfl rfl <| rE rfl rfl rfl <| rM rfl rfl <| rG rfl rfl rfl rfl <| rG rfl rfl rfl rfl <| rG rfl rfl rfl rfl <| rE rfl rfl rfl <| rA rfl rfl <| rN <| ATodo.stop <| ImpX.lq [6, 2, 2, 0, 0] ⟨false, h, rfl⟩ rfl rfl
                  · rw [andFd hc] at h
                    exact rG rfl rfl rfl rfl <| rG rfl rfl rfl rfl <| rE rfl rfl rfl <| rM rfl rfl <| rG rfl rfl rfl rfl <| rG rfl rfl rfl rfl <| rG rfl rfl rfl rfl <| rE rfl rfl rfl <| rM rfl rfl <| rG rfl rfl rfl rfl <| rG rfl rfl rfl rfl <| rG rfl rfl rfl rfl <| rE rfl rfl rfl <| rM rfl rfl <| rG rfl rfl rfl rfl <| rG rfl rfl rfl rfl <| rG rfl rfl rfl rfl <| rE rfl rfl rfl <| rM rfl rfl <| rG rfl rfl rfl rfl <| rG rfl rfl rfl rfl <| rG rfl rfl rfl rfl <| rE rfl rfl rfl <| rA rfl rfl <| rN <| ATodo.stop <| ImpX.lq [6, 2, 2, 0, 0] ⟨false, h, rfl⟩ rfl rfl
                · rintro σ' ⟨c44, h, rfl⟩
                  unfold L_officeStep_j6 at h
                  refine ATodo.ret <| ?_
                  obtain rfl := Option.some.inj h
                  exact ImpX.here ⟨_, .cons (.tmp _ _ rfl) .nil, _, .cons .p0 (.cons .p0 (.cons .p0 (.cons .p0 (.cons .p0 .nil)))), ⟨b41, b43, rfl, rfl⟩⟩

set_option maxHeartbeats 4000000 in
theorem command_Office_Notes_1x_c [GI : GTab] {p0x0 : Note} {p1x0 : Note} {r : Int} (h : command_Office_Notes_1x p0x0 p1x0 = r) : Pu Tryz.prog 64 [.agg [.str p0x0.Letter.Id, .str p0x0.Letter.Slot, .str p0x0.Letter.Body, I p0x0.Letter.Prio, I p0x0.Letter.At, I p0x0.Letter.Until, I p0x0.State, I p0x0.Tries, I p0x0.Since], .agg [.str p1x0.Letter.Id, .str p1x0.Letter.Slot, .str p1x0.Letter.Body, I p1x0.Letter.Prio, I p1x0.Letter.At, I p1x0.Letter.Until, I p1x0.State, I p1x0.Tries, I p1x0.Since]] (I r) := by
  unfold command_Office_Notes_1x at h
  refine ACall.bodyN Tryz.func64 rfl Tryz.ntmps64 Tryz.results64 rfl rfl ?_
  refine tSR <| n_box rfl rfl rfl rfl fun b1 => n_box rfl rfl rfl rfl fun b2 => rA rfl rfl <| rN <| tSR <| rF rfl rfl rfl <| rF rfl rfl rfl <| rL rfl rfl .p1 rfl rfl <| rF rfl rfl rfl <| rF rfl rfl rfl <| rL rfl rfl .p0 rfl rfl <| r_callp rfl (strings_Compare_c rfl) (CoL.refl _) rfl <| rA rfl rfl <| rN <| ATodo.ret <| ?_
  obtain rfl := h
  exact ImpX.here ⟨_, .cons (.tmp _ _ rfl) .nil, rfl⟩

set_option maxHeartbeats 4000000 in
theorem command_Office_Notes_c [GI : GTab] {b_0 : Bk} {b_0x4 : Bk} {p0x0 : Command_Office} {p1x0 : Int} {r : (List Note) × Int × Command_Office} (h : command_Office_Notes p0x0 p1x0 = some r) : ACall Tryz.prog 22 [.ptr b_0 0, I p1x0] [(b_0, .cells [I p0x0.post_.Room, I p0x0.post_.Timeout, I p0x0.post_.Tries, I p0x0.post_.Kept, .mref b_0x4, I p0x0.time_]), (b_0x4, .mp (p0x0.notes_.map (fun e => (AV.str e.1, Note.av e.2))))] (T2 (fun c_0x4 d_0 => [(b_0, .cells [I r.2.2.post_.Room, I r.2.2.post_.Timeout, I r.2.2.post_.Tries, I r.2.2.post_.Kept, .mref c_0x4, I r.2.2.time_]), (c_0x4, .mp (r.2.2.notes_.map (fun e => (AV.str e.1, Note.av e.2)))), (d_0, .arr 9 (r.1.map Note.av))]) (fun c_0x4 d_0 => .tup [.sl 9 d_0 0 r.1.length, I r.2.1])) := by
  unfold command_Office_Notes at h
  refine ACall.lessH ?_
  refine ACall.bodyN Tryz.func22 rfl Tryz.ntmps22 Tryz.results22 rfl rfl ?_
  refine tSR <| rA rfl rfl <| rA rfl rfl <| rN <| tS <| tSR <| rM rfl rfl <| rM rfl rfl <| t_call0 rfl (command_Office_timeFault_c rfl) (CoL.refl _) (.cons .p0 .nil) rfl rfl <| rA rfl rfl <| rN <| tSR <| rM rfl rfl <| ARun.qv (q_neq rfl rfl) rfl <| rN <| ATodo.cond_d rfl (fun hc => ?_) (fun hc => ?_)
  · refine have h := iteT hc h; tSR <| rM rfl rfl <| rA rfl rfl <| rA rfl rfl <| rN <| ATodo.ret <| ?_
    obtain rfl := Option.some.inj h
    exact ImpX.arr (s := 4) 9 rfl fun b1 => ImpX.here ⟨_, .cons (.tmp _ _ rfl) (.cons (.tmp _ _ rfl) .nil), _, .cons .p1 (.cons .p1 (.cons .p0 .nil)), ⟨b_0x4, b1, rfl, rfl⟩⟩
  · refine have h := iteF hc h; tK <| tSR <| rM rfl rfl <| rM rfl rfl <| rM rfl rfl <| bndE h fun v2 e1 h => t_call1 rfl (command_Office_aged_c e1) (CoL.refl _) (.cons .p0 (.cons .p0 .nil)) (fun _ => rfl) rfl fun b3 => rM rfl rfl <| t_call1 rfl (command_Office_keep_c rfl) (CoL.refl _) (.cons .p0 (.cons .p0 (.cons .p0 .nil))) (fun _ => rfl) rfl fun b4 => rN <| tSR <| rA rfl rfl <| rN <| tS <| tSR <| rM rfl rfl <| ARun.qv (q_nilCheck_ptr rfl) rfl <| rF rfl rfl rfl <| rL rfl rfl .p0 rfl rfl <| t_range (M := ((command_Office_keep p0x0 v2 p1x0).notes_)) (enc := (fun e => (AV.str e.1, Note.av e.2))) rfl (fun _ _ => .p1) rfl fun b5 Le2 ce2 hLe2 hIe2 => rN <| ATodo.block <| ATodo.loopMap (fun e (x : (List Note)) => command_Office_Notes_b1 e x) (fun x : (List Note) => command_Office_Notes_f1 p0x0 p1x0 v2 x) (fun R x σ' => ∃ (b8 : Bk) (s1m : List Nat), MIter Le2 ce2 s1m (R.map (fun e => (AV.str e.1, Note.av e.2))) ∧ σ' = ⟨38, [(7, .sl 9 b8 0 x.length), (26, .ptr b5 0)], [(b_0, .cells [I ((command_Office_keep p0x0 v2 p1x0).post_.Room), I ((command_Office_keep p0x0 v2 p1x0).post_.Timeout), I ((command_Office_keep p0x0 v2 p1x0).post_.Tries), I ((command_Office_keep p0x0 v2 p1x0).post_.Kept), .mref b4, I ((command_Office_keep p0x0 v2 p1x0).time_)]), (b4, .mpb Le2 ce2), (b5, .mit b4 ce2 s1m), (b8, .arr 9 (x.map Note.av))]⟩) h ?_ ?_
    · exact ImpX.arr (s := 7) 9 rfl fun b10 => ImpX.lq [2, 2, 1, 0] ⟨b10, [], hIe2, rfl⟩ rfl rfl
    · intro R1 l9 σ' J1 hmk hH1 hK1
      obtain ⟨b8, s1m, hI1m, rfl⟩ := hmk
      refine tSR <| t_next rfl hI1m .p1 (fun _ => .p2) rfl (fun hN => ?_) (fun v1m R' sv1m hP hlen hIv1m hCv1m => ?_)
      · have h := nilL hH1 hN
        replace h : command_Office_Notes_f1 p0x0 p1x0 v2 l9 = _ := h
        unfold command_Office_Notes_f1 at h
        refine ARun.ghost <| ImpX.mpDone hLe2 .p1 <| ImpX.here <| rX rfl rfl rfl <| rN <| tS <| ATodo.cond_f rfl <| ATodo.exit rfl <| tSR <| rM rfl rfl <| bndE h fun v11 e3 h => t_call0 rfl (slices_SortFunc_Note_Note_c (fun e => command_Office_Notes_1x_c (GI := strongT) (Option.some.inj e)) (lenOk_f e3)) (CoL.refl _) (.cons .p3 .nil) rfl rfl <| ARun.ghost <| ImpX.eqs (s := 7) (av' := .sl 9 b8 0 v11.length) rfl (congrArg (AV.sl 9 b8 0) (lenOk_l e3)) <| ImpX.here <| ARun.ghost <| ImpX.eqs (s := 35) (av' := .sl 9 b8 0 v11.length) rfl (congrArg (AV.sl 9 b8 0) (lenOk_l e3)) <| ImpX.here <| rN <| tSR <| rM rfl rfl <| rA rfl rfl <| rA rfl rfl <| rN <| ATodo.ret <| ?_
        obtain rfl := Option.some.inj h
        exact ImpX.here ⟨_, .cons (.tmp _ _ rfl) (.cons (.tmp _ _ rfl) .nil), _, .cons .p1 (.cons .p1 (.cons .p0 .nil)), ⟨b4, b8, rfl, rfl⟩⟩
      · obtain ⟨z1, h, hN1, hA1⟩ := stepL hH1 hP
        replace h : command_Office_Notes_b1 v1m l9 = some z1 := h
        unfold command_Office_Notes_b1 at h
        have hJ1 := fun y σ' (e : z1 = .inl y) hi => hK1 R' y σ' hlen (hN1 y e) hi
        clear hN1 hP hK1 hH1
        refine rX rfl rfl rfl <| rN <| tS <| ATodo.cond_t rfl <| tK <| ATodo.block <| tSR <| ARun.qv (t_entry rfl .p2 .p1 hCv1m rfl rfl) rfl <| rX rfl rfl rfl <| n_alloc rfl rfl rfl rfl fun b12 => n_store_ptr rfl rfl rfl rfl .p0 rfl rfl <| rN <| tR <| rM rfl rfl <| ARun.qv (q_load_ptr_all rfl rfl .p0 rfl) rfl <| n_buildSliceL (xs := ([v1m.2] : List Note).map Note.av) rfl rfl rfl rfl rfl rfl <| bndE h fun l13 e4 h => t_append (g := Note.av) rfl rfl rfl rfl rfl rfl rfl rfl (.list _) e4 (fun _ => .p4) rfl fun b14 => rA rfl rfl <| rN <| ATodo.blk <| ATodo.stop <| ?_
        obtain rfl := Option.some.inj h
        exact hJ1 _ _ rfl <| ImpX.lq [1, 1, 1, 1] ⟨b14, sv1m, hIv1m, rfl⟩ rfl rfl

set_option maxHeartbeats 4000000 in
theorem Q_Desk_Notes_c [GI : GTab] {b_0 : Bk} {b_0x4 : Bk} {p0x0 : Fleetref2_Desk} {p1x0 : Int} {r : (List Note) × Int × Fleetref2_Desk} (h : Q_Desk_Notes p0x0 p1x0 = some r) : ACall Tryz.prog 23 [.ptr b_0 0, I p1x0] [(b_0, .cells [I p0x0.P.Room, I p0x0.P.Timeout, I p0x0.P.Tries, I p0x0.P.Kept, .sl 9 b_0x4 0 p0x0.L.length, I p0x0.time_]), (b_0x4, .arr 9 (p0x0.L.map Note.av))] (T2 (fun c_0x4 d_0 => [(b_0, .cells [I r.2.2.P.Room, I r.2.2.P.Timeout, I r.2.2.P.Tries, I r.2.2.P.Kept, .sl 9 c_0x4 0 r.2.2.L.length, I r.2.2.time_]), (c_0x4, .arr 9 (r.2.2.L.map Note.av)), (d_0, .arr 9 (r.1.map Note.av))]) (fun c_0x4 d_0 => .tup [.sl 9 d_0 0 r.1.length, I r.2.1])) := by
  unfold Q_Desk_Notes at h
  refine ACall.lessH ?_
  refine ACall.bodyN Tryz.func23 rfl Tryz.ntmps23 Tryz.results23 rfl rfl ?_
  refine tSR <| rA rfl rfl <| rA rfl rfl <| rN <| tSR <| rM rfl rfl <| rM rfl rfl <| bndE h fun v1 e1 h => optE h (fun e2 h => ?_) (fun x2 e2 h => ?_)
  · refine have cM11 := TM_none e2 (Q_Desk_turn_c0x4x_c e1); t_call0 rfl cM11 (CoL.refl _) (.cons .p0 (.cons .p0 .nil)) rfl rfl <| rM rfl rfl <| rX rfl rfl rfl <| rX rfl rfl rfl <| rA rfl rfl <| rA rfl rfl <| rN <| tS <| tSR <| rM rfl rfl <| ARun.qv (q_neq rfl rfl) rfl <| rN <| ATodo.cond_d rfl (fun hc => ?_) (fun hc => ?_)
    · refine have h := iteT hc h; tSR <| rM rfl rfl <| rA rfl rfl <| rA rfl rfl <| rN <| ATodo.ret <| ?_
      obtain rfl := Option.some.inj h
      exact ImpX.arr (s := 4) 9 rfl fun b3 => ImpX.here ⟨_, .cons (.tmp _ _ rfl) (.cons (.tmp _ _ rfl) .nil), _, .cons .p1 (.cons .p1 (.cons .p0 .nil)), ⟨b_0x4, b3, rfl, rfl⟩⟩
    · refine have h := iteF hc h; tK <| tSR <| rM rfl rfl <| rM rfl rfl <| ?_
      cases h
  · refine have cM12 := TM_some e2 (Q_Desk_turn_c0x4x_c e1); t_call2 rfl cM12 (CoL.refl _) (.cons .p0 (.cons .p0 .nil)) (fun _ _ => rfl) rfl fun b4 b5 => rM rfl rfl <| rX rfl rfl rfl <| rX rfl rfl rfl <| rA rfl rfl <| rA rfl rfl <| rN <| tS <| tSR <| rM rfl rfl <| ARun.qv (q_neq rfl rfl) rfl <| rN <| ATodo.cond_d rfl (fun hc => ?_) (fun hc => ?_)
    · refine have h := iteT hc h; tSR <| rM rfl rfl <| rA rfl rfl <| rA rfl rfl <| rN <| ATodo.ret <| ?_
      obtain rfl := Option.some.inj h
      exact ImpX.arr (s := 4) 9 rfl fun b6 => ImpX.here ⟨_, .cons (.tmp _ _ rfl) (.cons (.tmp _ _ rfl) .nil), _, .cons .p1 (.cons .p1 (.cons .p0 .nil)), ⟨b_0x4, b6, rfl, rfl⟩⟩
    · refine have h := iteF hc h; tK <| tSR <| rM rfl rfl <| rM rfl rfl <| ARun.qv (q_nilCheck_ptr rfl) rfl <| ARun.qv (q_load_ptr_all rfl rfl .p2 rfl) rfl <| ARun.qv (q_nilCheck_ptr rfl) rfl <| n_store_ptr rfl rfl rfl rfl .p0 rfl rfl <| rN <| tSR <| rM rfl rfl <| ARun.qv (q_nilCheck_ptr rfl) rfl <| rF rfl rfl rfl <| rL rfl rfl .p2 rfl rfl <| bndE h fun v7 e3 h => t_callL1 rfl (slices_Clone_Note_Note_c e3) .nil (.cons (CoB.arrT .p3) .nil) (fun _ => rfl) (fun _ => rfl) (fun _ => (.cons (NoS.arrT (fun _ => rfl)) .nil)) rfl fun b8 => rA rfl rfl <| rA rfl rfl <| rN <| ATodo.ret <| ?_
      obtain rfl := Option.some.inj h
      exact ImpX.here ⟨_, .cons (.tmp _ _ rfl) (.cons (.tmp _ _ rfl) .nil), _, .cons .p1 (.cons .p3 (.cons .p0 .nil)), ⟨b5, b8, rfl, rfl⟩⟩

set_option maxHeartbeats 4000000 in
theorem slices_Equal_Note_Note_c [GI : GTab] {p0x0 : List Note} {p1x0 : List Note} {r : Bool} (h : slices_Equal_Note_Note p0x0 p1x0 = some r) : Pu Tryz.prog 24 [.list 9 (p0x0.map Note.av), .list 9 (p1x0.map Note.av)] (.bool r) := by
  unfold slices_Equal_Note_Note at h
  refine ACall.bodyN Tryz.func24 rfl Tryz.ntmps24 Tryz.results24 rfl rfl ?_
  refine tSR <| rA rfl rfl <| rN <| tS <| tSR <| rM rfl rfl <| ARun.qv (t_len rfl) rfl <| rM rfl rfl <| ARun.qv (t_len rfl) rfl <| ARun.qv (q_neq rfl rfl) rfl <| rN <| ATodo.cond_d rfl (fun hc => ?_) (fun hc => ?_)
  · refine have h := iteT hc h; tSR <| rA rfl rfl <| rN <| ATodo.ret <| ?_
    obtain rfl := Option.some.inj h
    exact ImpX.here ⟨_, .cons (.tmp _ _ rfl) .nil, rfl⟩
  · refine have h := iteF hc h; tK <| tS <| tSR <| rM rfl rfl <| ARun.qv (t_len rfl) rfl <| rM rfl rfl <| rN <| ATodo.block <| ATodo.loopI (fun x : Int => slices_Equal_Note_Note_b1 p0x0 p1x0 x) (fun x σ' => σ' = ⟨26, [(0, .list 9 (p0x0.map Note.av)), (1, .list 9 (p1x0.map Note.av)), (12, I (p0x0.length : Int)), (13, I x)], []⟩) h ?_ ?_
    · exact ImpX.lq [] rfl rfl rfl
    · intro n2 z1 σ' J1 hmk h hJ1 hA1
      obtain rfl := hmk
      replace h : slices_Equal_Note_Note_b1 p0x0 p1x0 n2 = some z1 := h
      unfold slices_Equal_Note_Note_b1 at h
      refine tSR <| ARun.qv (q_lss rfl rfl) rfl <| rN <| tS <| ATodo.cond_d rfl (fun hc => ?_) (fun hc => ?_)
      · refine have h := iteT hc h; tK <| tS <| ATodo.block <| tSR <| rM rfl rfl <| rA rfl rfl <| rN <| tS <| ATodo.regionM (id := 6) (A := [0, 0, 3, 7, 0, 0, 48, 112, 255]) 9 mixed rfl (by kernel_rfl) (by kernel_rfl) <| AM.qv (q_move rfl) rfl <| AM.qv (q_move rfl) rfl <| bndE h fun v3 e1 h => AM.qv (t_index rfl rfl rfl e1 rfl rfl) rfl <| AM.qv (q_load_rptr_agg rfl rfl rfl) rfl <| AM.qv (q_move rfl) rfl <| AM.qv (q_move rfl) rfl <| bndE h fun v4 e2 h => AM.qv (t_index rfl rfl rfl e2 rfl rfl) rfl <| AM.qv (q_load_rptr_agg rfl rfl rfl) rfl <| AM.qv (t_tne (g := Note.av) (X := v3) (Y := v4) rfl rfl rfl rfl rfl) rfl <| AM.nil <| rN <| ATodo.cond_d rfl (fun hc => ?_) (fun hc => ?_)
        · refine have h := iteT hc h; tSR <| rA rfl rfl <| rN <| ATodo.ret <| have h := outL h hA1; ?_
          obtain rfl := Option.some.inj h
          exact ImpX.here ⟨_, .cons (.tmp _ _ rfl) .nil, rfl⟩
        · refine have h := iteF hc h; tK <| ATodo.blk <| tR <| ARun.qv (q_addw rfl rfl) rfl <| rM rfl rfl <| rN <| ATodo.stop <| ?_
          obtain rfl := Option.some.inj h
          exact hJ1 _ _ rfl <| ImpX.lq [] rfl rfl rfl
      · refine have h := iteF hc h; ATodo.exit rfl <| have h := outL h hA1; tSR <| rA rfl rfl <| rN <| ATodo.ret <| ?_
        obtain rfl := Option.some.inj h
        exact ImpX.here ⟨_, .cons (.tmp _ _ rfl) .nil, rfl⟩

set_option maxHeartbeats 4000000 in
theorem L_OfficesKeep_c {p0x0 : List Int} {r : Bool} (h : L_OfficesKeep p0x0 = some r) : Pu Tryz.prog 4 [.list 1 (p0x0.map I)] (.bool r) := by
  unfold L_OfficesKeep at h
  refine ACall.bodyN Tryz.func4 rfl Tryz.ntmps4 Tryz.results4 rfl rfl ?_
  refine tSR <| rA rfl rfl <| rN <| tSR <| rM rfl rfl <| ARun.qv (n_build rfl rfl rfl rfl rfl) rfl <| n_box rfl rfl rfl rfl fun b1 => rA rfl rfl <| rN <| tSR <| rM rfl rfl <| bndE h fun v2 e1 h => t_call0 rfl (Stream_Post_c e1) (CoL.refl _) (.cons .p0 .nil) rfl rfl <| n_alloc rfl rfl rfl rfl fun b3 => n_store_ptr rfl rfl rfl rfl .p0 rfl rfl <| rN <| tSR <| ARun.qv (q_load_ptr_all rfl rfl .p0 rfl) rfl <| optE h (fun e2 h => ?_) (fun x4 e2 h => ?_)
  · refine have cM5 := TM_none e2 (command_New_c rfl); t_call0 rfl cM5 (CoL.refl _) .nil rfl rfl <| rM rfl rfl <| rX rfl rfl rfl <| rX rfl rfl rfl <| rA rfl rfl <| rA rfl rfl <| rN <| tS <| tSR <| ARun.qv (q_load_ptr_all rfl rfl .p0 rfl) rfl <| r_callp rfl (Q_PostFault_c rfl) (CoL.refl _) rfl <| rA rfl rfl <| rN <| tS <| ATodo.cut (fun σ' => ∃ (c5 : Bool), L_OfficesKeep_j1 v2 c5 = some r ∧ σ' = ⟨100, [(3, .ptr b1 0), (4, .ptr b3 0), (5, .raw (.pointer none)), (6, I ((command_New v2.1).2)), (7, I (Q_PostFault v2.1)), (34, .bool c5)], [(b1, .cells [.list 1 (v2.2.L.map I), I v2.2.at_]), (b3, .cells [I v2.1.Room, I v2.1.Timeout, I v2.1.Tries, I v2.1.Kept])]⟩) ?_ ?_
    · refine tR <| rM rfl rfl <| rM rfl rfl <| ARun.qv (q_neq rfl rfl) rfl <| rM rfl rfl <| ARun.guard_df rfl rfl rfl (fun hc => ?_) (fun hc => ?_)
      · rw [orFd hc] at h
        exact rM rfl rfl <| rY rfl rfl rfl <| ARun.qv (q_neq rfl rfl) rfl <| rE rfl rfl rfl <| rN <| ATodo.stop <| ImpX.lq [1, 0] ⟨decide ((Q_PostFault v2.1) ≠ (0 : Int)), h, rfl⟩ rfl rfl
      · rw [orTd hc] at h
        exact rG rfl rfl rfl rfl <| rT rfl rfl rfl <| rN <| ATodo.stop <| ImpX.lq [1, 0] ⟨true, h, rfl⟩ rfl rfl
    · rintro σ' ⟨c5, h, rfl⟩
      unfold L_OfficesKeep_j1 at h
      refine ATodo.cond rfl (fun hc => ?_) (fun hc => ?_)
      · refine have h := iteT hc h; tS <| ATodo.cut (fun σ' => ∃ (c6 : Bool), L_OfficesKeep_j2 c6 = some r ∧ σ' = ⟨100, [(2, .bool c6)], []⟩) ?_ ?_
        · refine tR <| rM rfl rfl <| rM rfl rfl <| ARun.qv (q_eql rfl rfl) rfl <| rM rfl rfl <| ARun.guard_dt rfl rfl rfl (fun hc => ?_) (fun hc => ?_)
          · exact have h := iteT hc h; rM rfl rfl <| rY rfl rfl rfl <| ARun.qv (q_ppneql rfl rfl) rfl <| rT rfl rfl rfl <| rM rfl rfl <| rY rfl rfl rfl <| bndE h fun v7 e3 h => r_callp rfl (L_posted_c e3) (CoL.refl _) rfl <| rT rfl rfl rfl <| rA rfl rfl <| rN <| ATodo.stop <| ImpX.lq [] ⟨v7, h, rfl⟩ rfl rfl
          · exact have h := iteF hc h; rG rfl rfl rfl rfl <| rE rfl rfl rfl <| rM rfl rfl <| rG rfl rfl rfl rfl <| rE rfl rfl rfl <| rA rfl rfl <| rN <| ATodo.stop <| ImpX.lq [] ⟨false, h, rfl⟩ rfl rfl
        · rintro σ' ⟨c6, h, rfl⟩
          unfold L_OfficesKeep_j2 at h
          refine ATodo.ret <| ?_
          obtain rfl := Option.some.inj h
          exact ImpX.here ⟨_, .cons (.tmp _ _ rfl) .nil, rfl⟩
      · refine have h := iteFb hc h; tK <| tS <| tSR <| rM rfl rfl <| ARun.qv (q_ppneql rfl rfl) rfl <| rN <| ATodo.cond_t rfl <| tSR <| rA rfl rfl <| rN <| ATodo.ret <| ?_
        obtain rfl := Option.some.inj h
        exact ImpX.here ⟨_, .cons (.tmp _ _ rfl) .nil, rfl⟩
  · refine have cM6 := TM_some e2 (command_New_c rfl); t_call2 rfl cM6 (CoL.refl _) .nil (fun _ _ => rfl) rfl fun b8 b9 => rM rfl rfl <| rX rfl rfl rfl <| rX rfl rfl rfl <| rA rfl rfl <| rA rfl rfl <| rN <| tS <| tSR <| ARun.qv (q_load_ptr_all rfl rfl .p2 rfl) rfl <| r_callp rfl (Q_PostFault_c rfl) (CoL.refl _) rfl <| rA rfl rfl <| rN <| tS <| ATodo.cut (fun σ' => ∃ (c10 : Bool), L_OfficesKeep_j3 v2 x4 c10 = some r ∧ σ' = ⟨100, [(3, .ptr b1 0), (4, .ptr b3 0), (5, .ptr b8 0), (6, I ((command_New v2.1).2)), (7, I (Q_PostFault v2.1)), (34, .bool c10)], [(b1, .cells [.list 1 (v2.2.L.map I), I v2.2.at_]), (b3, .cells [I v2.1.Room, I v2.1.Timeout, I v2.1.Tries, I v2.1.Kept]), (b8, .cells [I x4.post_.Room, I x4.post_.Timeout, I x4.post_.Tries, I x4.post_.Kept, .mref b9, I x4.time_]), (b9, .mp (x4.notes_.map (fun e => (AV.str e.1, Note.av e.2))))]⟩) ?_ ?_
    · refine tR <| rM rfl rfl <| rM rfl rfl <| ARun.qv (q_neq rfl rfl) rfl <| rM rfl rfl <| ARun.guard_df rfl rfl rfl (fun hc => ?_) (fun hc => ?_)
      · rw [orFd hc] at h
        exact rM rfl rfl <| rY rfl rfl rfl <| ARun.qv (q_neq rfl rfl) rfl <| rE rfl rfl rfl <| rN <| ATodo.stop <| ImpX.lq [3, 2, 0, 0] ⟨decide ((Q_PostFault v2.1) ≠ (0 : Int)), h, rfl⟩ rfl rfl
      · rw [orTd hc] at h
        exact rG rfl rfl rfl rfl <| rT rfl rfl rfl <| rN <| ATodo.stop <| ImpX.lq [3, 2, 0, 0] ⟨true, h, rfl⟩ rfl rfl
    · rintro σ' ⟨c10, h, rfl⟩
      unfold L_OfficesKeep_j3 at h
      refine ATodo.cond rfl (fun hc => ?_) (fun hc => ?_)
      · refine have h := iteT hc h; tS <| ATodo.cut (fun σ' => L_OfficesKeep_j4 = some r ∧ σ' = ⟨100, [(2, .bool false)], []⟩) ?_ ?_
        · refine tR <| rM rfl rfl <| rM rfl rfl <| ARun.qv (q_eql rfl rfl) rfl <| rM rfl rfl <| ARun.guard_dt rfl rfl rfl (fun hc => ?_) (fun hc => ?_)
          · exact have h := iteT hc h; rM rfl rfl <| rY rfl rfl rfl <| ARun.qv (q_ppeql rfl rfl) rfl <| rT rfl rfl rfl <| rM rfl rfl <| rG rfl rfl rfl rfl <| rE rfl rfl rfl <| rA rfl rfl <| rN <| ATodo.stop <| ImpX.lq [] ⟨h, rfl⟩ rfl rfl
          · exact have h := iteF hc h; rG rfl rfl rfl rfl <| rE rfl rfl rfl <| rM rfl rfl <| rG rfl rfl rfl rfl <| rE rfl rfl rfl <| rA rfl rfl <| rN <| ATodo.stop <| ImpX.lq [] ⟨h, rfl⟩ rfl rfl
        · rintro σ' ⟨h, rfl⟩
          unfold L_OfficesKeep_j4 at h
          refine ATodo.ret <| ?_
          obtain rfl := Option.some.inj h
          exact ImpX.here ⟨_, .cons (.tmp _ _ rfl) .nil, rfl⟩
      · refine have h := iteFb hc h; tK <| tS <| tSR <| rM rfl rfl <| ARun.qv (q_ppeql rfl rfl) rfl <| rN <| ATodo.cond_f rfl <| tK <| tSR <| ARun.qv (q_load_ptr_all rfl rfl .p1 rfl) rfl <| ARun.qv (n_build rfl rfl rfl rfl rfl) rfl <| n_box rfl rfl rfl rfl fun b11 => rA rfl rfl <| rN <| tSR <| rA rfl rfl <| rN <| tS <| tSR <| rM rfl rfl <| bndE h fun v12 e4 h => t_call0 rfl (Stream_Range_c e4) (CoL.refl _) (.cons .p1 .nil) rfl rfl <| rM rfl rfl <| rN <| ATodo.block <| ATodo.loopI (fun x : (List Int) × Int × Int × Int × Int × Int × (List (Str × Note)) × Int × Int × Int × Int × Int × (List Note) × Int × Int × Int => L_OfficesKeep_b1 v12 x.1 x.2.1 x.2.2.1 x.2.2.2.1 x.2.2.2.2.1 x.2.2.2.2.2.1 x.2.2.2.2.2.2.1 x.2.2.2.2.2.2.2.1 x.2.2.2.2.2.2.2.2.1 x.2.2.2.2.2.2.2.2.2.1 x.2.2.2.2.2.2.2.2.2.2.1 x.2.2.2.2.2.2.2.2.2.2.2.1 x.2.2.2.2.2.2.2.2.2.2.2.2.1 x.2.2.2.2.2.2.2.2.2.2.2.2.2.1 x.2.2.2.2.2.2.2.2.2.2.2.2.2.2.1 x.2.2.2.2.2.2.2.2.2.2.2.2.2.2.2) (fun x σ' => ∃ (b37 : Bk) (b44 : Bk), σ' = ⟨100, [(3, .ptr b1 0), (5, .ptr b8 0), (8, .ptr b11 0), (9, I x.2.2.2.2.2.2.2.2.2.2.2.2.2.2.1), (51, I v12.1), (52, I x.2.2.2.2.2.2.2.2.2.2.2.2.2.2.2)], [(b1, .cells [.list 1 (x.1.map I), I x.2.1]), (b8, .cells [I x.2.2.1, I x.2.2.2.1, I x.2.2.2.2.1, I x.2.2.2.2.2.1, .mref b37, I x.2.2.2.2.2.2.2.1]), (b37, .mp (x.2.2.2.2.2.2.1.map (fun e => (AV.str e.1, Note.av e.2)))), (b11, .cells [I x.2.2.2.2.2.2.2.2.1, I x.2.2.2.2.2.2.2.2.2.1, I x.2.2.2.2.2.2.2.2.2.2.1, I x.2.2.2.2.2.2.2.2.2.2.2.1, .sl 9 b44 0 x.2.2.2.2.2.2.2.2.2.2.2.2.1.length, I x.2.2.2.2.2.2.2.2.2.2.2.2.2.1]), (b44, .arr 9 (x.2.2.2.2.2.2.2.2.2.2.2.2.1.map Note.av))]⟩) h ?_ ?_
        · exact ImpX.arrBox (j := 4) 9 (fun _ => .p1) rfl (fun _ => rfl) (fun _ => rfl) fun b49 => ImpX.lq [1, 3, 3, 1, 0] ⟨b9, b49, rfl⟩ rfl rfl
        · intro x z1 σ' J1 hmk h hJ1 hA1
          obtain ⟨l31, n32, n33, n34, n35, n36, l38, n39, n40, n41, n42, n43, l45, n46, n47, n48⟩ := x
          obtain ⟨b37, b44, rfl⟩ := hmk
          replace h : L_OfficesKeep_b1 v12 l31 n32 n33 n34 n35 n36 l38 n39 n40 n41 n42 n43 l45 n46 n47 n48 = some z1 := h
          unfold L_OfficesKeep_b1 at h
          refine tSR <| ARun.qv (q_lss rfl rfl) rfl <| rN <| tS <| ATodo.cond_d rfl (fun hc => ?_) (fun hc => ?_)
          · refine have h := iteT hc h; tK <| tS <| ATodo.block <| tSR <| rM rfl rfl <| rM rfl rfl <| n_buildSliceL (xs := ([(0 : Int), (0 : Int), (1 : Int), (2 : Int), (5 : Int), (10 : Int)]).map I) rfl rfl rfl rfl rfl rfl <| bndE h fun v50 e5 h => t_call0 rfl (Stream_Pick_c e5) (CoL.refl _) (.cons .p0 .nil) rfl rfl <| ARun.qv (q_addw rfl rfl) rfl <| rA rfl rfl <| rN <| tSR <| rM rfl rfl <| rM rfl rfl <| n_buildSliceL (xs := ([([108, 97] : Str), ([108, 98] : Str), ([108, 99] : Str), ([108, 100] : Str), ([110, 111, 110, 101] : Str)]).map AV.str) rfl rfl rfl rfl rfl rfl <| bndE h fun v51 e6 h => t_call0 rfl (Stream_Some_c e6) (CoL.refl _) (.cons .p0 .nil) rfl rfl <| rA rfl rfl <| rA rfl rfl <| rN <| tS <| tSR <| rM rfl rfl <| bndE h fun v52 e7 h => t_call0 rfl (Stream_Flip_c e7) (CoL.refl _) (.cons .p0 .nil) rfl rfl <| rN <| ATodo.cut (fun σ' => ∃ (l53 : List Int) (n54 : Int) (n55 : Int), L_OfficesKeep_j5 n33 n34 n35 n36 l38 n39 n40 n41 n42 n43 l45 n46 n47 n48 v50 v51 l53 n54 n55 = some z1 ∧ σ' = ⟨100, [(3, .ptr b1 0), (5, .ptr b8 0), (8, .ptr b11 0), (9, I (w64 (n47 + v50.1))), (10, I n55), (11, .str v51.1), (51, I v12.1), (52, I n48)], [(b1, .cells [.list 1 (l53.map I), I n54]), (b8, .cells [I n33, I n34, I n35, I n36, .mref b37, I n39]), (b37, .mp (l38.map (fun e => (AV.str e.1, Note.av e.2)))), (b11, .cells [I n40, I n41, I n42, I n43, .sl 9 b44 0 l45.length, I n46]), (b44, .arr 9 (l45.map Note.av))]⟩) ?_ ?_
            · refine ATodo.cond rfl (fun hc => ?_) (fun hc => ?_)
              · exact have h := iteT hc h; tR <| rM rfl rfl <| rM rfl rfl <| ARun.qv (q_subw rfl rfl) rfl <| n_buildSliceL (xs := ([(-1 : Int), (345686400000 : Int), w64 ((w64 (n47 + v50.1)) - (1 : Int))]).map I) rfl rfl rfl rfl rfl rfl <| bndE h fun v56 e8 h => t_call0 rfl (Stream_Pick_c e8) (CoL.refl _) (.cons .p0 .nil) rfl rfl <| rA rfl rfl <| rN <| ATodo.stop <| ImpX.lq [0, 0, 0, 0, 0] ⟨v56.2.L, v56.2.at_, v56.1, h, rfl⟩ rfl rfl
              · exact have h := iteFb hc h; tK <| ATodo.stop <| ImpX.lq [0, 0, 0, 0, 0] ⟨v52.2.L, v52.2.at_, w64 (n47 + v50.1), h, rfl⟩ rfl rfl
            · rintro σ' ⟨l53, n54, n55, h, rfl⟩
              unfold L_OfficesKeep_j5 at h
              refine tS <| tSR <| rM rfl rfl <| rM rfl rfl <| rM rfl rfl <| rM rfl rfl <| rM rfl rfl <| bndE h fun v57 e9 h => t_call2 rfl (L_officeStep_c e9) (CoL.refl _) (.cons .p0 (.cons .p0 (.cons .p0 (.cons .p0 (.cons .p0 .nil))))) (fun _ _ => rfl) rfl fun b58 b59 => ARun.qv (q_not rfl) rfl <| rN <| ATodo.cond rfl (fun hc => ?_) (fun hc => ?_)
              · refine have h := iteT hc h; tSR <| rA rfl rfl <| rN <| ATodo.ret <| have h := outL h hA1; ?_
                obtain rfl := Option.some.inj h
                exact ImpX.here ⟨_, .cons (.tmp _ _ rfl) .nil, rfl⟩
              · refine have h := iteFb hc h; tK <| tSR <| rM rfl rfl <| rM rfl rfl <| bndE h fun v60 e10 h => t_call2 rfl (command_Office_Notes_c e10) (CoL.refl _) (.cons .p1 (.cons .p1 .nil)) (fun _ _ => rfl) rfl fun b61 b62 => rM rfl rfl <| rX rfl rfl rfl <| rX rfl rfl rfl <| rA rfl rfl <| rA rfl rfl <| rN <| tSR <| rM rfl rfl <| rM rfl rfl <| bndE h fun v63 e11 h => t_call2 rfl (Q_Desk_Notes_c e11) (CoL.refl _) (.cons .p4 (.cons .p4 .nil)) (fun _ _ => rfl) rfl fun b64 b65 => rM rfl rfl <| rX rfl rfl rfl <| rX rfl rfl rfl <| rA rfl rfl <| rA rfl rfl <| rN <| tS <| ATodo.cut (fun σ' => ∃ (c66 : Bool), L_OfficesKeep_j6 n47 n48 v50 v57 v60 v63 c66 = some z1 ∧ σ' = ⟨100, [(3, .ptr b1 0), (5, .ptr b8 0), (8, .ptr b11 0), (9, I (w64 (n47 + v50.1))), (51, I v12.1), (52, I n48), (97, .bool c66)], [(b1, .cells [.list 1 (v57.2.1.L.map I), I v57.2.1.at_]), (b8, .cells [I v60.2.2.post_.Room, I v60.2.2.post_.Timeout, I v60.2.2.post_.Tries, I v60.2.2.post_.Kept, .mref b61, I v60.2.2.time_]), (b61, .mp (v60.2.2.notes_.map (fun e => (AV.str e.1, Note.av e.2)))), (b11, .cells [I v63.2.2.P.Room, I v63.2.2.P.Timeout, I v63.2.2.P.Tries, I v63.2.2.P.Kept, .sl 9 b64 0 v63.2.2.L.length, I v63.2.2.time_]), (b64, .arr 9 (v63.2.2.L.map Note.av))]⟩) ?_ ?_
                · refine tR <| rM rfl rfl <| rM rfl rfl <| ARun.qv (q_neq rfl rfl) rfl <| rM rfl rfl <| ARun.guard_df rfl rfl rfl (fun hc => ?_) (fun hc => ?_)
                  · exact have h := iteF hc h; rM rfl rfl <| rY rfl rfl rfl <| rM rfl rfl <| rY rfl rfl rfl <| bndE h fun v67 e12 h => r_callpB rfl (slices_Equal_Note_Note_c e12) (.cons (CoB.arrT .p5) (.cons (CoB.arrT .p2) .nil)) rfl rfl <| rY rfl rfl rfl <| ARun.qv (q_not rfl) rfl <| rE rfl rfl rfl <| rN <| ATodo.stop <| ImpX.lq [6, 3, 3, 0, 0] ⟨!v67, h, rfl⟩ rfl rfl
                  · exact have h := iteT hc h; rG rfl rfl rfl rfl <| rG rfl rfl rfl rfl <| rG rfl rfl rfl rfl <| rT rfl rfl rfl <| rN <| ATodo.stop <| ImpX.lq [6, 3, 3, 0, 0] ⟨true, h, rfl⟩ rfl rfl
                · rintro σ' ⟨c66, h, rfl⟩
                  unfold L_OfficesKeep_j6 at h
                  refine ATodo.cond rfl (fun hc => ?_) (fun hc => ?_)
                  · refine have h := iteT hc h; tSR <| rA rfl rfl <| rN <| ATodo.ret <| have h := outL h hA1; ?_
                    obtain rfl := Option.some.inj h
                    exact ImpX.here ⟨_, .cons (.tmp _ _ rfl) .nil, rfl⟩
                  · refine have h := iteFb hc h; tK <| ATodo.blk <| tR <| ARun.qv (q_addw rfl rfl) rfl <| rM rfl rfl <| rN <| ATodo.stop <| ?_
                    obtain rfl := Option.some.inj h
                    exact hJ1 _ _ rfl <| ImpX.lq [0, 0, 0, 0, 0] ⟨b61, b64, rfl⟩ rfl rfl
          · refine have h := iteF hc h; ATodo.exit rfl <| have h := outL h hA1; ?_
            unfold L_OfficesKeep_k7 at h
            refine tSR <| bndE h fun v68 e13 h => r_callp rfl (L_posted_c e13) (CoL.refl _) rfl <| rA rfl rfl <| rN <| ATodo.ret <| ?_
            obtain rfl := Option.some.inj h
            exact ImpX.here ⟨_, .cons (.tmp _ _ rfl) .nil, rfl⟩

end Go.Proofs.YtibjdfdmkahocaaGreatDoor
