/- The code computes the plain functions: proofs written by shal.py. -/
import Derived.Test.YtfplpihogacmaaaFmeW1
set_option maxRecDepth 100000
set_option linter.unusedVariables false
set_option linter.unusedSimpArgs false
namespace Go.Proofs.Ytfplpihogacmaaa
open Go Go.Eng Go.Proofs Go.Beacon
attribute [local irreducible] ARun ATodo AQ QV ACall ImpX AWp AM
set_option maxHeartbeats 4000000 in
theorem Q_MeetOf_c {p0x0 : List Spot} {p1x0 : List Spot} {r : Bool} (h : Q_MeetOf p0x0 p1x0 = some r) : Pu Try.prog 46 [.list 2 (p0x0.map Spot.av), .list 2 (p1x0.map Spot.av)] (.bool r) := by
  unfold Q_MeetOf at h
  refine ACall.bodyN Try.func46 rfl Try.ntmps46 Try.results46 rfl rfl ?_
  refine tSR <| rA rfl rfl <| rN <| tS <| tSR <| rM rfl rfl <| ARun.qv (t_len rfl) rfl <| rM rfl rfl <| rN <| ATodo.block <| ATodo.loopI (fun x : Int => Q_MeetOf_b1 p0x0 p1x0 x) (fun x σ' => σ' = ⟨54, [(0, .list 2 (p0x0.map Spot.av)), (1, .list 2 (p1x0.map Spot.av)), (12, I (p0x0.length : Int)), (13, I x)], []⟩) h ?_ ?_
  · exact ImpX.lq [] rfl rfl rfl
  · intro n2 z1 σ' J1 hmk h hJ1 hA1
    obtain rfl := hmk
    replace h : Q_MeetOf_b1 p0x0 p1x0 n2 = some z1 := h
    unfold Q_MeetOf_b1 at h
    refine tSR <| ARun.qv (q_lss rfl rfl) rfl <| rN <| tS <| ATodo.cond_d rfl (fun hc => ?_) (fun hc => ?_)
    · refine have h := iteT hc h; tK <| tS <| ATodo.block <| tSR <| rM rfl rfl <| rA rfl rfl <| rN <| tSR <| rM rfl rfl <| rM rfl rfl <| bndE h fun v3 e1 h => r_callp rfl (Q_edge_c e1) (CoL.refl _) rfl <| rM rfl rfl <| rX rfl rfl rfl <| rX rfl rfl rfl <| n_alloc rfl rfl rfl rfl fun b4 => n_alloc rfl rfl rfl rfl fun b5 => n_store_ptr rfl rfl rfl rfl .p1 rfl rfl <| n_store_ptr rfl rfl rfl rfl .p0 rfl rfl <| rN <| tSR <| rM rfl rfl <| ARun.qv (t_len rfl) rfl <| rM rfl rfl <| rN <| ATodo.block <| ATodo.loopI (fun x : Int => Q_MeetOf_b2 p1x0 n2 v3 x) (fun x σ' => σ' = ⟨54, [(0, .list 2 (p0x0.map Spot.av)), (1, .list 2 (p1x0.map Spot.av)), (6, .ptr b4 0), (7, .ptr b5 0), (12, I (p0x0.length : Int)), (13, I n2), (23, I (p1x0.length : Int)), (24, I x)], [(b4, .cells [I v3.1.X, I v3.1.Y]), (b5, .cells [I v3.2.X, I v3.2.Y])]⟩) h ?_ ?_
      · exact ImpX.lq [1, 0] rfl rfl rfl
      · intro n7 z2 σ' J2 hmk h hJ2 hA2
        obtain rfl := hmk
        replace h : Q_MeetOf_b2 p1x0 n2 v3 n7 = some z2 := h
        unfold Q_MeetOf_b2 at h
        refine tSR <| ARun.qv (q_lss rfl rfl) rfl <| rN <| tS <| ATodo.cond_d rfl (fun hc => ?_) (fun hc => ?_)
        · refine have h := iteT hc h; tK <| tS <| ATodo.block <| tSR <| rM rfl rfl <| rA rfl rfl <| rN <| tSR <| rM rfl rfl <| rM rfl rfl <| bndE h fun v8 e2 h => r_callp rfl (Q_edge_c e2) (CoL.refl _) rfl <| rM rfl rfl <| rX rfl rfl rfl <| rX rfl rfl rfl <| n_alloc rfl rfl rfl rfl fun b9 => n_alloc rfl rfl rfl rfl fun b10 => n_store_ptr rfl rfl rfl rfl .p1 rfl rfl <| n_store_ptr rfl rfl rfl rfl .p0 rfl rfl <| rN <| tSR <| ARun.qv (q_load_ptr_all rfl rfl .p2 rfl) rfl <| ARun.qv (q_load_ptr_all rfl rfl .p3 rfl) rfl <| ARun.qv (q_load_ptr_all rfl rfl .p1 rfl) rfl <| ARun.qv (q_load_ptr_all rfl rfl .p0 rfl) rfl <| r_callp rfl (Q_touches_c rfl) (CoL.refl _) rfl <| rN <| ATodo.cond rfl (fun hc => ?_) (fun hc => ?_)
          · refine have h := iteT hc h; tSR <| rA rfl rfl <| rN <| ATodo.ret <| have h := outL h hA2; have h := outL h hA1; ?_
            obtain rfl := Option.some.inj h
            exact ImpX.here ⟨_, .cons (.tmp _ _ rfl) .nil, rfl⟩
          · refine have h := iteFb hc h; tK <| ATodo.blk <| tR <| ARun.qv (q_addw rfl rfl) rfl <| rM rfl rfl <| rN <| ATodo.stop <| ?_
            obtain rfl := Option.some.inj h
            exact hJ2 _ _ rfl <| ImpX.lq [2, 2] rfl rfl rfl
        · refine have h := iteF hc h; ATodo.exit rfl <| have h := outL h hA2; ATodo.blk <| tR <| ARun.qv (q_addw rfl rfl) rfl <| rM rfl rfl <| rN <| ATodo.stop <| ?_
          obtain rfl := Option.some.inj h
          exact hJ1 _ _ rfl <| ImpX.lq [] rfl rfl rfl
    · refine have h := iteF hc h; ATodo.exit rfl <| have h := outL h hA1; ?_
      unfold Q_MeetOf_k2 at h
      refine tS <| ATodo.cut (fun σ' => ∃ (c11 : Bool), Q_MeetOf_j1 c11 = some r ∧ σ' = ⟨54, [(4, .bool c11)], []⟩) ?_ ?_
      · refine tR <| rM rfl rfl <| rM rfl rfl <| bndE h fun v12 e3 h => ARun.qv (t_index rfl rfl rfl e3 rfl rfl) rfl <| ARun.qv (q_load_rptr_agg rfl rfl rfl) rfl <| bndE h fun v13 e4 h => r_callp rfl (Q_WhereOf_c e4) (CoL.refl _) rfl <| ARun.qv (q_neq rfl rfl) rfl <| rM rfl rfl <| ARun.guard_df rfl rfl rfl (fun hc => ?_) (fun hc => ?_)
        · exact have h := iteF hc h; rM rfl rfl <| rY rfl rfl rfl <| rM rfl rfl <| rY rfl rfl rfl <| bndE h fun v14 e5 h => ARun.qv (t_index rfl rfl rfl e5 rfl rfl) rfl <| rY rfl rfl rfl <| ARun.qv (q_load_rptr_agg rfl rfl rfl) rfl <| rY rfl rfl rfl <| bndE h fun v15 e6 h => r_callp rfl (Q_WhereOf_c e6) (CoL.refl _) rfl <| rY rfl rfl rfl <| ARun.qv (q_neq rfl rfl) rfl <| rE rfl rfl rfl <| rA rfl rfl <| rN <| ATodo.stop <| ImpX.lq [] ⟨decide (v15 ≠ (0 : Int)), h, rfl⟩ rfl rfl
        · exact have h := iteT hc h; rG rfl rfl rfl rfl <| rG rfl rfl rfl rfl <| rG rfl rfl rfl rfl <| rG rfl rfl rfl rfl <| rG rfl rfl rfl rfl <| rT rfl rfl rfl <| rA rfl rfl <| rN <| ATodo.stop <| ImpX.lq [] ⟨true, h, rfl⟩ rfl rfl
      · rintro σ' ⟨c11, h, rfl⟩
        unfold Q_MeetOf_j1 at h
        refine ATodo.ret <| ?_
        obtain rfl := Option.some.inj h
        exact ImpX.here ⟨_, .cons (.tmp _ _ rfl) .nil, rfl⟩

set_option maxHeartbeats 4000000 in
theorem slices_Equal_Spot_Spot_c {p0x0 : List Spot} {p1x0 : List Spot} {r : Bool} (h : slices_Equal_Spot_Spot p0x0 p1x0 = some r) : Pu Try.prog 47 [.list 2 (p0x0.map Spot.av), .list 2 (p1x0.map Spot.av)] (.bool r) := by
  unfold slices_Equal_Spot_Spot at h
  refine ACall.bodyN Try.func47 rfl Try.ntmps47 Try.results47 rfl rfl ?_
  refine tSR <| rA rfl rfl <| rN <| tS <| tSR <| rM rfl rfl <| ARun.qv (t_len rfl) rfl <| rM rfl rfl <| ARun.qv (t_len rfl) rfl <| ARun.qv (q_neq rfl rfl) rfl <| rN <| ATodo.cond_d rfl (fun hc => ?_) (fun hc => ?_)
  · refine have h := iteT hc h; tSR <| rA rfl rfl <| rN <| ATodo.ret <| ?_
    obtain rfl := Option.some.inj h
    exact ImpX.here ⟨_, .cons (.tmp _ _ rfl) .nil, rfl⟩
  · refine have h := iteF hc h; tK <| tS <| tSR <| rM rfl rfl <| ARun.qv (t_len rfl) rfl <| rM rfl rfl <| rN <| ATodo.block <| ATodo.loopI (fun x : Int => slices_Equal_Spot_Spot_b1 p0x0 p1x0 x) (fun x σ' => σ' = ⟨26, [(0, .list 2 (p0x0.map Spot.av)), (1, .list 2 (p1x0.map Spot.av)), (12, I (p0x0.length : Int)), (13, I x)], []⟩) h ?_ ?_
    · exact ImpX.lq [] rfl rfl rfl
    · intro n2 z1 σ' J1 hmk h hJ1 hA1
      obtain rfl := hmk
      replace h : slices_Equal_Spot_Spot_b1 p0x0 p1x0 n2 = some z1 := h
      unfold slices_Equal_Spot_Spot_b1 at h
      refine tSR <| ARun.qv (q_lss rfl rfl) rfl <| rN <| tS <| ATodo.cond_d rfl (fun hc => ?_) (fun hc => ?_)
      · refine have h := iteT hc h; tK <| tS <| ATodo.block <| tSR <| rM rfl rfl <| rA rfl rfl <| rN <| tS <| ATodo.regionM (id := 6) (A := [0, 0, 3, 7, 0, 0, 48, 112, 255]) 9 mixed rfl (by kernel_rfl) (by kernel_rfl) <| AM.qv (q_move rfl) rfl <| AM.qv (q_move rfl) rfl <| bndE h fun v3 e1 h => AM.qv (t_index rfl rfl rfl e1 rfl rfl) rfl <| AM.qv (q_load_rptr_agg rfl rfl rfl) rfl <| AM.qv (q_move rfl) rfl <| AM.qv (q_move rfl) rfl <| bndE h fun v4 e2 h => AM.qv (t_index rfl rfl rfl e2 rfl rfl) rfl <| AM.qv (q_load_rptr_agg rfl rfl rfl) rfl <| AM.qv (t_tne (g := Spot.av) (X := v3) (Y := v4) rfl rfl rfl rfl rfl) rfl <| AM.nil <| rN <| ATodo.cond_d rfl (fun hc => ?_) (fun hc => ?_)
        · refine have h := iteT hc h; tSR <| rA rfl rfl <| rN <| ATodo.ret <| have h := outL h hA1; ?_
          obtain rfl := Option.some.inj h
          exact ImpX.here ⟨_, .cons (.tmp _ _ rfl) .nil, rfl⟩
        · refine have h := iteF hc h; tK <| ATodo.blk <| tR <| ARun.qv (q_addw rfl rfl) rfl <| rM rfl rfl <| rN <| ATodo.stop <| ?_
          obtain rfl := Option.some.inj h
          exact hJ1 _ _ rfl <| ImpX.lq [] rfl rfl rfl
      · refine have h := iteF hc h; ATodo.exit rfl <| have h := outL h hA1; tSR <| rA rfl rfl <| rN <| ATodo.ret <| ?_
        obtain rfl := Option.some.inj h
        exact ImpX.here ⟨_, .cons (.tmp _ _ rfl) .nil, rfl⟩

set_option maxHeartbeats 4000000 in
theorem place_Cell_c {p0x0 : Spot} {p1x0 : Int} {r : Str × Int} (h : place_Cell p0x0 p1x0 = some r) : Pu Try.prog 82 [.agg [I p0x0.X, I p0x0.Y], I p1x0] (.tup [.str r.1, I r.2]) := by
  unfold place_Cell at h
  refine ACall.bodyN Try.func82 rfl Try.ntmps82 Try.results82 rfl rfl ?_
  refine tSR <| n_box rfl rfl rfl rfl fun b1 => rA rfl rfl <| rA rfl rfl <| rN <| tS <| tS <| ATodo.cut (fun σ' => ∃ (c2 : Bool), place_Cell_j1 p0x0 p1x0 c2 = some r ∧ σ' = ⟨47, [(1, I p1x0), (2, .ptr b1 0), (16, .bool c2)], [(b1, .cells [I p0x0.X, I p0x0.Y])]⟩) ?_ ?_
  · refine tR <| ARun.qv (q_load_ptr_all rfl rfl .p0 rfl) rfl <| r_callp rfl (place_isSpot_c rfl) (CoL.refl _) rfl <| ARun.qv (q_not rfl) rfl <| rM rfl rfl <| ARun.guard rfl rfl rfl (fun hc => ?_) (fun hc => ?_)
    · rw [orFb hc] at h
      exact rM rfl rfl <| rY rfl rfl rfl <| r_callp rfl (base_Out_c rfl) (CoL.refl _) rfl <| rE rfl rfl rfl <| rN <| ATodo.stop <| ImpX.lq [0] ⟨(base_Out p1x0 (0 : Int) (15 : Int)), h, rfl⟩ rfl rfl
    · rw [orTb hc] at h
      exact rG rfl rfl rfl rfl <| rT rfl rfl rfl <| rN <| ATodo.stop <| ImpX.lq [0] ⟨true, h, rfl⟩ rfl rfl
  · rintro σ' ⟨c2, h, rfl⟩
    unfold place_Cell_j1 at h
    refine ATodo.cond rfl (fun hc => ?_) (fun hc => ?_)
    · refine have h := iteT hc h; tSR <| rA rfl rfl <| rA rfl rfl <| rN <| ATodo.ret <| ?_
      obtain rfl := Option.some.inj h
      exact ImpX.here ⟨_, .cons (.tmp _ _ rfl) (.cons (.tmp _ _ rfl) .nil), rfl⟩
    · refine have h := iteFb hc h; tK <| tSR <| rA rfl rfl <| rN <| tS <| ATodo.regionM (id := 4) (A := [0, 1, 3, 0, 8, 24, 7, 127, 255]) 9 mixed rfl (by kernel_rfl) (by kernel_rfl) <| AM.qv (n_field_ptr rfl rfl) rfl <| AM.qv (q_load_ptr rfl rfl .p0 rfl) rfl <| AM.qv (q_subw rfl rfl) rfl <| AM.qv (n_field_ptr rfl rfl) rfl <| AM.qv (q_load_ptr rfl rfl .p0 rfl) rfl <| AM.qv (q_subw rfl rfl) rfl <| AM.qv (q_assign rfl) rfl <| AM.qv (q_assign rfl) rfl <| AM.qv (q_assign rfl) rfl <| AM.nil <| rN <| tS <| tSR <| rM rfl rfl <| rM rfl rfl <| rN <| ATodo.block <| ATodo.loopI (fun x : (List Int) × Int × Int => place_Cell_b1 p0x0 p1x0 x.1 x.2.1 x.2.2) (fun x σ' => ∃ (b7 : Bk), σ' = ⟨47, [(6, .sl 1 b7 0 x.1.length), (7, I (w64 (p0x0.X - (-16384 : Int)))), (8, I (w64 (p0x0.Y - (-16384 : Int)))), (9, I x.2.1), (23, I p1x0), (24, I x.2.2)], [(b7, .arr 1 (x.1.map (AV.int .u8)))]⟩) h ?_ ?_
      · exact ImpX.arr (s := 6) 1 rfl fun b11 => ImpX.lq [0] ⟨b11, rfl⟩ rfl rfl
      · intro x z1 σ' J1 hmk h hJ1 hA1
        obtain ⟨l8, n9, n10⟩ := x
        obtain ⟨b7, rfl⟩ := hmk
        replace h : place_Cell_b1 p0x0 p1x0 l8 n9 n10 = some z1 := h
        unfold place_Cell_b1 at h
        refine tSR <| ARun.qv (q_lss rfl rfl) rfl <| rN <| tS <| ATodo.cond_d rfl (fun hc => ?_) (fun hc => ?_)
        · refine have h := iteT hc h; tK <| tS <| ATodo.block <| tSR <| rM rfl rfl <| ARun.qv (t_quo rfl rfl (by decide)) rfl <| rA rfl rfl <| rN <| ATodo.regionM (id := 8) (A := [0, 0, 0, 6, 14, 30, 62, 0, 0, 384, 896, 1920, 3968, 8190, 16382, 32767, 65535]) 15 mixed rfl (by kernel_rfl) (by kernel_rfl) <| AM.qv (q_move rfl) rfl <| AM.qv (q_move rfl) rfl <| AM.qv (q_move rfl) rfl <| bndE h fun n12 e1 h => AM.qv (t_quoS rfl rfl e1) rfl <| AM.qv (q_rem rfl rfl (by decide)) rfl <| AM.qv (q_conv_int rfl) rfl <| AM.qv (q_addw rfl rfl) rfl <| AM.qv (q_move rfl) rfl <| AM.qv (q_move rfl) rfl <| bndE h fun n13 e2 h => AM.qv (t_quoS rfl rfl e2) rfl <| AM.qv (q_rem rfl rfl (by decide)) rfl <| AM.qv (q_conv_int rfl) rfl <| AM.qv (q_mulw rfl rfl) rfl <| AM.qv (q_addw rfl rfl) rfl <| AM.buildSliceL (xs := ([IntKind.u8.wrap ((IntKind.u8.wrap ((48 : Int) + (IntKind.u8.wrap (n12.tmod (2 : Int))))) + (IntKind.u8.wrap ((2 : Int) * (IntKind.u8.wrap (n13.tmod (2 : Int))))))]).map (AV.int .u8)) rfl rfl rfl rfl rfl rfl <| AM.nil <| bndE h fun l14 e3 h => t_append (g := (AV.int .u8)) rfl rfl rfl rfl rfl rfl rfl rfl (.list _) e3 (fun _ => .p0) rfl fun b15 => rA rfl rfl <| rN <| ATodo.blk <| tR <| ARun.qv (q_addw rfl rfl) rfl <| rM rfl rfl <| rN <| ATodo.stop <| ?_
          obtain rfl := Option.some.inj h
          exact hJ1 _ _ rfl <| ImpX.lq [0] ⟨b15, rfl⟩ rfl rfl
        · refine have h := iteF hc h; ATodo.exit rfl <| have h := outL h hA1; tSR <| rM rfl rfl <| ARun.qv (q_conv_bs rfl (CoB.arrT .p0)) rfl <| rA rfl rfl <| rA rfl rfl <| rN <| ATodo.ret <| ?_
          obtain rfl := Option.some.inj h
          exact ImpX.here ⟨_, .cons (.tmp _ _ rfl) (.cons (.tmp _ _ rfl) .nil), rfl⟩

set_option maxHeartbeats 4000000 in
theorem L_placed_c {r : Bool} (h : L_placed = some r) : Pu Try.prog 32 [] (.bool r) := by
  unfold L_placed at h
  refine ACall.bodyN Try.func32 rfl Try.ntmps32 Try.results32 rfl rfl ?_
  refine tSR <| rA rfl rfl <| rN <| tSR <| ARun.qv (n_build rfl rfl rfl rfl rfl) rfl <| bndE h fun v1 e1 h => r_callp rfl (place_Cell_c e1) (CoL.refl _) rfl <| rM rfl rfl <| rX rfl rfl rfl <| rX rfl rfl rfl <| rA rfl rfl <| rA rfl rfl <| rN <| tS <| ATodo.cut (fun σ' => ∃ (c2 : Bool), L_placed_j1 c2 = some r ∧ σ' = ⟨14, [(0, .bool c2)], []⟩) ?_ ?_
  · refine tR <| rM rfl rfl <| ARun.qv (q_eql rfl rfl) rfl <| rM rfl rfl <| ARun.guard_dt rfl rfl rfl (fun hc => ?_) (fun hc => ?_)
    · rw [andTd hc] at h
      exact rM rfl rfl <| rY rfl rfl rfl <| ARun.qv (q_seq rfl rfl) rfl <| rT rfl rfl rfl <| rA rfl rfl <| rN <| ATodo.stop <| ImpX.lq [] ⟨decide (v1.1 = ([51] : Str)), h, rfl⟩ rfl rfl
    · rw [andFd hc] at h
      exact rG rfl rfl rfl rfl <| rE rfl rfl rfl <| rA rfl rfl <| rN <| ATodo.stop <| ImpX.lq [] ⟨false, h, rfl⟩ rfl rfl
  · rintro σ' ⟨c2, h, rfl⟩
    unfold L_placed_j1 at h
    refine ATodo.ret <| ?_
    obtain rfl := Option.some.inj h
    exact ImpX.here ⟨_, .cons (.tmp _ _ rfl) .nil, rfl⟩

set_option maxHeartbeats 4000000 in
theorem L_FencesMeet_c {p0x0 : List Int} {r : Bool} (h : L_FencesMeet p0x0 = some r) : Pu Try.prog 6 [.list 1 (p0x0.map I)] (.bool r) := by
  unfold L_FencesMeet at h
  refine ACall.bodyN Try.func6 rfl Try.ntmps6 Try.results6 rfl rfl ?_
  refine tSR <| rA rfl rfl <| rN <| tSR <| rM rfl rfl <| ARun.qv (n_build rfl rfl rfl rfl rfl) rfl <| n_box rfl rfl rfl rfl fun b1 => rA rfl rfl <| rN <| tSR <| rM rfl rfl <| bndE h fun v2 e1 h => t_call0 rfl (Stream_Fence_c e1) (CoL.refl _) (.cons .p0 .nil) rfl rfl <| rM rfl rfl <| bndE h fun v3 e2 h => t_call0 rfl (Stream_Fence_c e2) (CoL.refl _) (.cons .p0 .nil) rfl rfl <| n_alloc rfl rfl rfl rfl fun b4 => n_alloc rfl rfl rfl rfl fun b5 => n_store_ptr rfl rfl rfl rfl .p1 rfl rfl <| n_store_ptr rfl rfl rfl rfl .p0 rfl rfl <| rN <| tSR <| rM rfl rfl <| n_buildSliceL (xs := ([(0 : Int), (0 : Int), (5 : Int), (10 : Int), (11 : Int), (-3 : Int), (40 : Int)]).map I) rfl rfl rfl rfl rfl rfl <| bndE h fun v6 e3 h => t_call0 rfl (Stream_Pick_c e3) (CoL.refl _) (.cons .p2 .nil) rfl rfl <| rM rfl rfl <| n_buildSliceL (xs := ([(0 : Int), (0 : Int), (5 : Int), (10 : Int), (11 : Int)]).map I) rfl rfl rfl rfl rfl rfl <| bndE h fun v7 e4 h => t_call0 rfl (Stream_Pick_c e4) (CoL.refl _) (.cons .p0 .nil) rfl rfl <| ARun.qv (n_build rfl rfl rfl rfl rfl) rfl <| n_alloc rfl rfl rfl rfl fun b8 => n_store_ptr rfl rfl rfl rfl .p0 rfl rfl <| rN <| tSR <| rF rfl rfl rfl <| rL rfl rfl .p2 rfl rfl <| bndE h fun v9 e5 h => t_call1 rfl (slices_Clone_Spot_Spot_c e5) (CoL.refl _) .nil (fun _ => rfl) rfl fun b10 => rF rfl rfl rfl <| n_store_ptr rfl rfl rfl rfl .p3 rfl rfl <| rN <| tS <| tSR <| rF rfl rfl rfl <| rL rfl rfl .p3 rfl rfl <| ARun.qv (t_len_sl rfl) rfl <| rM rfl rfl <| rN <| ATodo.block <| ATodo.loopI (fun x : (List Spot) × Int => L_FencesMeet_b1 v2 v3 v6 v7 v9 x.1 x.2) (fun x σ' => σ' = ⟨137, [(3, .ptr b1 0), (4, .ptr b4 0), (5, .ptr b5 0), (6, .ptr b8 0), (38, I (v9.length : Int)), (39, I x.2)], [(b1, .cells [.list 1 (v7.2.L.map I), I v7.2.at_]), (b4, .cells [.str v2.1.Key, .list 2 (v2.1.Corners.map Spot.av)]), (b5, .cells [.str v3.1.Key, .sl 2 b10 0 x.1.length]), (b10, .arr 2 (x.1.map Spot.av)), (b8, .cells [I v6.1, I v7.1])]⟩) h ?_ ?_
  · exact ImpX.lq [2, 3, 2, 0, 0] rfl rfl rfl
  · intro x z1 σ' J1 hmk h hJ1 hA1
    obtain ⟨l13, n14⟩ := x
    obtain rfl := hmk
    replace h : L_FencesMeet_b1 v2 v3 v6 v7 v9 l13 n14 = some z1 := h
    unfold L_FencesMeet_b1 at h
    refine tSR <| ARun.qv (q_lss rfl rfl) rfl <| rN <| tS <| ATodo.cond_d rfl (fun hc => ?_) (fun hc => ?_)
    · refine have h := iteT hc h; tK <| tS <| ATodo.block <| tSR <| rM rfl rfl <| rA rfl rfl <| rN <| tS <| ATodo.regionM (id := 8) (A := [0, 1, 0, 7, 15, 31, 0, 64, 255, 511, 1023, 2047]) 11 mixed rfl (by kernel_rfl) (by kernel_rfl) <| AM.qv (n_field_ptr rfl rfl) rfl <| AM.qv (q_load_ptr rfl rfl .p2 rfl) rfl <| AM.qv (q_move rfl) rfl <| bndE h fun v15 e6 h => AM.qv (t_index_sl rfl rfl rfl e6) rfl <| AM.qv (t_field_aptr rfl rfl) rfl <| AM.qv (t_load_aptr (g := Spot.av) rfl rfl (.inl .p3) e6 rfl) rfl <| AM.qv (n_field_ptr rfl rfl) rfl <| AM.qv (q_load_ptr rfl rfl .p4 rfl) rfl <| AM.qv (q_addw rfl rfl) rfl <| bndE h fun v16 e7 h => AM.qv (t_index_sl rfl rfl rfl e7) rfl <| AM.qv (t_field_aptr rfl rfl) rfl <| AM.nil <| t_store_aptr1 (g := Spot.av) (el' := (⟨w64 (v15.X + v6.1), v16.Y⟩ : Spot)) rfl rfl rfl rfl e7 rfl .p3 rfl <| ARun.ghost <| ImpX.eqs (s := 43) (av' := .sl 2 b10 0 (l13.set n14.toNat (⟨w64 (v15.X + v6.1), v16.Y⟩ : Spot)).length) rfl (by rw [List.length_set]) <| ImpX.here <| ARun.ghost <| ImpX.eqBox (j := 1) (av' := .sl 2 b10 0 (l13.set n14.toNat (⟨w64 (v15.X + v6.1), v16.Y⟩ : Spot)).length) .p2 rfl (by rw [List.length_set]) rfl <| ImpX.here <| rN <| ATodo.regionM (id := 9) (A := [0, 1, 0, 7, 15, 31, 0, 64, 255, 511, 1023, 2047]) 11 mixed rfl (by kernel_rfl) (by kernel_rfl) <| AM.qv (n_field_ptr rfl rfl) rfl <| AM.qv (q_load_ptr rfl rfl .p2 rfl) rfl <| AM.qv (q_move rfl) rfl <| bndE h fun v17 e8 h => AM.qv (t_index_sl rfl rfl rfl e8) rfl <| AM.qv (t_field_aptr rfl rfl) rfl <| AM.qv (t_load_aptr (g := Spot.av) rfl rfl (.inl .p3) e8 rfl) rfl <| AM.qv (n_field_ptr rfl rfl) rfl <| AM.qv (q_load_ptr rfl rfl .p4 rfl) rfl <| AM.qv (q_addw rfl rfl) rfl <| bndE h fun v18 e9 h => AM.qv (t_index_sl rfl rfl rfl e9) rfl <| AM.qv (t_field_aptr rfl rfl) rfl <| AM.nil <| t_store_aptr1 (g := Spot.av) (el' := (⟨v18.X, w64 (v17.Y + v7.1)⟩ : Spot)) rfl rfl rfl rfl e9 rfl .p3 rfl <| ARun.ghost <| ImpX.eqs (s := 43) (av' := .sl 2 b10 0 ((l13.set n14.toNat (⟨w64 (v15.X + v6.1), v16.Y⟩ : Spot)).set n14.toNat (⟨v18.X, w64 (v17.Y + v7.1)⟩ : Spot)).length) rfl (by rw [List.length_set]) <| ImpX.here <| ARun.ghost <| ImpX.eqs (s := 54) (av' := .sl 2 b10 0 ((l13.set n14.toNat (⟨w64 (v15.X + v6.1), v16.Y⟩ : Spot)).set n14.toNat (⟨v18.X, w64 (v17.Y + v7.1)⟩ : Spot)).length) rfl (by rw [List.length_set]) <| ImpX.here <| ARun.ghost <| ImpX.eqBox (j := 1) (av' := .sl 2 b10 0 ((l13.set n14.toNat (⟨w64 (v15.X + v6.1), v16.Y⟩ : Spot)).set n14.toNat (⟨v18.X, w64 (v17.Y + v7.1)⟩ : Spot)).length) .p2 rfl (by rw [List.length_set]) rfl <| ImpX.here <| rN <| ATodo.blk <| tR <| ARun.qv (q_addw rfl rfl) rfl <| rM rfl rfl <| rN <| ATodo.stop <| ?_
      obtain rfl := Option.some.inj h
      exact hJ1 _ _ rfl <| ImpX.lq [0, 0, 0, 0, 0] rfl rfl rfl
    · refine have h := iteF hc h; ATodo.exit rfl <| have h := outL h hA1; ?_
      unfold L_FencesMeet_k5 at h
      refine tSR <| rA rfl rfl <| rN <| tS <| tSR <| rM rfl rfl <| bndE h fun v19 e10 h => t_call0 rfl (Stream_Range_c e10) (CoL.refl _) (.cons .p0 .nil) rfl rfl <| rM rfl rfl <| rN <| ATodo.block <| ATodo.loopI (fun x : (List Int) × Int × (List Spot) × Int => L_FencesMeet_b2 v2 v3 l13 v19 x.1 x.2.1 x.2.2.1 x.2.2.2) (fun x σ' => ∃ (b27 : Bk), σ' = ⟨137, [(3, .ptr b1 0), (4, .ptr b4 0), (5, .ptr b5 0), (8, .sl 2 b27 0 x.2.2.1.length), (66, I v19.1), (67, I x.2.2.2)], [(b1, .cells [.list 1 (x.1.map I), I x.2.1]), (b4, .cells [.str v2.1.Key, .list 2 (v2.1.Corners.map Spot.av)]), (b5, .cells [.str v3.1.Key, .sl 2 b10 0 l13.length]), (b10, .arr 2 (l13.map Spot.av)), (b27, .arr 2 (x.2.2.1.map Spot.av))]⟩) h ?_ ?_
      · exact ImpX.arr (s := 8) 2 rfl fun b30 => ImpX.lq [1, 1, 1, 1, 0] ⟨b30, rfl⟩ rfl rfl
      · intro x z2 σ' J2 hmk h hJ2 hA2
        obtain ⟨l25, n26, l28, n29⟩ := x
        obtain ⟨b27, rfl⟩ := hmk
        replace h : L_FencesMeet_b2 v2 v3 l13 v19 l25 n26 l28 n29 = some z2 := h
        unfold L_FencesMeet_b2 at h
        refine tSR <| ARun.qv (q_lss rfl rfl) rfl <| rN <| tS <| ATodo.cond_d rfl (fun hc => ?_) (fun hc => ?_)
        · refine have h := iteT hc h; tK <| tS <| ATodo.block <| tR <| rM rfl rfl <| rM rfl rfl <| bndE h fun v31 e11 h => t_call0 rfl (Stream_Spot_c e11) (CoL.refl _) (.cons .p0 .nil) rfl rfl <| n_buildSliceL (xs := ([v31.1] : List Spot).map Spot.av) rfl rfl rfl rfl rfl rfl <| bndE h fun l32 e12 h => t_append (g := Spot.av) rfl rfl rfl rfl rfl rfl rfl rfl (.list _) e12 (fun _ => .p4) rfl fun b33 => rA rfl rfl <| rN <| ATodo.blk <| tR <| ARun.qv (q_addw rfl rfl) rfl <| rM rfl rfl <| rN <| ATodo.stop <| ?_
          obtain rfl := Option.some.inj h
          exact hJ2 _ _ rfl <| ImpX.lq [0, 0, 0, 0, 0] ⟨b33, rfl⟩ rfl rfl
        · refine have h := iteF hc h; ATodo.exit rfl <| have h := outL h hA2; ?_
          unfold L_FencesMeet_k4 at h
          refine tSR <| ARun.qv (q_load_ptr_all rfl rfl .p1 rfl) rfl <| ARun.qv (q_load_ptr_all rfl rfl .p2 rfl) rfl <| bndE h fun v34 e13 h => r_callpB rfl (place_Meet_c e13) (.cons (.co (.refl _)) (.cons (CoB.aggL (.cons (.co (.refl _)) (.cons (CoB.arrT .p3) .nil))) .nil)) rfl rfl <| rM rfl rfl <| rX rfl rfl rfl <| rX rfl rfl rfl <| rA rfl rfl <| rA rfl rfl <| rN <| tSR <| rM rfl rfl <| bndE h fun v35 e14 h => t_callL1 rfl (place_Hull_c e14) .nil (.cons (CoB.arrT .p4) .nil) (fun _ => rfl) (fun _ => rfl) (fun _ => (.cons (NoS.arrT (fun _ => rfl)) .nil)) rfl fun b36 => rM rfl rfl <| rX rfl rfl rfl <| rX rfl rfl rfl <| rA rfl rfl <| rA rfl rfl <| rN <| tS <| ATodo.regionM (id := 18) (A := [0, 1, 0, 7, 15, 31, 63]) 7 mixed rfl (by kernel_rfl) (by kernel_rfl) <| AM.qv (q_load_ptr_all rfl rfl .p2 rfl) rfl <| bndE h fun v37 e15 h => AM.callp rfl (Q_FenceFault_c e15) (CoL.refl _) rfl <| AM.qv (q_load_ptr_all rfl rfl .p3 rfl) rfl <| bndE h fun v38 e16 h => AM.callpB rfl (Q_FenceFault_c e16) (.cons (CoB.aggL (.cons (.co (.refl _)) (.cons (CoB.arrT .p4) .nil))) .nil) rfl rfl <| AM.buildSliceL (xs := ([v37, v38] : List Int).map I) rfl rfl rfl rfl rfl rfl <| bndE h fun v39 e17 h => AM.callp rfl (L_errs_c e17) (CoL.refl _) rfl <| AM.qv (q_assign rfl) rfl <| AM.nil <| rN <| tSR <| rA rfl rfl <| rN <| tS <| tSR <| rM rfl rfl <| ARun.qv (t_len_sl rfl) rfl <| rM rfl rfl <| rN <| ATodo.block <| ATodo.loopI (fun x : Int × Int => L_FencesMeet_b3 v2 l13 l28 v34 v35 v39 x.1 x.2) (fun x σ' => σ' = ⟨137, [(4, .ptr b4 0), (5, .ptr b5 0), (8, .sl 2 b27 0 l28.length), (9, .bool v34.1), (10, I v34.2), (11, .sl 2 b36 0 v35.1.length), (12, I v35.2), (13, I v39), (14, I x.1), (92, .sl 2 b27 0 l28.length), (93, I (l28.length : Int)), (94, I x.2)], [(b4, .cells [.str v2.1.Key, .list 2 (v2.1.Corners.map Spot.av)]), (b5, .cells [.str v3.1.Key, .sl 2 b10 0 l13.length]), (b10, .arr 2 (l13.map Spot.av)), (b27, .arr 2 (l28.map Spot.av)), (b36, .arr 2 (v35.1.map Spot.av))]⟩) h ?_ ?_
          · exact ImpX.lq [2, 2, 2, 2, 0] rfl rfl rfl
          · intro x z3 σ' J3 hmk h hJ3 hA3
            obtain ⟨n42, n43⟩ := x
            obtain rfl := hmk
            replace h : L_FencesMeet_b3 v2 l13 l28 v34 v35 v39 n42 n43 = some z3 := h
            unfold L_FencesMeet_b3 at h
            refine tSR <| ARun.qv (q_lss rfl rfl) rfl <| rN <| tS <| ATodo.cond_d rfl (fun hc => ?_) (fun hc => ?_)
            · refine have h := iteT hc h; tK <| tS <| ATodo.block <| tSR <| bndE h fun v44 e18 h => ARun.qv (t_index_sl rfl rfl rfl e18) rfl <| ARun.qv (t_load_aptr_agg (g := Spot.av) rfl rfl (.inl .p3) rfl e18 rfl) rfl <| n_alloc rfl rfl rfl rfl fun b45 => n_store_ptr rfl rfl rfl rfl .p0 rfl rfl <| rN <| tR <| rM rfl rfl <| ARun.qv (q_load_ptr_all rfl rfl .p0 rfl) rfl <| r_callp rfl (Q_SpotFault_c rfl) (CoL.refl _) rfl <| n_buildSliceL (xs := ([n42, (Q_SpotFault v44)] : List Int).map I) rfl rfl rfl rfl rfl rfl <| bndE h fun v46 e19 h => r_callp rfl (L_errs_c e19) (CoL.refl _) rfl <| rA rfl rfl <| rN <| ATodo.blk <| tR <| ARun.qv (q_addw rfl rfl) rfl <| rM rfl rfl <| rN <| ATodo.stop <| ?_
              obtain rfl := Option.some.inj h
              exact hJ3 _ _ rfl <| ImpX.lq [1, 1, 1, 1, 1] rfl rfl rfl
            · refine have h := iteF hc h; ATodo.exit rfl <| have h := outL h hA3; ?_
              unfold L_FencesMeet_k3 at h
              refine tSR <| rA rfl rfl <| rN <| tS <| tSR <| rM rfl rfl <| ARun.qv (q_eql rfl rfl) rfl <| rN <| ATodo.cut (fun σ' => ∃ (l47 : List Spot), L_FencesMeet_j1 v2 l13 v34 v35 v39 n42 l47 = some r ∧ σ' = ⟨137, [(4, .ptr b4 0), (5, .ptr b5 0), (9, .bool v34.1), (10, I v34.2), (11, .sl 2 b36 0 v35.1.length), (12, I v35.2), (13, I v39), (14, I n42), (17, .list 2 (l47.map Spot.av))], [(b4, .cells [.str v2.1.Key, .list 2 (v2.1.Corners.map Spot.av)]), (b5, .cells [.str v3.1.Key, .sl 2 b10 0 l13.length]), (b10, .arr 2 (l13.map Spot.av)), (b36, .arr 2 (v35.1.map Spot.av))]⟩) ?_ ?_
              · refine ATodo.cond_d rfl (fun hc => ?_) (fun hc => ?_)
                · exact have h := iteT hc h; tR <| rM rfl rfl <| bndE h fun v48 e20 h => ARun.ghost <| ImpX.freeze .p3 <| ImpX.here <| r_callp rfl (Q_HullOf_c e20) (.cons (Co.froT .p3) .nil) rfl <| rA rfl rfl <| rN <| ATodo.stop <| ImpX.lq [0, 0, 0, 1] ⟨v48, h, rfl⟩ rfl rfl
                · exact have h := iteF hc h; tK <| ATodo.stop <| ImpX.co (s := 17) rfl (.nil 2) <| ImpX.lq [0, 0, 0, 1] ⟨[], h, rfl⟩ rfl rfl
              · rintro σ' ⟨l47, h, rfl⟩
                unfold L_FencesMeet_j1 at h
                refine tS <| ATodo.cut (fun σ' => ∃ (c49 : Bool), L_FencesMeet_j2 c49 = some r ∧ σ' = ⟨137, [(2, .bool c49)], []⟩) ?_ ?_
                · refine tR <| rM rfl rfl <| rM rfl rfl <| ARun.qv (q_eql rfl rfl) rfl <| rM rfl rfl <| ARun.guard_dt rfl rfl rfl (fun hc => ?_) (fun hc => ?_)
                  · refine have h := iteT hc h; rM rfl rfl <| rY rfl rfl rfl <| rM rfl rfl <| rY rfl rfl rfl <| ARun.qv (q_eql rfl rfl) rfl <| rY rfl rfl rfl <| rM rfl rfl <| ARun.guard_dt rfl rfl rfl (fun hc => ?_) (fun hc => ?_)
                    · refine have h := iteT hc h; rF rfl rfl rfl <| rY rfl rfl rfl <| rL rfl rfl .p0 rfl rfl <| rY rfl rfl rfl <| rF rfl rfl rfl <| rY rfl rfl rfl <| rL rfl rfl .p1 rfl rfl <| rY rfl rfl rfl <| bndE h fun v50 e21 h => r_callpB rfl (Q_MeetOf_c e21) (.cons (.co (.refl _)) (.cons (CoB.arrT .p2) .nil)) rfl rfl <| rY rfl rfl rfl <| rT rfl rfl rfl <| rY rfl rfl rfl <| ARun.qv (q_beq rfl rfl) rfl <| rT rfl rfl rfl <| rM rfl rfl <| ARun.guard rfl rfl rfl (fun hc => ?_) (fun hc => ?_)
                      · refine have h := iteT hc h; rM rfl rfl <| rY rfl rfl rfl <| rM rfl rfl <| rY rfl rfl rfl <| ARun.qv (q_eql rfl rfl) rfl <| rT rfl rfl rfl <| rM rfl rfl <| ARun.guard_dt rfl rfl rfl (fun hc => ?_) (fun hc => ?_)
                        · refine have h := iteT hc h; rM rfl rfl <| rY rfl rfl rfl <| rM rfl rfl <| rY rfl rfl rfl <| bndE h fun v51 e22 h => r_callpB rfl (slices_Equal_Spot_Spot_c e22) (.cons (CoB.arrT .p3) (.cons (.co (.refl _)) .nil)) rfl rfl <| rT rfl rfl rfl <| rM rfl rfl <| ARun.guard rfl rfl rfl (fun hc => ?_) (fun hc => ?_)
                          · exact have h := iteT hc h; bndE h fun v52 e23 h => r_callp rfl (L_placed_c e23) (CoL.refl _) rfl <| rT rfl rfl rfl <| rA rfl rfl <| rN <| ATodo.stop <| ImpX.lq [] ⟨v52, h, rfl⟩ rfl rfl
                          · exact have h := iteFb hc h; rE rfl rfl rfl <| rA rfl rfl <| rN <| ATodo.stop <| ImpX.lq [] ⟨false, h, rfl⟩ rfl rfl
                        · exact have h := iteF hc h; rG rfl rfl rfl rfl <| rG rfl rfl rfl rfl <| rE rfl rfl rfl <| rM rfl rfl <| rG rfl rfl rfl rfl <| rE rfl rfl rfl <| rA rfl rfl <| rN <| ATodo.stop <| ImpX.lq [] ⟨false, h, rfl⟩ rfl rfl
                      · exact have h := iteFb hc h; rG rfl rfl rfl rfl <| rG rfl rfl rfl rfl <| rE rfl rfl rfl <| rM rfl rfl <| rG rfl rfl rfl rfl <| rG rfl rfl rfl rfl <| rG rfl rfl rfl rfl <| rE rfl rfl rfl <| rM rfl rfl <| rG rfl rfl rfl rfl <| rE rfl rfl rfl <| rA rfl rfl <| rN <| ATodo.stop <| ImpX.lq [] ⟨false, h, rfl⟩ rfl rfl
                    · refine have h := iteF hc h; rG rfl rfl rfl rfl <| rG rfl rfl rfl rfl <| rG rfl rfl rfl rfl <| rG rfl rfl rfl rfl <| rY rfl rfl rfl <| rE rfl rfl rfl <| rY rfl rfl rfl <| ARun.qv (q_beq rfl rfl) rfl <| rT rfl rfl rfl <| rM rfl rfl <| ARun.guard rfl rfl rfl (fun hc => ?_) (fun hc => ?_)
                      · refine have h := iteT hc h; rM rfl rfl <| rY rfl rfl rfl <| rM rfl rfl <| rY rfl rfl rfl <| ARun.qv (q_eql rfl rfl) rfl <| rT rfl rfl rfl <| rM rfl rfl <| ARun.guard_dt rfl rfl rfl (fun hc => ?_) (fun hc => ?_)
                        · refine have h := iteT hc h; rM rfl rfl <| rY rfl rfl rfl <| rM rfl rfl <| rY rfl rfl rfl <| bndE h fun v53 e24 h => r_callpB rfl (slices_Equal_Spot_Spot_c e24) (.cons (CoB.arrT .p3) (.cons (.co (.refl _)) .nil)) rfl rfl <| rT rfl rfl rfl <| rM rfl rfl <| ARun.guard rfl rfl rfl (fun hc => ?_) (fun hc => ?_)
                          · exact have h := iteT hc h; bndE h fun v54 e25 h => r_callp rfl (L_placed_c e25) (CoL.refl _) rfl <| rT rfl rfl rfl <| rA rfl rfl <| rN <| ATodo.stop <| ImpX.lq [] ⟨v54, h, rfl⟩ rfl rfl
                          · exact have h := iteFb hc h; rE rfl rfl rfl <| rA rfl rfl <| rN <| ATodo.stop <| ImpX.lq [] ⟨false, h, rfl⟩ rfl rfl
                        · exact have h := iteF hc h; rG rfl rfl rfl rfl <| rG rfl rfl rfl rfl <| rE rfl rfl rfl <| rM rfl rfl <| rG rfl rfl rfl rfl <| rE rfl rfl rfl <| rA rfl rfl <| rN <| ATodo.stop <| ImpX.lq [] ⟨false, h, rfl⟩ rfl rfl
                      · exact have h := iteFb hc h; rG rfl rfl rfl rfl <| rG rfl rfl rfl rfl <| rE rfl rfl rfl <| rM rfl rfl <| rG rfl rfl rfl rfl <| rG rfl rfl rfl rfl <| rG rfl rfl rfl rfl <| rE rfl rfl rfl <| rM rfl rfl <| rG rfl rfl rfl rfl <| rE rfl rfl rfl <| rA rfl rfl <| rN <| ATodo.stop <| ImpX.lq [] ⟨false, h, rfl⟩ rfl rfl
                  · exact have h := iteF hc h; rG rfl rfl rfl rfl <| rG rfl rfl rfl rfl <| rG rfl rfl rfl rfl <| ARun.guard_und rfl rfl rfl <| ARun.guard_und rfl rfl rfl <| ARun.guard_und rfl rfl rfl <| ARun.guard_und rfl rfl rfl <| ARun.guard_und rfl rfl rfl <| rG rfl rfl rfl rfl <| rG rfl rfl rfl rfl <| rE rfl rfl rfl <| rM rfl rfl <| rG rfl rfl rfl rfl <| rG rfl rfl rfl rfl <| rG rfl rfl rfl rfl <| rE rfl rfl rfl <| rM rfl rfl <| rG rfl rfl rfl rfl <| rG rfl rfl rfl rfl <| rG rfl rfl rfl rfl <| rE rfl rfl rfl <| rM rfl rfl <| rG rfl rfl rfl rfl <| rE rfl rfl rfl <| rA rfl rfl <| rN <| ATodo.stop <| ImpX.lq [] ⟨false, h, rfl⟩ rfl rfl
                · rintro σ' ⟨c49, h, rfl⟩
                  unfold L_FencesMeet_j2 at h
                  refine ATodo.ret <| ?_
                  obtain rfl := Option.some.inj h
                  exact ImpX.here ⟨_, .cons (.tmp _ _ rfl) .nil, rfl⟩

end Go.Proofs.Ytfplpihogacmaaa
