/- The code computes the plain functions: proofs written by shal.py. -/
import Derived.Test.YtfplpihogacmaaaTraP
import Derived.Test.YtfplpihogacmaaaLib
set_option maxRecDepth 100000
set_option linter.unusedVariables false
set_option linter.unusedSimpArgs false
namespace Go.Proofs.Ytfplpihogacmaaa
open Go Go.Eng Go.Proofs Go.Beacon
attribute [local irreducible] ARun ATodo AQ QV ACall ImpX AWp AM
set_option maxHeartbeats 4000000 in
theorem Below_c {p0x0 : Int} {p1x0 : Int} {r : Int} (h : Below p0x0 p1x0 = some r) : Pu Try.prog 112 [I p0x0, I p1x0] (I r) := by
  unfold Below at h
  refine ACall.bodyN Try.func112 rfl Try.ntmps112 Try.results112 rfl rfl ?_
  refine tSR <| rA rfl rfl <| rN <| tS <| tSR <| rM rfl rfl <| ARun.qv (q_lss rfl rfl) rfl <| rN <| ATodo.cond_d rfl (fun hc => ?_) (fun hc => ?_)
  · refine have h := iteT hc h; tSR <| rA rfl rfl <| rN <| ATodo.ret <| ?_
    obtain rfl := Option.some.inj h
    exact ImpX.here ⟨_, .cons (.tmp _ _ rfl) .nil, rfl⟩
  · refine have h := iteF hc h; tK <| tSR <| rM rfl rfl <| rM rfl rfl <| bndE h fun n1 e1 h => ARun.qv (t_remS rfl rfl e1) rfl <| rA rfl rfl <| rN <| tS <| tSR <| rM rfl rfl <| ARun.qv (q_lss rfl rfl) rfl <| rN <| ATodo.cut (fun σ' => ∃ (n2 : Int), Below_j1 n2 = some r ∧ σ' = ⟨16, [(0, I n2)], []⟩) ?_ ?_
    · refine ATodo.cond_d rfl (fun hc => ?_) (fun hc => ?_)
      · exact have h := iteT hc h; tR <| rM rfl rfl <| rM rfl rfl <| ARun.qv (q_addw rfl rfl) rfl <| rA rfl rfl <| rN <| ATodo.stop <| ImpX.lq [] ⟨w64 (n1 + p1x0), h, rfl⟩ rfl rfl
      · exact have h := iteF hc h; tK <| ATodo.stop <| ImpX.lq [] ⟨n1, h, rfl⟩ rfl rfl
    · rintro σ' ⟨n2, h, rfl⟩
      unfold Below_j1 at h
      refine tSR <| rM rfl rfl <| rA rfl rfl <| rN <| ATodo.ret <| ?_
      obtain rfl := Option.some.inj h
      exact ImpX.here ⟨_, .cons (.tmp _ _ rfl) .nil, rfl⟩

set_option maxHeartbeats 4000000 in
theorem Stream_Next_c {b_0 : Bk} {p0x0 : Fleetmake_Stream} {p1x0 : Int} {r : Int × Fleetmake_Stream} (h : Stream_Next p0x0 p1x0 = some r) : ACall Try.prog 49 [.ptr b_0 0, I p1x0] [(b_0, .cells [.list 1 (p0x0.L.map I), I p0x0.at_])] (T0 ([(b_0, .cells [.list 1 (r.2.L.map I), I r.2.at_])]) (I r.1)) := by
  unfold Stream_Next at h
  refine ACall.lessH ?_
  refine ACall.bodyN Try.func49 rfl Try.ntmps49 Try.results49 rfl rfl ?_
  refine tSR <| rA rfl rfl <| rN <| tSR <| rM rfl rfl <| ARun.qv (q_nilCheck_ptr rfl) rfl <| rF rfl rfl rfl <| rL rfl rfl .p0 rfl rfl <| ARun.qv (q_addw rfl rfl) rfl <| ARun.qv (q_nilCheck_ptr rfl) rfl <| rF rfl rfl rfl <| n_store_ptr rfl rfl rfl rfl .p0 rfl rfl <| rN <| tS <| tSR <| rM rfl rfl <| ARun.qv (q_nilCheck_ptr rfl) rfl <| rF rfl rfl rfl <| rL rfl rfl .p0 rfl rfl <| ARun.qv (t_len rfl) rfl <| ARun.qv (q_eql rfl rfl) rfl <| rN <| ATodo.cond_d rfl (fun hc => ?_) (fun hc => ?_)
  · refine have h := iteT hc h; tSR <| rM rfl rfl <| ARun.qv (q_nilCheck_ptr rfl) rfl <| rF rfl rfl rfl <| rL rfl rfl .p0 rfl rfl <| ARun.qv (q_mulw rfl rfl) rfl <| rM rfl rfl <| bndE h fun v1 e1 h => r_callp rfl (Below_c e1) (CoL.refl _) rfl <| rA rfl rfl <| rN <| ATodo.ret <| ?_
    obtain rfl := Option.some.inj h
    exact ImpX.here ⟨_, .cons (.tmp _ _ rfl) .nil, _, .cons .p0 .nil, ⟨rfl, rfl⟩⟩
  · refine have h := iteF hc h; tK <| tS <| ATodo.regionM (id := 4) (A := [0, 1, 3, 7, 15, 0, 32, 96, 224, 480, 1023, 2047]) 12 mixed rfl (by kernel_rfl) (by kernel_rfl) <| AM.qv (q_move rfl) rfl <| AM.qv (q_nilCheck_ptr rfl) rfl <| AM.qv (n_field_ptr rfl rfl) rfl <| AM.qv (q_load_ptr rfl rfl .p0 rfl) rfl <| AM.qv (q_subw rfl rfl) rfl <| AM.qv (q_move rfl) rfl <| AM.qv (q_nilCheck_ptr rfl) rfl <| AM.qv (n_field_ptr rfl rfl) rfl <| AM.qv (q_load_ptr rfl rfl .p0 rfl) rfl <| AM.qv (t_len rfl) rfl <| bndE h fun n2 e2 h => AM.qv (t_remS rfl rfl e2) rfl <| AM.qv (q_assign rfl) rfl <| AM.nil <| rN <| tS <| ATodo.regionM (id := 5) (A := [0, 1, 3, 7, 15, 0, 32, 96, 224, 480, 1023, 2047]) 12 mixed rfl (by kernel_rfl) (by kernel_rfl) <| AM.qv (q_move rfl) rfl <| AM.qv (q_nilCheck_ptr rfl) rfl <| AM.qv (n_field_ptr rfl rfl) rfl <| AM.qv (q_load_ptr rfl rfl .p0 rfl) rfl <| AM.qv (q_subw rfl rfl) rfl <| AM.qv (q_move rfl) rfl <| AM.qv (q_nilCheck_ptr rfl) rfl <| AM.qv (n_field_ptr rfl rfl) rfl <| AM.qv (q_load_ptr rfl rfl .p0 rfl) rfl <| AM.qv (t_len rfl) rfl <| bndE h fun n3 e3 h => AM.qv (t_quoS rfl rfl e3) rfl <| AM.qv (q_assign rfl) rfl <| AM.nil <| rN <| tSR <| rM rfl rfl <| ARun.qv (q_nilCheck_ptr rfl) rfl <| rF rfl rfl rfl <| rL rfl rfl .p0 rfl rfl <| rM rfl rfl <| bndE h fun v4 e4 h => ARun.qv (t_index rfl rfl rfl e4 rfl rfl) rfl <| ARun.qv (q_load_rptr rfl rfl rfl) rfl <| bndE h fun v5 e5 h => r_callp rfl (Below_c e5) (CoL.refl _) rfl <| rM rfl rfl <| rM rfl rfl <| ARun.qv (q_addw rfl rfl) rfl <| ARun.qv (q_mulw rfl rfl) rfl <| ARun.qv (q_addw rfl rfl) rfl <| rM rfl rfl <| bndE h fun v6 e6 h => r_callp rfl (Below_c e6) (CoL.refl _) rfl <| rA rfl rfl <| rN <| ATodo.ret <| ?_
    obtain rfl := Option.some.inj h
    exact ImpX.here ⟨_, .cons (.tmp _ _ rfl) .nil, _, .cons .p0 .nil, ⟨rfl, rfl⟩⟩

set_option maxHeartbeats 4000000 in
theorem Stream_Pick_c {b_0 : Bk} {p0x0 : Fleetmake_Stream} {p1x0 : List Int} {r : Int × Fleetmake_Stream} (h : Stream_Pick p0x0 p1x0 = some r) : ACall Try.prog 9 [.ptr b_0 0, .list 1 (p1x0.map I)] [(b_0, .cells [.list 1 (p0x0.L.map I), I p0x0.at_])] (T0 ([(b_0, .cells [.list 1 (r.2.L.map I), I r.2.at_])]) (I r.1)) := by
  unfold Stream_Pick at h
  refine ACall.lessH ?_
  refine ACall.bodyN Try.func9 rfl Try.ntmps9 Try.results9 rfl rfl ?_
  refine tSR <| rA rfl rfl <| rN <| tSR <| rM rfl rfl <| rM rfl rfl <| rM rfl rfl <| ARun.qv (t_len rfl) rfl <| bndE h fun v1 e1 h => t_call0 rfl (Stream_Next_c e1) (CoL.refl _) (.cons .p0 .nil) rfl rfl <| bndE h fun v2 e2 h => ARun.qv (t_index rfl rfl rfl e2 rfl rfl) rfl <| ARun.qv (q_load_rptr rfl rfl rfl) rfl <| rA rfl rfl <| rN <| ATodo.ret <| ?_
  obtain rfl := Option.some.inj h
  exact ImpX.here ⟨_, .cons (.tmp _ _ rfl) .nil, _, .cons .p0 .nil, ⟨rfl, rfl⟩⟩

set_option maxHeartbeats 4000000 in
theorem Stream_Place_c {b_0 : Bk} {p0x0 : Fleetmake_Stream} {r : Spot × Fleetmake_Stream} (h : Stream_Place p0x0 = some r) : ACall Try.prog 90 [.ptr b_0 0] [(b_0, .cells [.list 1 (p0x0.L.map I), I p0x0.at_])] (T0 ([(b_0, .cells [.list 1 (r.2.L.map I), I r.2.at_])]) (.agg [I r.1.X, I r.1.Y])) := by
  unfold Stream_Place at h
  refine ACall.lessH ?_
  refine ACall.bodyN Try.func90 rfl Try.ntmps90 Try.results90 rfl rfl ?_
  refine tSR <| n_alloc rfl rfl rfl rfl fun b1 => rN <| tSR <| rM rfl rfl <| n_buildSliceL (xs := ([(0 : Int), (1 : Int), (2 : Int), (3 : Int), (4 : Int), (5 : Int), (6 : Int), (8 : Int), (10 : Int), (-1 : Int), (-5 : Int), (20 : Int)]).map I) rfl rfl rfl rfl rfl rfl <| bndE h fun v2 e1 h => t_call0 rfl (Stream_Pick_c e1) (CoL.refl _) (.cons .p1 .nil) rfl rfl <| rM rfl rfl <| n_buildSliceL (xs := ([(0 : Int), (1 : Int), (2 : Int), (3 : Int), (4 : Int), (5 : Int), (6 : Int), (8 : Int), (10 : Int), (-1 : Int), (-5 : Int), (20 : Int)]).map I) rfl rfl rfl rfl rfl rfl <| bndE h fun v3 e2 h => t_call0 rfl (Stream_Pick_c e2) (CoL.refl _) (.cons .p0 .nil) rfl rfl <| ARun.qv (n_build rfl rfl rfl rfl rfl) rfl <| n_store_ptr rfl rfl rfl rfl .p1 rfl rfl <| rN <| ATodo.ret <| ?_
  obtain rfl := Option.some.inj h
  exact ImpX.here ⟨_, .cons (.all _ _ _ _ _ _ rfl .p1 TUnder.h TInfo.h rfl rfl) .nil, _, .cons .p0 .nil, ⟨rfl, rfl⟩⟩

set_option maxHeartbeats 4000000 in
theorem Stream_Range_c {b_0 : Bk} {p0x0 : Fleetmake_Stream} {p1x0 : Int} {p2x0 : Int} {r : Int × Fleetmake_Stream} (h : Stream_Range p0x0 p1x0 p2x0 = some r) : ACall Try.prog 39 [.ptr b_0 0, I p1x0, I p2x0] [(b_0, .cells [.list 1 (p0x0.L.map I), I p0x0.at_])] (T0 ([(b_0, .cells [.list 1 (r.2.L.map I), I r.2.at_])]) (I r.1)) := by
  unfold Stream_Range at h
  refine ACall.lessH ?_
  refine ACall.bodyN Try.func39 rfl Try.ntmps39 Try.results39 rfl rfl ?_
  refine tSR <| rA rfl rfl <| rN <| tS <| tSR <| rM rfl rfl <| rM rfl rfl <| ARun.qv (q_lss rfl rfl) rfl <| rN <| ATodo.cond_d rfl (fun hc => ?_) (fun hc => ?_)
  · refine have h := iteT hc h; tSR <| rM rfl rfl <| rA rfl rfl <| rN <| ATodo.ret <| ?_
    obtain rfl := Option.some.inj h
    exact ImpX.here ⟨_, .cons (.tmp _ _ rfl) .nil, _, .cons .p0 .nil, ⟨rfl, rfl⟩⟩
  · refine have h := iteF hc h; tK <| tSR <| rM rfl rfl <| rM rfl rfl <| rM rfl rfl <| rM rfl rfl <| ARun.qv (q_subw rfl rfl) rfl <| ARun.qv (q_addw rfl rfl) rfl <| bndE h fun v1 e1 h => t_call0 rfl (Stream_Next_c e1) (CoL.refl _) (.cons .p0 .nil) rfl rfl <| ARun.qv (q_addw rfl rfl) rfl <| rA rfl rfl <| rN <| ATodo.ret <| ?_
    obtain rfl := Option.some.inj h
    exact ImpX.here ⟨_, .cons (.tmp _ _ rfl) .nil, _, .cons .p0 .nil, ⟨rfl, rfl⟩⟩

set_option maxHeartbeats 4000000 in
theorem Stream_Flip_c {b_0 : Bk} {p0x0 : Fleetmake_Stream} {p1x0 : Int} {r : Bool × Fleetmake_Stream} (h : Stream_Flip p0x0 p1x0 = some r) : ACall Try.prog 18 [.ptr b_0 0, I p1x0] [(b_0, .cells [.list 1 (p0x0.L.map I), I p0x0.at_])] (T0 ([(b_0, .cells [.list 1 (r.2.L.map I), I r.2.at_])]) (.bool r.1)) := by
  unfold Stream_Flip at h
  refine ACall.lessH ?_
  refine ACall.bodyN Try.func18 rfl Try.ntmps18 Try.results18 rfl rfl ?_
  refine tSR <| rA rfl rfl <| rN <| tSR <| rM rfl rfl <| rM rfl rfl <| bndE h fun v1 e1 h => t_call0 rfl (Stream_Next_c e1) (CoL.refl _) (.cons .p0 .nil) rfl rfl <| ARun.qv (q_eql rfl rfl) rfl <| rA rfl rfl <| rN <| ATodo.ret <| ?_
  obtain rfl := Option.some.inj h
  exact ImpX.here ⟨_, .cons (.tmp _ _ rfl) .nil, _, .cons .p0 .nil, ⟨rfl, rfl⟩⟩

set_option maxHeartbeats 4000000 in
theorem Stream_RightTrack_c {b_0 : Bk} {p0x0 : Fleetmake_Stream} {p1x0 : Int} {r : (List Fix) × Fleetmake_Stream} (h : Stream_RightTrack p0x0 p1x0 = some r) : ACall Try.prog 65 [.ptr b_0 0, I p1x0] [(b_0, .cells [.list 1 (p0x0.L.map I), I p0x0.at_])] (T1 (fun d_0 => [(b_0, .cells [.list 1 (r.2.L.map I), I r.2.at_]), (d_0, .arr 5 (r.1.map Fix.av))]) (fun d_0 => .sl 5 d_0 0 r.1.length)) := by
  unfold Stream_RightTrack at h
  refine ACall.lessH ?_
  refine ACall.bodyN Try.func65 rfl Try.ntmps65 Try.results65 rfl rfl ?_
  refine tSR <| rA rfl rfl <| rN <| tSR <| rA rfl rfl <| rN <| tSR <| rA rfl rfl <| rN <| tSR <| rM rfl rfl <| bndE h fun v1 e1 h => t_call0 rfl (Stream_Place_c e1) (CoL.refl _) (.cons .p0 .nil) rfl rfl <| n_alloc rfl rfl rfl rfl fun b2 => n_store_ptr rfl rfl rfl rfl .p0 rfl rfl <| rN <| tS <| tSR <| rM rfl rfl <| rM rfl rfl <| bndE h fun v3 e2 h => t_call0 rfl (Stream_Range_c e2) (CoL.refl _) (.cons .p1 .nil) rfl rfl <| rM rfl rfl <| rN <| ATodo.block <| ATodo.loopI (fun x : (List Int) × Int × (List Fix) × Int × Int × Int × Int => Stream_RightTrack_b1 v3 x.1 x.2.1 x.2.2.1 x.2.2.2.1 x.2.2.2.2.1 x.2.2.2.2.2.1 x.2.2.2.2.2.2) (fun x σ' => ∃ (b14 : Bk), σ' = ⟨57, [(0, .ptr b_0 0), (5, .sl 5 b14 0 x.2.2.1.length), (6, I x.2.2.2.1), (7, .ptr b2 0), (13, I v3.1), (14, I x.2.2.2.2.2.2)], [(b_0, .cells [.list 1 (x.1.map I), I x.2.1]), (b14, .arr 5 (x.2.2.1.map Fix.av)), (b2, .cells [I x.2.2.2.2.1, I x.2.2.2.2.2.1])]⟩) h ?_ ?_
  · exact ImpX.arr (s := 5) 5 rfl fun b20 => ImpX.lq [1, 0, 0] ⟨b20, rfl⟩ rfl rfl
  · intro x z1 σ' J1 hmk h hJ1 hA1
    obtain ⟨l12, n13, l15, n16, n17, n18, n19⟩ := x
    obtain ⟨b14, rfl⟩ := hmk
    replace h : Stream_RightTrack_b1 v3 l12 n13 l15 n16 n17 n18 n19 = some z1 := h
    unfold Stream_RightTrack_b1 at h
    refine tSR <| ARun.qv (q_lss rfl rfl) rfl <| rN <| tS <| ATodo.cond_d rfl (fun hc => ?_) (fun hc => ?_)
    · refine have h := iteT hc h; tK <| tS <| ATodo.block <| tSR <| rM rfl rfl <| rM rfl rfl <| n_buildSliceL (xs := ([(1 : Int), (10 : Int), (100 : Int), (1000 : Int), (1000 : Int)]).map I) rfl rfl rfl rfl rfl rfl <| bndE h fun v21 e3 h => t_call0 rfl (Stream_Pick_c e3) (CoL.refl _) (.cons .p0 .nil) rfl rfl <| ARun.qv (q_addw rfl rfl) rfl <| rA rfl rfl <| rN <| tS <| tSR <| rM rfl rfl <| bndE h fun v22 e4 h => t_call0 rfl (Stream_Flip_c e4) (CoL.refl _) (.cons .p0 .nil) rfl rfl <| rN <| ATodo.cut (fun σ' => ∃ (l23 : List Int) (n24 : Int) (n25 : Int) (n26 : Int), Stream_RightTrack_j1 l15 n16 n19 v21 l23 n24 n25 n26 = some z1 ∧ σ' = ⟨57, [(0, .ptr b_0 0), (5, .sl 5 b14 0 l15.length), (6, I (w64 (n16 + v21.1))), (7, .ptr b2 0), (13, I v3.1), (14, I n19)], [(b_0, .cells [.list 1 (l23.map I), I n24]), (b14, .arr 5 (l15.map Fix.av)), (b2, .cells [I n25, I n26])]⟩) ?_ ?_
      · refine ATodo.cond rfl (fun hc => ?_) (fun hc => ?_)
        · exact have h := iteT hc h; tR <| rM rfl rfl <| bndE h fun v27 e5 h => t_call0 rfl (Stream_Place_c e5) (CoL.refl _) (.cons .p0 .nil) rfl rfl <| n_store_ptr rfl rfl rfl rfl .p2 rfl rfl <| rN <| ATodo.stop <| ImpX.lq [0, 0, 0] ⟨v27.2.L, v27.2.at_, v27.1.X, v27.1.Y, h, rfl⟩ rfl rfl
        · refine have h := iteFb hc h; bndE h fun v28 e6 h => bndE h fun v29 e7 h => ATodo.regionT (id := 9) (A := [0, 1, 0, 4, 15, 0, 32, 0, 140, 492, 1023, 2047]) (H0 := [(b_0, .cells [.list 1 (v22.2.L.map I), I v22.2.at_])]) (HH := fun β => [(b_0, .cells [.list 1 (v29.2.L.map I), I v29.2.at_]), (b14, .arr 5 (l15.map Fix.av)), (b2, .cells [I n17, I n18])]) 10 mixed rfl (by kernel_rfl) (by kernel_rfl) [⟨none, some 3, [], fun _ => (b_0, .cells [.list 1 (v22.2.L.map I), I v22.2.at_]), none⟩, ⟨some 3, some 8, [], fun _ => (b_0, .cells [.list 1 (v28.2.L.map I), I v28.2.at_]), none⟩, ⟨some 8, none, [], fun _ => (b_0, .cells [.list 1 (v29.2.L.map I), I v29.2.at_]), none⟩] [] rfl (by kernel_rfl) rfl (.cons .p0 .nil) (fun _ => rfl) <| AT.am 3 rfl rfl <| AM.qv (n_field_ptr rfl rfl) rfl <| AM.qv (q_load_ptr rfl rfl .p1 rfl) rfl <| AM.qv (q_move rfl) rfl <| AM.nil <| AT.runS (av := I v28.1) (Ti := [(b_0, .cells [.list 1 (v22.2.L.map I), I v22.2.at_])]) (Pi := [(b_0, .cells [.list 1 (v28.2.L.map I), I v28.2.at_])]) (fun _ => rfl) (fun _ => rfl) (fun _ => rfl) rfl rfl rfl ?_ ?_
          · exact t_call0 rfl (Stream_Range_c e6) (CoL.refl _) (.cons .p0 .nil) rfl rfl <| ARun.nil ⟨_, rfl, rfl⟩
          refine AT.am 4 rfl rfl <| AM.qv (q_addw rfl rfl) rfl <| AM.qv (n_field_ptr rfl rfl) rfl <| AM.qv (q_load_ptr rfl rfl .p1 rfl) rfl <| AM.qv (q_move rfl) rfl <| AM.nil <| AT.runS (av := I v29.1) (Ti := [(b_0, .cells [.list 1 (v28.2.L.map I), I v28.2.at_])]) (Pi := [(b_0, .cells [.list 1 (v29.2.L.map I), I v29.2.at_])]) (fun _ => rfl) (fun _ => rfl) (fun _ => rfl) rfl rfl rfl ?_ ?_
          · exact t_call0 rfl (Stream_Range_c e7) (CoL.refl _) (.cons .p0 .nil) rfl rfl <| ARun.nil ⟨_, rfl, rfl⟩
          exact AT.am 1 rfl rfl <| AM.qv (q_addw rfl rfl) rfl <| AM.nil <| AT.nilN (fun _ => rfl) fun β => ARun.qv (n_build rfl rfl rfl rfl rfl) rfl <| n_store_ptr rfl rfl rfl rfl .p2 rfl rfl <| rN <| ATodo.stop <| ImpX.lq [0, 0, 0] ⟨v29.2.L, v29.2.at_, w64 (n17 + v28.1), w64 (n18 + v29.1), h, rfl⟩ rfl rfl
      · rintro σ' ⟨l23, n24, n25, n26, h, rfl⟩
        unfold Stream_RightTrack_j1 at h
        refine tS <| bndE h fun v30 e8 h => ATodo.regionT (id := 10) (A := [0, 0, 2, 0, 8, 0, 0, 96, 255, 0, 1023]) (H0 := [(b_0, .cells [.list 1 (l23.map I), I n24])]) (HH := fun β => [(b_0, .cells [.list 1 (v30.2.L.map I), I v30.2.at_]), ((β 9), .cells [.str [], I (0 : Int), I (0 : Int), I (0 : Int), I (0 : Int)]), (b14, .arr 5 (l15.map Fix.av)), (b2, .cells [I n25, I n26])]) 10 mixed rfl (by kernel_rfl) (by kernel_rfl) [⟨none, some 7, [], fun _ => (b_0, .cells [.list 1 (l23.map I), I n24]), none⟩, ⟨some 7, none, [], fun _ => (b_0, .cells [.list 1 (v30.2.L.map I), I v30.2.at_]), none⟩, ⟨some 9, none, [], fun b => (b, .cells [.str [], I (0 : Int), I (0 : Int), I (0 : Int), I (0 : Int)]), none⟩] [9] rfl (by kernel_rfl) rfl (.cons .p0 .nil) (fun _ => rfl) <| AT.am 7 rfl rfl <| AM.qv (q_move rfl) rfl <| AM.qv (n_field_ptr rfl rfl) rfl <| AM.qv (q_load_ptr rfl rfl .p1 rfl) rfl <| AM.qv (n_field_ptr rfl rfl) rfl <| AM.qv (q_load_ptr rfl rfl .p1 rfl) rfl <| AM.qv (q_move rfl) rfl <| AM.buildSliceL (xs := ([(0 : Int), (0 : Int), (1 : Int), (2 : Int), (5 : Int)]).map I) rfl rfl rfl rfl rfl rfl <| AM.nil <| AT.runS (av := I v30.1) (Ti := [(b_0, .cells [.list 1 (l23.map I), I n24])]) (Pi := [(b_0, .cells [.list 1 (v30.2.L.map I), I v30.2.at_])]) (fun _ => rfl) (fun _ => rfl) (fun _ => rfl) rfl rfl rfl ?_ ?_
        · exact t_call0 rfl (Stream_Pick_c e8) (CoL.refl _) (.cons .p0 .nil) rfl rfl <| ARun.nil ⟨_, rfl, rfl⟩
        refine AT.am 1 rfl rfl <| AM.qv (n_build rfl rfl rfl rfl rfl) rfl <| AM.nil <| AT.runD (V := fun b => .ptr b 0) (Ti := []) (Pi := fun b => [(b, .cells [.str [], I (0 : Int), I (0 : Int), I (0 : Int), I (0 : Int)])]) (fun _ => rfl) (fun _ => rfl) (fun _ _ => rfl) rfl (fun _ => rfl) rfl rfl rfl ?_ ?_
        · exact n_alloc rfl rfl rfl rfl fun b31 => ARun.nil ⟨b31, _, rfl, rfl⟩
        refine AT.nilN (fun _ => rfl) fun β => ?_
        generalize β 9 = b31
        clear β
        refine n_store_ptr rfl rfl rfl rfl .p1 rfl rfl <| rN <| tS <| tSR <| rM rfl rfl <| bndE h fun v32 e9 h => t_call0 rfl (Stream_Flip_c e9) (CoL.refl _) (.cons .p0 .nil) rfl rfl <| rN <| ATodo.cut (fun σ' => ∃ (l33 : List Int) (n34 : Int) (n35 : Int), Stream_RightTrack_j2 l15 n16 n19 v21 n25 n26 v30 l33 n34 n35 = some z1 ∧ σ' = ⟨57, [(0, .ptr b_0 0), (5, .sl 5 b14 0 l15.length), (6, I (w64 (n16 + v21.1))), (7, .ptr b2 0), (8, .ptr b31 0), (13, I v3.1), (14, I n19)], [(b_0, .cells [.list 1 (l33.map I), I n34]), (b14, .arr 5 (l15.map Fix.av)), (b2, .cells [I n25, I n26]), (b31, .cells [.str ([100] : Str), I (w64 (n16 + v21.1)), I n35, I n26, I v30.1])]⟩) ?_ ?_
        · refine ATodo.cond rfl (fun hc => ?_) (fun hc => ?_)
          · exact have h := iteT hc h; tR <| rM rfl rfl <| n_buildSliceL (xs := ([(5000 : Int), (-10000 : Int), (300 : Int)]).map I) rfl rfl rfl rfl rfl rfl <| bndE h fun v36 e10 h => t_call0 rfl (Stream_Pick_c e10) (CoL.refl _) (.cons .p0 .nil) rfl rfl <| rF rfl rfl rfl <| n_store_ptr rfl rfl rfl rfl .p1 rfl rfl <| rN <| ATodo.stop <| ImpX.lq [0, 1, 1, 0] ⟨v36.2.L, v36.2.at_, v36.1, h, rfl⟩ rfl rfl
          · exact have h := iteFb hc h; tK <| ATodo.stop <| ImpX.lq [0, 1, 1, 0] ⟨v32.2.L, v32.2.at_, n25, h, rfl⟩ rfl rfl
        · rintro σ' ⟨l33, n34, n35, h, rfl⟩
          unfold Stream_RightTrack_j2 at h
          refine tR <| rM rfl rfl <| ARun.qv (q_load_ptr_all rfl rfl .p3 rfl) rfl <| n_buildSliceL (xs := ([(⟨([100] : Str), w64 (n16 + v21.1), n35, n26, v30.1⟩ : Fix)]).map Fix.av) rfl rfl rfl rfl rfl rfl <| bndE h fun l37 e11 h => t_append (g := Fix.av) rfl rfl rfl rfl rfl rfl rfl rfl (.list _) e11 (fun _ => .p1) rfl fun b38 => rA rfl rfl <| rN <| ATodo.blk <| tR <| ARun.qv (q_addw rfl rfl) rfl <| rM rfl rfl <| rN <| ATodo.stop <| ?_
          obtain rfl := Option.some.inj h
          exact hJ1 _ _ rfl <| ImpX.lq [0, 0, 0] ⟨b38, rfl⟩ rfl rfl
    · refine have h := iteF hc h; ATodo.exit rfl <| have h := outL h hA1; tSR <| rM rfl rfl <| rA rfl rfl <| rN <| ATodo.ret <| ?_
      obtain rfl := Option.some.inj h
      exact ImpX.here ⟨_, .cons (.tmp _ _ rfl) .nil, _, .cons .p0 (.cons .p0 .nil), ⟨b14, rfl, rfl⟩⟩

set_option maxHeartbeats 4000000 in
theorem Stream_Some_c {b_0 : Bk} {p0x0 : Fleetmake_Stream} {p1x0 : List Str} {r : Str × Fleetmake_Stream} (h : Stream_Some p0x0 p1x0 = some r) : ACall Try.prog 50 [.ptr b_0 0, .list 1 (p1x0.map AV.str)] [(b_0, .cells [.list 1 (p0x0.L.map I), I p0x0.at_])] (T0 ([(b_0, .cells [.list 1 (r.2.L.map I), I r.2.at_])]) (.str r.1)) := by
  unfold Stream_Some at h
  refine ACall.lessH ?_
  refine ACall.bodyN Try.func50 rfl Try.ntmps50 Try.results50 rfl rfl ?_
  refine tSR <| rA rfl rfl <| rN <| tSR <| rM rfl rfl <| rM rfl rfl <| rM rfl rfl <| ARun.qv (t_len rfl) rfl <| bndE h fun v1 e1 h => t_call0 rfl (Stream_Next_c e1) (CoL.refl _) (.cons .p0 .nil) rfl rfl <| bndE h fun v2 e2 h => ARun.qv (t_index rfl rfl rfl e2 rfl rfl) rfl <| ARun.qv (q_load_rptr rfl rfl rfl) rfl <| rA rfl rfl <| rN <| ATodo.ret <| ?_
  obtain rfl := Option.some.inj h
  exact ImpX.here ⟨_, .cons (.tmp _ _ rfl) .nil, _, .cons .p0 .nil, ⟨rfl, rfl⟩⟩

set_option maxHeartbeats 4000000 in
theorem Stream_Odd_c {b_0 : Bk} {p0x0 : Fleetmake_Stream} {p1x0 : Int} {p2x0 : Int} {r : Int × Fleetmake_Stream} (h : Stream_Odd p0x0 p1x0 p2x0 = some r) : ACall Try.prog 51 [.ptr b_0 0, I p1x0, I p2x0] [(b_0, .cells [.list 1 (p0x0.L.map I), I p0x0.at_])] (T0 ([(b_0, .cells [.list 1 (r.2.L.map I), I r.2.at_])]) (I r.1)) := by
  unfold Stream_Odd at h
  refine ACall.lessH ?_
  refine ACall.bodyN Try.func51 rfl Try.ntmps51 Try.results51 rfl rfl ?_
  refine tSR <| rA rfl rfl <| rN <| tS <| tSR <| rM rfl rfl <| bndE h fun v1 e1 h => t_call0 rfl (Stream_Flip_c e1) (CoL.refl _) (.cons .p0 .nil) rfl rfl <| rN <| ATodo.cond rfl (fun hc => ?_) (fun hc => ?_)
  · refine have h := iteT hc h; tSR <| rM rfl rfl <| rM rfl rfl <| ARun.qv (q_subw rfl rfl) rfl <| rM rfl rfl <| ARun.qv (q_addw rfl rfl) rfl <| rM rfl rfl <| rM rfl rfl <| n_buildSliceL (xs := ([w64 (p1x0 - (1 : Int)), w64 (p2x0 + (1 : Int)), p1x0, p2x0, (-1099511627776 : Int), (1099511627776 : Int)]).map I) rfl rfl rfl rfl rfl rfl <| bndE h fun v2 e2 h => t_call0 rfl (Stream_Pick_c e2) (CoL.refl _) (.cons .p0 .nil) rfl rfl <| rA rfl rfl <| rN <| ATodo.ret <| ?_
    obtain rfl := Option.some.inj h
    exact ImpX.here ⟨_, .cons (.tmp _ _ rfl) .nil, _, .cons .p0 .nil, ⟨rfl, rfl⟩⟩
  · refine have h := iteFb hc h; tK <| tSR <| rM rfl rfl <| rM rfl rfl <| rM rfl rfl <| bndE h fun v3 e3 h => t_call0 rfl (Stream_Range_c e3) (CoL.refl _) (.cons .p0 .nil) rfl rfl <| rA rfl rfl <| rN <| ATodo.ret <| ?_
    obtain rfl := Option.some.inj h
    exact ImpX.here ⟨_, .cons (.tmp _ _ rfl) .nil, _, .cons .p0 .nil, ⟨rfl, rfl⟩⟩

set_option maxHeartbeats 4000000 in
theorem Stream_Track_c {b_0 : Bk} {p0x0 : Fleetmake_Stream} {p1x0 : Int} {r : (List Fix) × Fleetmake_Stream} (h : Stream_Track p0x0 p1x0 = some r) : ACall Try.prog 25 [.ptr b_0 0, I p1x0] [(b_0, .cells [.list 1 (p0x0.L.map I), I p0x0.at_])] (T1 (fun d_0 => [(b_0, .cells [.list 1 (r.2.L.map I), I r.2.at_]), (d_0, .arr 5 (r.1.map Fix.av))]) (fun d_0 => .sl 5 d_0 0 r.1.length)) := by
  unfold Stream_Track at h
  refine ACall.lessH ?_
  refine ACall.bodyN Try.func25 rfl Try.ntmps25 Try.results25 rfl rfl ?_
  refine tSR <| rA rfl rfl <| rN <| tSR <| rM rfl rfl <| rM rfl rfl <| bndE h fun v1 e1 h => t_call1 rfl (Stream_RightTrack_c e1) (CoL.refl _) (.cons .p0 .nil) (fun _ => rfl) rfl fun b2 => rA rfl rfl <| rN <| tS <| tS <| ATodo.cut (fun σ' => ∃ (l3 : List Int) (n4 : Int) (c5 : Bool), Stream_Track_j1 v1 l3 n4 c5 = some r ∧ σ' = ⟨53, [(0, .ptr b_0 0), (5, .sl 5 b2 0 v1.1.length), (16, .bool c5)], [(b_0, .cells [.list 1 (l3.map I), I n4]), (b2, .arr 5 (v1.1.map Fix.av))]⟩) ?_ ?_
  · refine tR <| rM rfl rfl <| ARun.qv (t_len_sl rfl) rfl <| ARun.qv (q_gtr rfl rfl) rfl <| rM rfl rfl <| ARun.guard_dt rfl rfl rfl (fun hc => ?_) (fun hc => ?_)
    · exact have h := iteT hc h; rM rfl rfl <| rY rfl rfl rfl <| bndE h fun v6 e2 h => t_call0 rfl (Stream_Flip_c e2) (CoL.refl _) (.cons .p0 .nil) rfl rfl <| rT rfl rfl rfl <| rN <| ATodo.stop <| ImpX.lq [0, 0] ⟨v6.2.L, v6.2.at_, v6.1, h, rfl⟩ rfl rfl
    · exact have h := iteF hc h; rG rfl rfl rfl rfl <| rE rfl rfl rfl <| rN <| ATodo.stop <| ImpX.lq [0, 0] ⟨v1.2.L, v1.2.at_, false, h, rfl⟩ rfl rfl
  · rintro σ' ⟨l3, n4, c5, h, rfl⟩
    unfold Stream_Track_j1 at h
    refine ATodo.cut (fun σ' => ∃ (l7 : List Int) (n8 : Int) (l9 : List Fix), Stream_Track_j2 l7 n8 l9 = some r ∧ σ' = ⟨53, [(5, .sl 5 b2 0 l9.length)], [(b_0, .cells [.list 1 (l7.map I), I n8]), (b2, .arr 5 (l9.map Fix.av))]⟩) ?_ ?_
    · refine ATodo.cond rfl (fun hc => ?_) (fun hc => ?_)
      · refine have h := iteT hc h; tSR <| rM rfl rfl <| rM rfl rfl <| rM rfl rfl <| ARun.qv (t_len_sl rfl) rfl <| bndE h fun v10 e3 h => t_call0 rfl (Stream_Next_c e3) (CoL.refl _) (.cons .p0 .nil) rfl rfl <| bndE h fun v11 e4 h => ARun.qv (t_index_sl rfl rfl rfl e4) rfl <| rA rfl rfl <| rN <| tSR <| rM rfl rfl <| bndE h fun v12 e5 h => t_call0 rfl (Stream_Next_c e5) (CoL.refl _) (.cons .p0 .nil) rfl rfl <| rN <| ATodo.block <| tSR <| ARun.qv (q_eql rfl rfl) rfl <| rA rfl rfl <| rN <| ATodo.cut (fun σ' => ∃ (l13 : List Int) (n14 : Int) (l15 : List Fix), Stream_Track_j3 l13 n14 l15 = some r ∧ σ' = ⟨53, [(5, .sl 5 b2 0 l15.length)], [(b_0, .cells [.list 1 (l13.map I), I n14]), (b2, .arr 5 (l15.map Fix.av))]⟩) ?_ ?_
        · refine ATodo.cond_d rfl (fun hc => ?_) (fun hc => ?_)
          · exact have h := iteT hc h; tR <| rM rfl rfl <| rM rfl rfl <| n_buildSliceL (xs := ([([] : Str), ([101] : Str), ([65] : Str)]).map AV.str) rfl rfl rfl rfl rfl rfl <| bndE h fun v16 e6 h => t_call0 rfl (Stream_Some_c e6) (CoL.refl _) (.cons .p0 .nil) rfl rfl <| ARun.qv (q_nilCheck_aptr rfl) rfl <| ARun.qv (t_field_aptr rfl rfl) rfl <| t_store_aptr1 (g := Fix.av) (el' := (⟨v16.1, v11.At, v11.X, v11.Y, v11.Error⟩ : Fix)) rfl rfl rfl rfl e4 rfl .p1 rfl <| ARun.ghost <| ImpX.eqs (s := 5) (av' := .sl 5 b2 0 (v1.1.set v10.1.toNat (⟨v16.1, v11.At, v11.X, v11.Y, v11.Error⟩ : Fix)).length) rfl (by rw [List.length_set]) <| ImpX.here <| ARun.ghost <| ImpX.eqs (s := 17) (av' := .sl 5 b2 0 (v1.1.set v10.1.toNat (⟨v16.1, v11.At, v11.X, v11.Y, v11.Error⟩ : Fix)).length) rfl (by rw [List.length_set]) <| ImpX.here <| ARun.ghost <| ImpX.eqs (s := 19) (av' := .sl 5 b2 0 (v1.1.set v10.1.toNat (⟨v16.1, v11.At, v11.X, v11.Y, v11.Error⟩ : Fix)).length) rfl (by rw [List.length_set]) <| ImpX.here <| rN <| ATodo.stop <| ImpX.lq [0, 0] ⟨v16.2.L, v16.2.at_, v1.1.set v10.1.toNat (⟨v16.1, v11.At, v11.X, v11.Y, v11.Error⟩ : Fix), h, rfl⟩ rfl rfl
          · refine have h := iteF hc h; tSR <| ARun.qv (q_eql rfl rfl) rfl <| rA rfl rfl <| rN <| ATodo.cut (fun σ' => ∃ (l17 : List Int) (n18 : Int) (l19 : List Fix), Stream_Track_j4 l17 n18 l19 = some r ∧ σ' = ⟨53, [(5, .sl 5 b2 0 l19.length)], [(b_0, .cells [.list 1 (l17.map I), I n18]), (b2, .arr 5 (l19.map Fix.av))]⟩) ?_ ?_
            · refine ATodo.cond_d rfl (fun hc => ?_) (fun hc => ?_)
              · exact have h := iteT hc h; tR <| rM rfl rfl <| rM rfl rfl <| bndE h fun v20 e7 h => t_call0 rfl (Stream_Odd_c e7) (CoL.refl _) (.cons .p0 .nil) rfl rfl <| ARun.qv (q_nilCheck_aptr rfl) rfl <| ARun.qv (t_field_aptr rfl rfl) rfl <| t_store_aptr1 (g := Fix.av) (el' := (⟨v11.Device, v20.1, v11.X, v11.Y, v11.Error⟩ : Fix)) rfl rfl rfl rfl e4 rfl .p1 rfl <| ARun.ghost <| ImpX.eqs (s := 5) (av' := .sl 5 b2 0 (v1.1.set v10.1.toNat (⟨v11.Device, v20.1, v11.X, v11.Y, v11.Error⟩ : Fix)).length) rfl (by rw [List.length_set]) <| ImpX.here <| ARun.ghost <| ImpX.eqs (s := 17) (av' := .sl 5 b2 0 (v1.1.set v10.1.toNat (⟨v11.Device, v20.1, v11.X, v11.Y, v11.Error⟩ : Fix)).length) rfl (by rw [List.length_set]) <| ImpX.here <| ARun.ghost <| ImpX.eqs (s := 19) (av' := .sl 5 b2 0 (v1.1.set v10.1.toNat (⟨v11.Device, v20.1, v11.X, v11.Y, v11.Error⟩ : Fix)).length) rfl (by rw [List.length_set]) <| ImpX.here <| rN <| ATodo.stop <| ImpX.lq [0, 0] ⟨v20.2.L, v20.2.at_, v1.1.set v10.1.toNat (⟨v11.Device, v20.1, v11.X, v11.Y, v11.Error⟩ : Fix), h, rfl⟩ rfl rfl
              · refine have h := iteF hc h; tSR <| ARun.qv (q_eql rfl rfl) rfl <| rA rfl rfl <| rN <| ATodo.cut (fun σ' => ∃ (l21 : List Int) (n22 : Int) (l23 : List Fix), Stream_Track_j5 l21 n22 l23 = some r ∧ σ' = ⟨53, [(5, .sl 5 b2 0 l23.length)], [(b_0, .cells [.list 1 (l21.map I), I n22]), (b2, .arr 5 (l23.map Fix.av))]⟩) ?_ ?_
                · refine ATodo.cond_d rfl (fun hc => ?_) (fun hc => ?_)
                  · exact have h := iteT hc h; tR <| rM rfl rfl <| rM rfl rfl <| bndE h fun v24 e8 h => t_call0 rfl (Stream_Odd_c e8) (CoL.refl _) (.cons .p0 .nil) rfl rfl <| ARun.qv (q_nilCheck_aptr rfl) rfl <| ARun.qv (t_field_aptr rfl rfl) rfl <| t_store_aptr1 (g := Fix.av) (el' := (⟨v11.Device, v11.At, v24.1, v11.Y, v11.Error⟩ : Fix)) rfl rfl rfl rfl e4 rfl .p1 rfl <| ARun.ghost <| ImpX.eqs (s := 5) (av' := .sl 5 b2 0 (v1.1.set v10.1.toNat (⟨v11.Device, v11.At, v24.1, v11.Y, v11.Error⟩ : Fix)).length) rfl (by rw [List.length_set]) <| ImpX.here <| ARun.ghost <| ImpX.eqs (s := 17) (av' := .sl 5 b2 0 (v1.1.set v10.1.toNat (⟨v11.Device, v11.At, v24.1, v11.Y, v11.Error⟩ : Fix)).length) rfl (by rw [List.length_set]) <| ImpX.here <| ARun.ghost <| ImpX.eqs (s := 19) (av' := .sl 5 b2 0 (v1.1.set v10.1.toNat (⟨v11.Device, v11.At, v24.1, v11.Y, v11.Error⟩ : Fix)).length) rfl (by rw [List.length_set]) <| ImpX.here <| rN <| ATodo.stop <| ImpX.lq [0, 0] ⟨v24.2.L, v24.2.at_, v1.1.set v10.1.toNat (⟨v11.Device, v11.At, v24.1, v11.Y, v11.Error⟩ : Fix), h, rfl⟩ rfl rfl
                  · exact have h := iteF hc h; tR <| rM rfl rfl <| rM rfl rfl <| bndE h fun v25 e9 h => t_call0 rfl (Stream_Odd_c e9) (CoL.refl _) (.cons .p0 .nil) rfl rfl <| ARun.qv (q_nilCheck_aptr rfl) rfl <| ARun.qv (t_field_aptr rfl rfl) rfl <| t_store_aptr1 (g := Fix.av) (el' := (⟨v11.Device, v11.At, v11.X, v11.Y, v25.1⟩ : Fix)) rfl rfl rfl rfl e4 rfl .p1 rfl <| ARun.ghost <| ImpX.eqs (s := 5) (av' := .sl 5 b2 0 (v1.1.set v10.1.toNat (⟨v11.Device, v11.At, v11.X, v11.Y, v25.1⟩ : Fix)).length) rfl (by rw [List.length_set]) <| ImpX.here <| ARun.ghost <| ImpX.eqs (s := 17) (av' := .sl 5 b2 0 (v1.1.set v10.1.toNat (⟨v11.Device, v11.At, v11.X, v11.Y, v25.1⟩ : Fix)).length) rfl (by rw [List.length_set]) <| ImpX.here <| ARun.ghost <| ImpX.eqs (s := 19) (av' := .sl 5 b2 0 (v1.1.set v10.1.toNat (⟨v11.Device, v11.At, v11.X, v11.Y, v25.1⟩ : Fix)).length) rfl (by rw [List.length_set]) <| ImpX.here <| rN <| ATodo.stop <| ImpX.lq [0, 0] ⟨v25.2.L, v25.2.at_, v1.1.set v10.1.toNat (⟨v11.Device, v11.At, v11.X, v11.Y, v25.1⟩ : Fix), h, rfl⟩ rfl rfl
                · rintro σ' ⟨l21, n22, l23, h, rfl⟩
                  unfold Stream_Track_j5 at h
                  exact ATodo.stop <| ImpX.lq [0, 0] ⟨l21, n22, l23, h, rfl⟩ rfl rfl
            · rintro σ' ⟨l17, n18, l19, h, rfl⟩
              unfold Stream_Track_j4 at h
              exact ATodo.stop <| ImpX.lq [0, 0] ⟨l17, n18, l19, h, rfl⟩ rfl rfl
        · rintro σ' ⟨l13, n14, l15, h, rfl⟩
          unfold Stream_Track_j3 at h
          exact ATodo.blk <| ATodo.stop <| ImpX.lq [0, 0] ⟨l13, n14, l15, h, rfl⟩ rfl rfl
      · exact have h := iteFb hc h; tK <| ATodo.stop <| ImpX.lq [0, 0] ⟨l3, n4, v1.1, h, rfl⟩ rfl rfl
    · rintro σ' ⟨l7, n8, l9, h, rfl⟩
      unfold Stream_Track_j2 at h
      refine tSR <| rM rfl rfl <| rA rfl rfl <| rN <| ATodo.ret <| ?_
      obtain rfl := Option.some.inj h
      exact ImpX.here ⟨_, .cons (.tmp _ _ rfl) .nil, _, .cons .p0 (.cons .p0 .nil), ⟨b2, rfl, rfl⟩⟩

set_option maxHeartbeats 4000000 in
theorem base_Key_c {p0x0 : Str} {r : Bool} (h : base_Key p0x0 = some r) : Pu Try.prog 141 [.str p0x0] (.bool r) := by
  unfold base_Key at h
  refine ACall.bodyN Try.func141 rfl Try.ntmps141 Try.results141 rfl rfl ?_
  refine tSR <| rA rfl rfl <| rN <| tS <| tS <| ATodo.cut (fun σ' => ∃ (c1 : Bool), base_Key_j1 p0x0 c1 = some r ∧ σ' = ⟨54, [(0, .str p0x0), (21, .bool c1)], []⟩) ?_ ?_
  · refine tR <| rM rfl rfl <| ARun.qv (q_seq rfl rfl) rfl <| rM rfl rfl <| ARun.guard_df rfl rfl rfl (fun hc => ?_) (fun hc => ?_)
    · refine have h := iteF hc h; rM rfl rfl <| rY rfl rfl rfl <| ARun.qv (q_len_str rfl) rfl <| rY rfl rfl rfl <| ARun.qv (q_gtr rfl rfl) rfl <| rE rfl rfl rfl <| rM rfl rfl <| ARun.guard_df rfl rfl rfl (fun hc => ?_) (fun hc => ?_)
      · refine have h := iteF hc h; rM rfl rfl <| rY rfl rfl rfl <| bndE h fun c2 e1 h => ARun.qv (t_index_str rfl rfl e1) rfl <| rY rfl rfl rfl <| ARun.qv (q_lss rfl rfl) rfl <| rE rfl rfl rfl <| rM rfl rfl <| ARun.guard_df rfl rfl rfl (fun hc => ?_) (fun hc => ?_)
        · exact have h := iteF hc h; rM rfl rfl <| rY rfl rfl rfl <| bndE h fun c3 e2 h => ARun.qv (t_index_str rfl rfl e2) rfl <| rY rfl rfl rfl <| ARun.qv (q_gtr rfl rfl) rfl <| rE rfl rfl rfl <| rN <| ATodo.stop <| ImpX.lq [] ⟨decide ((122 : Int) < (c3.toNat : Int)), h, rfl⟩ rfl rfl
        · exact have h := iteT hc h; rG rfl rfl rfl rfl <| rG rfl rfl rfl rfl <| rT rfl rfl rfl <| rN <| ATodo.stop <| ImpX.lq [] ⟨true, h, rfl⟩ rfl rfl
      · exact have h := iteT hc h; rG rfl rfl rfl rfl <| rG rfl rfl rfl rfl <| rT rfl rfl rfl <| rM rfl rfl <| rG rfl rfl rfl rfl <| rG rfl rfl rfl rfl <| rG rfl rfl rfl rfl <| rT rfl rfl rfl <| rN <| ATodo.stop <| ImpX.lq [] ⟨true, h, rfl⟩ rfl rfl
    · exact have h := iteT hc h; rG rfl rfl rfl rfl <| rG rfl rfl rfl rfl <| rT rfl rfl rfl <| rM rfl rfl <| rG rfl rfl rfl rfl <| rG rfl rfl rfl rfl <| rG rfl rfl rfl rfl <| rT rfl rfl rfl <| rM rfl rfl <| rG rfl rfl rfl rfl <| rG rfl rfl rfl rfl <| rG rfl rfl rfl rfl <| rT rfl rfl rfl <| rN <| ATodo.stop <| ImpX.lq [] ⟨true, h, rfl⟩ rfl rfl
  · rintro σ' ⟨c1, h, rfl⟩
    unfold base_Key_j1 at h
    refine ATodo.cond rfl (fun hc => ?_) (fun hc => ?_)
    · refine have h := iteT hc h; tSR <| rA rfl rfl <| rN <| ATodo.ret <| ?_
      obtain rfl := Option.some.inj h
      exact ImpX.here ⟨_, .cons (.tmp _ _ rfl) .nil, rfl⟩
    · refine have h := iteFb hc h; tK <| tS <| tSR <| rM rfl rfl <| ARun.qv (q_len_str rfl) rfl <| rM rfl rfl <| rN <| ATodo.block <| ATodo.loopI (fun x : Int => base_Key_b1 p0x0 x) (fun x σ' => σ' = ⟨54, [(0, .str p0x0), (23, I (p0x0.length : Int)), (24, I x)], []⟩) h ?_ ?_
      · exact ImpX.lq [] rfl rfl rfl
      · intro n5 z1 σ' J1 hmk h hJ1 hA1
        obtain rfl := hmk
        replace h : base_Key_b1 p0x0 n5 = some z1 := h
        unfold base_Key_b1 at h
        refine tSR <| ARun.qv (q_lss rfl rfl) rfl <| rN <| tS <| ATodo.cond_d rfl (fun hc => ?_) (fun hc => ?_)
        · refine have h := iteT hc h; tK <| tS <| ATodo.block <| tSR <| rM rfl rfl <| rA rfl rfl <| rN <| tSR <| rM rfl rfl <| rM rfl rfl <| bndE h fun c6 e3 h => ARun.qv (t_index_str rfl rfl e3) rfl <| rA rfl rfl <| rN <| tS <| ATodo.cut (fun σ' => ∃ (c7 : Bool), base_Key_j2 n5 c7 = some z1 ∧ σ' = ⟨54, [(0, .str p0x0), (23, I (p0x0.length : Int)), (24, I n5), (52, .bool c7)], []⟩) ?_ ?_
          · refine tR <| rM rfl rfl <| ARun.qv (q_geq rfl rfl) rfl <| rM rfl rfl <| ARun.guard_dt rfl rfl rfl (fun hc => ?_) (fun hc => ?_)
            · rw [if_pos hc] at h
              refine rM rfl rfl <| rY rfl rfl rfl <| ARun.qv (q_leq rfl rfl) rfl <| rT rfl rfl rfl <| rM rfl rfl <| ARun.guard_df rfl rfl rfl (fun hc => ?_) (fun hc => ?_)
              · rw [if_neg hc] at h
                refine rM rfl rfl <| rY rfl rfl rfl <| ARun.qv (q_geq rfl rfl) rfl <| rY rfl rfl rfl <| rM rfl rfl <| ARun.guard_dt rfl rfl rfl (fun hc => ?_) (fun hc => ?_)
                · rw [if_pos hc] at h
                  refine rM rfl rfl <| rY rfl rfl rfl <| ARun.qv (q_leq rfl rfl) rfl <| rY rfl rfl rfl <| rT rfl rfl rfl <| rE rfl rfl rfl <| rM rfl rfl <| ARun.guard_df rfl rfl rfl (fun hc => ?_) (fun hc => ?_)
                  · rw [if_neg hc] at h
                    refine rM rfl rfl <| rY rfl rfl rfl <| ARun.qv (q_eql rfl rfl) rfl <| rE rfl rfl rfl <| rM rfl rfl <| ARun.guard_df rfl rfl rfl (fun hc => ?_) (fun hc => ?_)
                    · rw [if_neg hc] at h
                      exact rM rfl rfl <| rY rfl rfl rfl <| ARun.qv (q_eql rfl rfl) rfl <| rE rfl rfl rfl <| ARun.qv (q_not_d rfl) rfl <| rN <| ATodo.stop <| ImpX.lq [] ⟨decide (¬ ((c6.toNat : Int) = (95 : Int))), h, rfl⟩ rfl rfl
                    · rw [if_pos hc] at h
                      exact rG rfl rfl rfl rfl <| rT rfl rfl rfl <| ARun.qv (q_not rfl) rfl <| rN <| ATodo.stop <| ImpX.lq [] ⟨!true, h, rfl⟩ rfl rfl
                  · rw [if_pos hc] at h
                    exact rG rfl rfl rfl rfl <| rT rfl rfl rfl <| rM rfl rfl <| rG rfl rfl rfl rfl <| rG rfl rfl rfl rfl <| rT rfl rfl rfl <| ARun.qv (q_not rfl) rfl <| rN <| ATodo.stop <| ImpX.lq [] ⟨!true, h, rfl⟩ rfl rfl
                · rw [if_neg hc] at h
                  refine rG rfl rfl rfl rfl <| rY rfl rfl rfl <| rE rfl rfl rfl <| rE rfl rfl rfl <| rM rfl rfl <| rY rfl rfl rfl <| rM rfl rfl <| rY rfl rfl rfl <| ARun.qv (q_eql rfl rfl) rfl <| rE rfl rfl rfl <| rM rfl rfl <| ARun.guard_df rfl rfl rfl (fun hc => ?_) (fun hc => ?_)
                  · rw [if_neg hc] at h
                    exact rM rfl rfl <| rY rfl rfl rfl <| ARun.qv (q_eql rfl rfl) rfl <| rE rfl rfl rfl <| ARun.qv (q_not_d rfl) rfl <| rN <| ATodo.stop <| ImpX.lq [] ⟨decide (¬ ((c6.toNat : Int) = (95 : Int))), h, rfl⟩ rfl rfl
                  · rw [if_pos hc] at h
                    exact rG rfl rfl rfl rfl <| rT rfl rfl rfl <| ARun.qv (q_not rfl) rfl <| rN <| ATodo.stop <| ImpX.lq [] ⟨!true, h, rfl⟩ rfl rfl
              · rw [if_pos hc] at h
                exact rG rfl rfl rfl rfl <| rG rfl rfl rfl rfl <| ARun.guard_und rfl rfl rfl <| ARun.guard_und rfl rfl rfl <| rG rfl rfl rfl rfl <| rT rfl rfl rfl <| rM rfl rfl <| rG rfl rfl rfl rfl <| rG rfl rfl rfl rfl <| rT rfl rfl rfl <| rM rfl rfl <| rG rfl rfl rfl rfl <| rG rfl rfl rfl rfl <| rT rfl rfl rfl <| ARun.qv (q_not rfl) rfl <| rN <| ATodo.stop <| ImpX.lq [] ⟨!true, h, rfl⟩ rfl rfl
            · rw [if_neg hc] at h
              refine rG rfl rfl rfl rfl <| rE rfl rfl rfl <| rM rfl rfl <| rY rfl rfl rfl <| rM rfl rfl <| rY rfl rfl rfl <| ARun.qv (q_geq rfl rfl) rfl <| rY rfl rfl rfl <| rM rfl rfl <| ARun.guard_dt rfl rfl rfl (fun hc => ?_) (fun hc => ?_)
              · rw [if_pos hc] at h
                refine rM rfl rfl <| rY rfl rfl rfl <| ARun.qv (q_leq rfl rfl) rfl <| rY rfl rfl rfl <| rT rfl rfl rfl <| rE rfl rfl rfl <| rM rfl rfl <| ARun.guard_df rfl rfl rfl (fun hc => ?_) (fun hc => ?_)
                · rw [if_neg hc] at h
                  refine rM rfl rfl <| rY rfl rfl rfl <| ARun.qv (q_eql rfl rfl) rfl <| rE rfl rfl rfl <| rM rfl rfl <| ARun.guard_df rfl rfl rfl (fun hc => ?_) (fun hc => ?_)
                  · rw [if_neg hc] at h
                    exact rM rfl rfl <| rY rfl rfl rfl <| ARun.qv (q_eql rfl rfl) rfl <| rE rfl rfl rfl <| ARun.qv (q_not_d rfl) rfl <| rN <| ATodo.stop <| ImpX.lq [] ⟨decide (¬ ((c6.toNat : Int) = (95 : Int))), h, rfl⟩ rfl rfl
                  · rw [if_pos hc] at h
                    exact rG rfl rfl rfl rfl <| rT rfl rfl rfl <| ARun.qv (q_not rfl) rfl <| rN <| ATodo.stop <| ImpX.lq [] ⟨!true, h, rfl⟩ rfl rfl
                · rw [if_pos hc] at h
                  exact rG rfl rfl rfl rfl <| rT rfl rfl rfl <| rM rfl rfl <| rG rfl rfl rfl rfl <| rG rfl rfl rfl rfl <| rT rfl rfl rfl <| ARun.qv (q_not rfl) rfl <| rN <| ATodo.stop <| ImpX.lq [] ⟨!true, h, rfl⟩ rfl rfl
              · rw [if_neg hc] at h
                refine rG rfl rfl rfl rfl <| rY rfl rfl rfl <| rE rfl rfl rfl <| rE rfl rfl rfl <| rM rfl rfl <| rY rfl rfl rfl <| rM rfl rfl <| rY rfl rfl rfl <| ARun.qv (q_eql rfl rfl) rfl <| rE rfl rfl rfl <| rM rfl rfl <| ARun.guard_df rfl rfl rfl (fun hc => ?_) (fun hc => ?_)
                · rw [if_neg hc] at h
                  exact rM rfl rfl <| rY rfl rfl rfl <| ARun.qv (q_eql rfl rfl) rfl <| rE rfl rfl rfl <| ARun.qv (q_not_d rfl) rfl <| rN <| ATodo.stop <| ImpX.lq [] ⟨decide (¬ ((c6.toNat : Int) = (95 : Int))), h, rfl⟩ rfl rfl
                · rw [if_pos hc] at h
                  exact rG rfl rfl rfl rfl <| rT rfl rfl rfl <| ARun.qv (q_not rfl) rfl <| rN <| ATodo.stop <| ImpX.lq [] ⟨!true, h, rfl⟩ rfl rfl
          · rintro σ' ⟨c7, h, rfl⟩
            unfold base_Key_j2 at h
            refine ATodo.cond rfl (fun hc => ?_) (fun hc => ?_)
            · refine have h := iteT hc h; tSR <| rA rfl rfl <| rN <| ATodo.ret <| have h := outL h hA1; ?_
              obtain rfl := Option.some.inj h
              exact ImpX.here ⟨_, .cons (.tmp _ _ rfl) .nil, rfl⟩
            · refine have h := iteFb hc h; tK <| ATodo.blk <| tR <| ARun.qv (q_addw rfl rfl) rfl <| rM rfl rfl <| rN <| ATodo.stop <| ?_
              obtain rfl := Option.some.inj h
              exact hJ1 _ _ rfl <| ImpX.lq [] rfl rfl rfl
        · refine have h := iteF hc h; ATodo.exit rfl <| have h := outL h hA1; tSR <| rA rfl rfl <| rN <| ATodo.ret <| ?_
          obtain rfl := Option.some.inj h
          exact ImpX.here ⟨_, .cons (.tmp _ _ rfl) .nil, rfl⟩

set_option maxHeartbeats 4000000 in
theorem base_Out_c {p0x0 : Int} {p1x0 : Int} {p2x0 : Int} {r : Bool} (h : base_Out p0x0 p1x0 p2x0 = r) : Pu Try.prog 53 [I p0x0, I p1x0, I p2x0] (.bool r) := by
  unfold base_Out at h
  refine ACall.bodyN Try.func53 rfl Try.ntmps53 Try.results53 rfl rfl ?_
  refine tSR <| rA rfl rfl <| rN <| tS <| ATodo.cut (fun σ' => ∃ (c1 : Bool), base_Out_j1 c1 = r ∧ σ' = ⟨15, [(6, .bool c1)], []⟩) ?_ ?_
  · refine tR <| rM rfl rfl <| rM rfl rfl <| ARun.qv (q_lss rfl rfl) rfl <| rM rfl rfl <| ARun.guard_df rfl rfl rfl (fun hc => ?_) (fun hc => ?_)
    · rw [orFd hc] at h
      exact rM rfl rfl <| rY rfl rfl rfl <| rM rfl rfl <| rY rfl rfl rfl <| ARun.qv (q_gtr rfl rfl) rfl <| rE rfl rfl rfl <| rA rfl rfl <| rN <| ATodo.stop <| ImpX.lq [] ⟨decide (p2x0 < p0x0), h, rfl⟩ rfl rfl
    · rw [orTd hc] at h
      exact rG rfl rfl rfl rfl <| rG rfl rfl rfl rfl <| rT rfl rfl rfl <| rA rfl rfl <| rN <| ATodo.stop <| ImpX.lq [] ⟨true, h, rfl⟩ rfl rfl
  · rintro σ' ⟨c1, h, rfl⟩
    unfold base_Out_j1 at h
    refine ATodo.ret <| ?_
    obtain rfl := h
    exact ImpX.here ⟨_, .cons (.tmp _ _ rfl) .nil, rfl⟩

set_option maxHeartbeats 4000000 in
theorem base_Moment_c {p0x0 : Int} {r : Bool} (h : base_Moment p0x0 = r) : Pu Try.prog 161 [I p0x0] (.bool r) := by
  unfold base_Moment at h
  refine ACall.bodyN Try.func161 rfl Try.ntmps161 Try.results161 rfl rfl ?_
  refine tSR <| rA rfl rfl <| rN <| tSR <| rM rfl rfl <| r_callp rfl (base_Out_c rfl) (CoL.refl _) rfl <| ARun.qv (q_not rfl) rfl <| rA rfl rfl <| rN <| ATodo.ret <| ?_
  obtain rfl := h
  exact ImpX.here ⟨_, .cons (.tmp _ _ rfl) .nil, rfl⟩

set_option maxHeartbeats 4000000 in
theorem place_spot_c {p0x0 : Fix} {r : Spot} (h : place_spot p0x0 = r) : Pu Try.prog 69 [.agg [.str p0x0.Device, I p0x0.At, I p0x0.X, I p0x0.Y, I p0x0.Error]] (.agg [I r.X, I r.Y]) := by
  unfold place_spot at h
  refine ACall.bodyN Try.func69 rfl Try.ntmps69 Try.results69 rfl rfl ?_
  refine tSR <| n_box rfl rfl rfl rfl fun b1 => n_alloc rfl rfl rfl rfl fun b2 => rN <| tSR <| rF rfl rfl rfl <| rL rfl rfl .p1 rfl rfl <| rF rfl rfl rfl <| rL rfl rfl .p1 rfl rfl <| ARun.qv (n_build rfl rfl rfl rfl rfl) rfl <| n_store_ptr rfl rfl rfl rfl .p0 rfl rfl <| rN <| ATodo.ret <| ?_
  obtain rfl := h
  exact ImpX.here ⟨_, .cons (.all _ _ _ _ _ _ rfl .p0 TUnder.h TInfo.h rfl rfl) .nil, rfl⟩

set_option maxHeartbeats 4000000 in
theorem place_isSpot_c {p0x0 : Spot} {r : Bool} (h : place_isSpot p0x0 = r) : Pu Try.prog 95 [.agg [I p0x0.X, I p0x0.Y]] (.bool r) := by
  unfold place_isSpot at h
  refine ACall.bodyN Try.func95 rfl Try.ntmps95 Try.results95 rfl rfl ?_
  refine tSR <| n_box rfl rfl rfl rfl fun b1 => rA rfl rfl <| rN <| tS <| ATodo.cut (fun σ' => ∃ (c2 : Bool), place_isSpot_j1 c2 = r ∧ σ' = ⟨13, [(2, .bool c2)], []⟩) ?_ ?_
  · refine tR <| rF rfl rfl rfl <| rL rfl rfl .p0 rfl rfl <| r_callp rfl (base_Out_c rfl) (CoL.refl _) rfl <| ARun.qv (q_not rfl) rfl <| rM rfl rfl <| ARun.guard rfl rfl rfl (fun hc => ?_) (fun hc => ?_)
    · rw [andTb hc] at h
      exact rF rfl rfl rfl <| rY rfl rfl rfl <| rL rfl rfl .p0 rfl rfl <| rY rfl rfl rfl <| r_callp rfl (base_Out_c rfl) (CoL.refl _) rfl <| rY rfl rfl rfl <| ARun.qv (q_not rfl) rfl <| rT rfl rfl rfl <| rA rfl rfl <| rN <| ATodo.stop <| ImpX.lq [] ⟨!(base_Out p0x0.Y (-10000 : Int) (10000 : Int)), h, rfl⟩ rfl rfl
    · rw [andFb hc] at h
      exact rG rfl rfl rfl rfl <| rG rfl rfl rfl rfl <| rG rfl rfl rfl rfl <| rE rfl rfl rfl <| rA rfl rfl <| rN <| ATodo.stop <| ImpX.lq [] ⟨false, h, rfl⟩ rfl rfl
  · rintro σ' ⟨c2, h, rfl⟩
    unfold place_isSpot_j1 at h
    refine ATodo.ret <| ?_
    obtain rfl := h
    exact ImpX.here ⟨_, .cons (.tmp _ _ rfl) .nil, rfl⟩

set_option maxHeartbeats 4000000 in
theorem cmp_isNaN_int_c {p0x0 : Int} {r : Bool} (h : cmp_isNaN_int p0x0 = r) : Pu Try.prog 188 [I p0x0] (.bool r) := by
  unfold cmp_isNaN_int at h
  refine ACall.bodyN Try.func188 rfl Try.ntmps188 Try.results188 rfl rfl ?_
  refine tSR <| rA rfl rfl <| rN <| tSR <| rM rfl rfl <| rM rfl rfl <| ARun.qv (q_neq rfl rfl) rfl <| rA rfl rfl <| rN <| ATodo.ret <| ?_
  obtain rfl := h
  exact ImpX.here ⟨_, .cons (.tmp _ _ rfl) .nil, rfl⟩

set_option maxHeartbeats 4000000 in
theorem cmp_Compare_int_c {p0x0 : Int} {p1x0 : Int} {r : Int} (h : cmp_Compare_int p0x0 p1x0 = r) : Pu Try.prog 152 [I p0x0, I p1x0] (I r) := by
  unfold cmp_Compare_int at h
  refine ACall.bodyN Try.func152 rfl Try.ntmps152 Try.results152 rfl rfl ?_
  refine tSR <| rA rfl rfl <| rN <| tSR <| rM rfl rfl <| r_callp rfl (cmp_isNaN_int_c rfl) (CoL.refl _) rfl <| rA rfl rfl <| rN <| tSR <| rM rfl rfl <| r_callp rfl (cmp_isNaN_int_c rfl) (CoL.refl _) rfl <| rA rfl rfl <| rN <| tS <| tSR <| rM rfl rfl <| rN <| ATodo.cond rfl (fun hc => ?_) (fun hc => ?_)
  · refine have h := iteT hc h; tS <| tSR <| rM rfl rfl <| rN <| ATodo.cond rfl (fun hc => ?_) (fun hc => ?_)
    · refine have h := iteT hc h; tSR <| rA rfl rfl <| rN <| ATodo.ret <| ?_
      obtain rfl := h
      exact ImpX.here ⟨_, .cons (.tmp _ _ rfl) .nil, rfl⟩
    · refine have h := iteFb hc h; tK <| tSR <| rA rfl rfl <| rN <| ATodo.ret <| ?_
      obtain rfl := h
      exact ImpX.here ⟨_, .cons (.tmp _ _ rfl) .nil, rfl⟩
  · refine have h := iteFb hc h; tK <| tS <| tSR <| rM rfl rfl <| rN <| ATodo.cond rfl (fun hc => ?_) (fun hc => ?_)
    · refine have h := iteT hc h; tSR <| rA rfl rfl <| rN <| ATodo.ret <| ?_
      obtain rfl := h
      exact ImpX.here ⟨_, .cons (.tmp _ _ rfl) .nil, rfl⟩
    · refine have h := iteFb hc h; tK <| tS <| tSR <| rM rfl rfl <| rM rfl rfl <| ARun.qv (q_lss rfl rfl) rfl <| rN <| ATodo.cond_d rfl (fun hc => ?_) (fun hc => ?_)
      · refine have h := iteT hc h; tSR <| rA rfl rfl <| rN <| ATodo.ret <| ?_
        obtain rfl := h
        exact ImpX.here ⟨_, .cons (.tmp _ _ rfl) .nil, rfl⟩
      · refine have h := iteF hc h; tK <| tS <| tSR <| rM rfl rfl <| rM rfl rfl <| ARun.qv (q_gtr rfl rfl) rfl <| rN <| ATodo.cond_d rfl (fun hc => ?_) (fun hc => ?_)
        · refine have h := iteT hc h; tSR <| rA rfl rfl <| rN <| ATodo.ret <| ?_
          obtain rfl := h
          exact ImpX.here ⟨_, .cons (.tmp _ _ rfl) .nil, rfl⟩
        · refine have h := iteF hc h; tK <| tSR <| rA rfl rfl <| rN <| ATodo.ret <| ?_
          obtain rfl := h
          exact ImpX.here ⟨_, .cons (.tmp _ _ rfl) .nil, rfl⟩

set_option maxHeartbeats 4000000 in
theorem cmp_Or_int_c {p0x0 : List Int} {r : Int} (h : cmp_Or_int p0x0 = some r) : Pu Try.prog 151 [.list 1 (p0x0.map I)] (I r) := by
  unfold cmp_Or_int at h
  refine ACall.bodyN Try.func151 rfl Try.ntmps151 Try.results151 rfl rfl ?_
  refine tSR <| rA rfl rfl <| rN <| tSR <| rA rfl rfl <| rN <| tS <| tSR <| rM rfl rfl <| ARun.qv (t_len rfl) rfl <| rM rfl rfl <| rN <| ATodo.block <| ATodo.loopI (fun x : Int => cmp_Or_int_b1 p0x0 x) (fun x σ' => σ' = ⟨18, [(3, I (0 : Int)), (6, .list 1 (p0x0.map I)), (7, I (p0x0.length : Int)), (8, I x)], []⟩) h ?_ ?_
  · exact ImpX.lq [] rfl rfl rfl
  · intro n2 z1 σ' J1 hmk h hJ1 hA1
    obtain rfl := hmk
    replace h : cmp_Or_int_b1 p0x0 n2 = some z1 := h
    unfold cmp_Or_int_b1 at h
    refine tSR <| ARun.qv (q_lss rfl rfl) rfl <| rN <| tS <| ATodo.cond_d rfl (fun hc => ?_) (fun hc => ?_)
    · refine have h := iteT hc h; tK <| tS <| ATodo.block <| tSR <| bndE h fun v3 e1 h => ARun.qv (t_index rfl rfl rfl e1 rfl rfl) rfl <| ARun.qv (q_load_rptr rfl rfl rfl) rfl <| rA rfl rfl <| rN <| tSR <| rM rfl rfl <| rM rfl rfl <| ARun.qv (q_neq rfl rfl) rfl <| rN <| ATodo.cond_d rfl (fun hc => ?_) (fun hc => ?_)
      · refine have h := iteT hc h; tSR <| rM rfl rfl <| rA rfl rfl <| rN <| ATodo.ret <| have h := outL h hA1; ?_
        obtain rfl := Option.some.inj h
        exact ImpX.here ⟨_, .cons (.tmp _ _ rfl) .nil, rfl⟩
      · refine have h := iteF hc h; tK <| ATodo.blk <| tR <| ARun.qv (q_addw rfl rfl) rfl <| rM rfl rfl <| rN <| ATodo.stop <| ?_
        obtain rfl := Option.some.inj h
        exact hJ1 _ _ rfl <| ImpX.lq [] rfl rfl rfl
    · refine have h := iteF hc h; ATodo.exit rfl <| have h := outL h hA1; tSR <| rM rfl rfl <| rA rfl rfl <| rN <| ATodo.ret <| ?_
      obtain rfl := Option.some.inj h
      exact ImpX.here ⟨_, .cons (.tmp _ _ rfl) .nil, rfl⟩

set_option maxHeartbeats 4000000 in
theorem place_byDevice_c {p0x0 : Fix} {p1x0 : Fix} {r : Int} (h : place_byDevice p0x0 p1x0 = some r) : Pu Try.prog 162 [.agg [.str p0x0.Device, I p0x0.At, I p0x0.X, I p0x0.Y, I p0x0.Error], .agg [.str p1x0.Device, I p1x0.At, I p1x0.X, I p1x0.Y, I p1x0.Error]] (I r) := by
  unfold place_byDevice at h
  refine ACall.bodyN Try.func162 rfl Try.ntmps162 Try.results162 rfl rfl ?_
  refine tSR <| n_box rfl rfl rfl rfl fun b1 => n_box rfl rfl rfl rfl fun b2 => rA rfl rfl <| rN <| tS <| ATodo.regionM (id := 1) (A := [0, 1, 0, 4, 15, 0, 32, 0, 128, 511, 1023, 2047, 4095]) 13 mixed rfl (by kernel_rfl) (by kernel_rfl) <| AM.qv (n_field_ptr rfl rfl) rfl <| AM.qv (q_load_ptr rfl rfl .p1 rfl) rfl <| AM.qv (n_field_ptr rfl rfl) rfl <| AM.qv (q_load_ptr rfl rfl .p0 rfl) rfl <| AM.callp rfl (strings_Compare_c rfl) (CoL.refl _) rfl <| AM.qv (n_field_ptr rfl rfl) rfl <| AM.qv (q_load_ptr rfl rfl .p1 rfl) rfl <| AM.qv (n_field_ptr rfl rfl) rfl <| AM.qv (q_load_ptr rfl rfl .p0 rfl) rfl <| AM.callp rfl (cmp_Compare_int_c rfl) (CoL.refl _) rfl <| AM.buildSliceL (xs := ([(Lib.compareBytes p0x0.Device p1x0.Device), (cmp_Compare_int p0x0.At p1x0.At)] : List Int).map I) rfl rfl rfl rfl rfl rfl <| bndE h fun v3 e1 h => AM.callp rfl (cmp_Or_int_c e1) (CoL.refl _) rfl <| AM.qv (q_assign rfl) rfl <| AM.nil <| rN <| ATodo.ret <| ?_
  obtain rfl := Option.some.inj h
  exact ImpX.here ⟨_, .cons (.tmp _ _ rfl) .nil, rfl⟩

set_option maxHeartbeats 4000000 in
theorem place_CheckFixes_c {p0x0 : List Fix} {r : Int} (h : place_CheckFixes p0x0 = some r) : Pu Try.prog 122 [.list 5 (p0x0.map Fix.av)] (I r) := by
  unfold place_CheckFixes at h
  refine ACall.bodyN Try.func122 rfl Try.ntmps122 Try.results122 rfl rfl ?_
  refine tSR <| rA rfl rfl <| rN <| tS <| tSR <| rM rfl rfl <| ARun.qv (t_len rfl) rfl <| ARun.qv (q_gtr rfl rfl) rfl <| rN <| ATodo.cond_d rfl (fun hc => ?_) (fun hc => ?_)
  · refine have h := iteT hc h; tSR <| rA rfl rfl <| rN <| ATodo.ret <| ?_
    obtain rfl := Option.some.inj h
    exact ImpX.here ⟨_, .cons (.tmp _ _ rfl) .nil, rfl⟩
  · refine have h := iteF hc h; tK <| tS <| tSR <| rM rfl rfl <| ARun.qv (t_len rfl) rfl <| rM rfl rfl <| rN <| ATodo.block <| ATodo.loopI (fun x : Int => place_CheckFixes_b1 p0x0 x) (fun x σ' => σ' = ⟨50, [(0, .list 5 (p0x0.map Fix.av)), (8, .list 5 (p0x0.map Fix.av)), (9, I (p0x0.length : Int)), (10, I x)], []⟩) h ?_ ?_
    · exact ImpX.lq [] rfl rfl rfl
    · intro n2 z1 σ' J1 hmk h hJ1 hA1
      obtain rfl := hmk
      replace h : place_CheckFixes_b1 p0x0 n2 = some z1 := h
      unfold place_CheckFixes_b1 at h
      refine tSR <| ARun.qv (q_lss rfl rfl) rfl <| rN <| tS <| ATodo.cond_d rfl (fun hc => ?_) (fun hc => ?_)
      · refine have h := iteT hc h; tK <| tS <| ATodo.block <| tSR <| rM rfl rfl <| bndE h fun v3 e1 h => ARun.qv (t_index rfl rfl rfl e1 rfl rfl) rfl <| ARun.qv (q_load_rptr_agg rfl rfl rfl) rfl <| n_alloc rfl rfl rfl rfl fun b4 => rA rfl rfl <| n_store_ptr rfl rfl rfl rfl .p0 rfl rfl <| rN <| ATodo.block <| tSR <| rF rfl rfl rfl <| rL rfl rfl .p0 rfl rfl <| bndE h fun v5 e2 h => r_callp rfl (base_Key_c e2) (CoL.refl _) rfl <| ARun.qv (q_not rfl) rfl <| rA rfl rfl <| rN <| ATodo.cond rfl (fun hc => ?_) (fun hc => ?_)
        · refine have h := iteT hc h; tSR <| rA rfl rfl <| rN <| ATodo.ret <| have h := outL h hA1; ?_
          obtain rfl := Option.some.inj h
          exact ImpX.here ⟨_, .cons (.tmp _ _ rfl) .nil, rfl⟩
        · refine have h := iteFb hc h; tS <| ATodo.cut (fun σ' => ∃ (c6 : Bool), place_CheckFixes_j1 p0x0 n2 v3 c6 = some z1 ∧ σ' = ⟨50, [(0, .list 5 (p0x0.map Fix.av)), (3, I n2), (4, .ptr b4 0), (8, .list 5 (p0x0.map Fix.av)), (9, I (p0x0.length : Int)), (10, I n2), (20, .bool c6)], [(b4, .cells [.str v3.Device, I v3.At, I v3.X, I v3.Y, I v3.Error])]⟩) ?_ ?_
          · refine tR <| rF rfl rfl rfl <| rL rfl rfl .p0 rfl rfl <| r_callp rfl (base_Moment_c rfl) (CoL.refl _) rfl <| ARun.qv (q_not rfl) rfl <| rM rfl rfl <| ARun.guard rfl rfl rfl (fun hc => ?_) (fun hc => ?_)
            · rw [orFb hc] at h
              refine ARun.qv (q_load_ptr_all rfl rfl .p0 rfl) rfl <| rY rfl rfl rfl <| r_callp rfl (place_spot_c rfl) (CoL.refl _) rfl <| rY rfl rfl rfl <| r_callp rfl (place_isSpot_c rfl) (CoL.refl _) rfl <| rY rfl rfl rfl <| ARun.qv (q_not rfl) rfl <| rE rfl rfl rfl <| rM rfl rfl <| ARun.guard rfl rfl rfl (fun hc => ?_) (fun hc => ?_)
              · rw [orFb hc] at h
                exact rF rfl rfl rfl <| rY rfl rfl rfl <| rL rfl rfl .p0 rfl rfl <| rY rfl rfl rfl <| r_callp rfl (base_Out_c rfl) (CoL.refl _) rfl <| rE rfl rfl rfl <| rA rfl rfl <| rN <| ATodo.stop <| ImpX.lq [0] ⟨(base_Out v3.Error (0 : Int) (10000 : Int)), h, rfl⟩ rfl rfl
              · rw [orTb hc] at h
                exact rG rfl rfl rfl rfl <| rG rfl rfl rfl rfl <| rT rfl rfl rfl <| rA rfl rfl <| rN <| ATodo.stop <| ImpX.lq [0] ⟨true, h, rfl⟩ rfl rfl
            · rw [orTb hc] at h
              exact rG rfl rfl rfl rfl <| rG rfl rfl rfl rfl <| rG rfl rfl rfl rfl <| rT rfl rfl rfl <| rM rfl rfl <| rG rfl rfl rfl rfl <| rG rfl rfl rfl rfl <| rG rfl rfl rfl rfl <| rT rfl rfl rfl <| rA rfl rfl <| rN <| ATodo.stop <| ImpX.lq [0] ⟨true, h, rfl⟩ rfl rfl
          · rintro σ' ⟨c6, h, rfl⟩
            unfold place_CheckFixes_j1 at h
            refine ATodo.cond rfl (fun hc => ?_) (fun hc => ?_)
            · refine have h := iteT hc h; tSR <| rA rfl rfl <| rN <| ATodo.ret <| have h := outL h hA1; ?_
              obtain rfl := Option.some.inj h
              exact ImpX.here ⟨_, .cons (.tmp _ _ rfl) .nil, rfl⟩
            · refine have h := iteFb hc h; tS <| ATodo.cut (fun σ' => ∃ (c7 : Bool), place_CheckFixes_j2 n2 c7 = some z1 ∧ σ' = ⟨50, [(0, .list 5 (p0x0.map Fix.av)), (8, .list 5 (p0x0.map Fix.av)), (9, I (p0x0.length : Int)), (10, I n2), (36, .bool c7)], []⟩) ?_ ?_
              · refine ATodo.regionM (id := 10) (A := [0, 1, 3, 7, 7, 7, 39, 119, 247, 511, 1023, 2047, 4095]) 13 mixed rfl (by kernel_rfl) (by kernel_rfl) <| AM.qv (q_move rfl) rfl <| AM.qv (q_gtr rfl rfl) rfl <| AM.qv (q_move rfl) rfl <| AM.guard_dt rfl rfl rfl (fun hc => ?_) (fun hc => ?_)
                · exact have h := iteT hc h; AM.qv (q_load_ptr_all rfl rfl .p0 rfl) rfl <| AM.guard_yes rfl rfl rfl <| AM.qv (q_move rfl) rfl <| AM.guard_yes rfl rfl rfl <| AM.qv (q_move rfl) rfl <| AM.guard_yes rfl rfl rfl <| AM.qv (q_subw rfl rfl) rfl <| AM.guard_yes rfl rfl rfl <| bndE h fun v8 e3 h => AM.qv (t_index rfl rfl rfl e3 rfl rfl) rfl <| AM.guard_yes rfl rfl rfl <| AM.qv (q_load_rptr_agg rfl rfl rfl) rfl <| AM.guard_yes rfl rfl rfl <| bndE h fun v9 e4 h => AM.callp rfl (place_byDevice_c e4) (CoL.refl _) rfl <| AM.guard_yes rfl rfl rfl <| AM.qv (q_leq rfl rfl) rfl <| AM.qv (q_pick_t rfl rfl) rfl <| AM.qv (q_assign rfl) rfl <| AM.nil <| rN <| ATodo.stop <| ImpX.lq [] ⟨decide (v9 ≤ (0 : Int)), h, rfl⟩ rfl rfl
                · exact have h := iteF hc h; AM.guard_no rfl rfl rfl rfl <| AM.guard_no rfl rfl rfl rfl <| AM.guard_no rfl rfl rfl rfl <| AM.guard_no rfl rfl rfl rfl <| AM.guard_no rfl rfl rfl rfl <| AM.guard_no rfl rfl rfl rfl <| AM.guard_no rfl rfl rfl rfl <| AM.qv (q_pick_f rfl rfl) rfl <| AM.qv (q_assign rfl) rfl <| AM.nil <| rN <| ATodo.stop <| ImpX.lq [] ⟨false, h, rfl⟩ rfl rfl
              · rintro σ' ⟨c7, h, rfl⟩
                unfold place_CheckFixes_j2 at h
                refine ATodo.cond rfl (fun hc => ?_) (fun hc => ?_)
                · refine have h := iteT hc h; tSR <| rA rfl rfl <| rN <| ATodo.ret <| have h := outL h hA1; ?_
                  obtain rfl := Option.some.inj h
                  exact ImpX.here ⟨_, .cons (.tmp _ _ rfl) .nil, rfl⟩
                · refine have h := iteFb hc h; tK <| ATodo.blk <| ATodo.blk <| tR <| ARun.qv (q_addw rfl rfl) rfl <| rM rfl rfl <| rN <| ATodo.stop <| ?_
                  obtain rfl := Option.some.inj h
                  exact hJ1 _ _ rfl <| ImpX.lq [] rfl rfl rfl
      · refine have h := iteF hc h; ATodo.exit rfl <| have h := outL h hA1; tSR <| rA rfl rfl <| rN <| ATodo.ret <| ?_
        obtain rfl := Option.some.inj h
        exact ImpX.here ⟨_, .cons (.tmp _ _ rfl) .nil, rfl⟩

set_option maxHeartbeats 4000000 in
theorem place_trackFault_1x_c {p0x0 : Fix} {p1x0 : List Fix} {r : Bool} (h : place_trackFault_1x p0x0 p1x0 = some r) : Pu Try.prog 123 [.agg [.str p0x0.Device, I p0x0.At, I p0x0.X, I p0x0.Y, I p0x0.Error], .rptr [.list 5 (p1x0.map Fix.av)]] (.bool r) := by
  unfold place_trackFault_1x at h
  refine ACall.bodyN Try.func123 rfl Try.ntmps123 Try.results123 rfl rfl ?_
  refine tSR <| n_box rfl rfl rfl rfl fun b1 => rA rfl rfl <| rN <| tS <| ATodo.regionM (id := 1) (A := [0, 1, 0, 4, 12, 28, 63, 127]) 8 mixed rfl (by kernel_rfl) (by kernel_rfl) <| AM.qv (n_field_ptr rfl rfl) rfl <| AM.qv (q_load_ptr rfl rfl .p0 rfl) rfl <| AM.qv (q_load_rptr rfl rfl rfl) rfl <| bndE h fun v2 e1 h => AM.qv (t_index rfl rfl rfl e1 rfl rfl) rfl <| AM.qv (n_field_rptr rfl rfl) rfl <| AM.qv (q_load_rptr rfl rfl rfl) rfl <| AM.qv (q_sne rfl rfl) rfl <| AM.qv (q_assign rfl) rfl <| AM.nil <| rN <| ATodo.ret <| ?_
  obtain rfl := Option.some.inj h
  exact ImpX.here ⟨_, .cons (.tmp _ _ rfl) .nil, rfl⟩

set_option maxHeartbeats 4000000 in
theorem slices_IndexFunc_Fix_Fix_c {p0x0 : List Fix} {fnb : Fix → Option Bool} {fnb_F : FuncId} [IsFn Try.prog fnb_F] {fnb_C : List AV} (fnb_h : ∀ {y0 : _} {u : Bool}, fnb y0 = some u → Pu Try.prog fnb_F (.agg [.str y0.Device, I y0.At, I y0.X, I y0.Y, I y0.Error] ::  fnb_C) (.bool u)) {r : Int} (h : slices_IndexFunc_Fix_Fix p0x0 fnb = some r) : Pu Try.prog 128 [.list 5 (p0x0.map Fix.av), .func (.func fnb_F) fnb_C] (I r) := by
  unfold slices_IndexFunc_Fix_Fix at h
  refine ACall.bodyN Try.func128 rfl Try.ntmps128 Try.results128 rfl rfl ?_
  refine tSR <| rA rfl rfl <| rN <| tS <| tSR <| rM rfl rfl <| ARun.qv (t_len rfl) rfl <| rM rfl rfl <| rN <| ATodo.block <| ATodo.loopI (fun x : Int => slices_IndexFunc_Fix_Fix_b1 p0x0 fnb x) (fun x σ' => σ' = ⟨19, [(0, .list 5 (p0x0.map Fix.av)), (1, .func (.func fnb_F) fnb_C), (7, I (p0x0.length : Int)), (8, I x)], []⟩) h ?_ ?_
  · exact ImpX.lq [] rfl rfl rfl
  · intro n2 z1 σ' J1 hmk h hJ1 hA1
    obtain rfl := hmk
    replace h : slices_IndexFunc_Fix_Fix_b1 p0x0 fnb n2 = some z1 := h
    unfold slices_IndexFunc_Fix_Fix_b1 at h
    refine tSR <| ARun.qv (q_lss rfl rfl) rfl <| rN <| tS <| ATodo.cond_d rfl (fun hc => ?_) (fun hc => ?_)
    · refine have h := iteT hc h; tK <| tS <| ATodo.block <| tSR <| rM rfl rfl <| rA rfl rfl <| rN <| tSR <| rM rfl rfl <| rM rfl rfl <| rM rfl rfl <| bndE h fun v3 e1 h => ARun.qv (t_index rfl rfl rfl e1 rfl rfl) rfl <| ARun.qv (q_load_rptr_agg rfl rfl rfl) rfl <| bndE h fun v4 e2 h => r_callvp rfl rfl (fnb_h e2) (CoL.refl _) rfl <| rN <| ATodo.cond rfl (fun hc => ?_) (fun hc => ?_)
      · refine have h := iteT hc h; tSR <| rM rfl rfl <| rA rfl rfl <| rN <| ATodo.ret <| have h := outL h hA1; ?_
        obtain rfl := Option.some.inj h
        exact ImpX.here ⟨_, .cons (.tmp _ _ rfl) .nil, rfl⟩
      · refine have h := iteFb hc h; tK <| ATodo.blk <| tR <| ARun.qv (q_addw rfl rfl) rfl <| rM rfl rfl <| rN <| ATodo.stop <| ?_
        obtain rfl := Option.some.inj h
        exact hJ1 _ _ rfl <| ImpX.lq [] rfl rfl rfl
    · refine have h := iteF hc h; ATodo.exit rfl <| have h := outL h hA1; tSR <| rA rfl rfl <| rN <| ATodo.ret <| ?_
      obtain rfl := Option.some.inj h
      exact ImpX.here ⟨_, .cons (.tmp _ _ rfl) .nil, rfl⟩

set_option maxHeartbeats 4000000 in
theorem slices_ContainsFunc_Fix_Fix_c {p0x0 : List Fix} {fnb : Fix → Option Bool} {fnb_F : FuncId} [IsFn Try.prog fnb_F] {fnb_C : List AV} (fnb_h : ∀ {y0 : _} {u : Bool}, fnb y0 = some u → Pu Try.prog fnb_F (.agg [.str y0.Device, I y0.At, I y0.X, I y0.Y, I y0.Error] ::  fnb_C) (.bool u)) {r : Bool} (h : slices_ContainsFunc_Fix_Fix p0x0 fnb = some r) : Pu Try.prog 75 [.list 5 (p0x0.map Fix.av), .func (.func fnb_F) fnb_C] (.bool r) := by
  unfold slices_ContainsFunc_Fix_Fix at h
  refine ACall.bodyN Try.func75 rfl Try.ntmps75 Try.results75 rfl rfl ?_
  refine tSR <| rA rfl rfl <| rN <| tSR <| rM rfl rfl <| rM rfl rfl <| bndE h fun v1 e1 h => r_callpB rfl (slices_IndexFunc_Fix_Fix_c fnb_h e1) (.cons (.co (.refl _)) (.cons (.co (.refl _)) .nil)) rfl rfl <| ARun.qv (q_geq rfl rfl) rfl <| rA rfl rfl <| rN <| ATodo.ret <| ?_
  obtain rfl := Option.some.inj h
  exact ImpX.here ⟨_, .cons (.tmp _ _ rfl) .nil, rfl⟩

set_option maxHeartbeats 4000000 in
theorem place_trackFault_c {p0x0 : List Fix} {r : Int} (h : place_trackFault p0x0 = some r) : Pu Try.prog 66 [.list 5 (p0x0.map Fix.av)] (I r) := by
  unfold place_trackFault at h
  refine ACall.bodyN Try.func66 rfl Try.ntmps66 Try.results66 rfl rfl ?_
  refine tSR <| n_box rfl rfl rfl rfl fun b1 => rA rfl rfl <| rN <| tS <| tSR <| rL rfl rfl .p0 rfl rfl <| bndE h fun v2 e1 h => r_callp rfl (place_CheckFixes_c e1) (CoL.refl _) rfl <| rA rfl rfl <| rN <| tSR <| rM rfl rfl <| ARun.qv (q_neq rfl rfl) rfl <| rN <| ATodo.cond_d rfl (fun hc => ?_) (fun hc => ?_)
  · refine have h := iteT hc h; tSR <| rM rfl rfl <| rA rfl rfl <| rN <| ATodo.ret <| ?_
    obtain rfl := Option.some.inj h
    exact ImpX.here ⟨_, .cons (.tmp _ _ rfl) .nil, rfl⟩
  · refine have h := iteF hc h; tK <| tS <| tSR <| rL rfl rfl .p0 rfl rfl <| ARun.qv (q_makeFunc rfl) rfl <| bndE h fun v3 e2 h => r_callpB rfl (slices_ContainsFunc_Fix_Fix_c (fun e => place_trackFault_1x_c e) e2) (.cons (.co (.refl _)) (.cons (.funcL _ _ _ (.cons (.boxL _ _ _ .p0 (.cons (.co (.refl _)) .nil)) .nil)) .nil)) rfl rfl <| rN <| ATodo.cond rfl (fun hc => ?_) (fun hc => ?_)
    · refine have h := iteT hc h; tSR <| rA rfl rfl <| rN <| ATodo.ret <| ?_
      obtain rfl := Option.some.inj h
      exact ImpX.here ⟨_, .cons (.tmp _ _ rfl) .nil, rfl⟩
    · refine have h := iteFb hc h; tK <| tSR <| rA rfl rfl <| rN <| ATodo.ret <| ?_
      obtain rfl := Option.some.inj h
      exact ImpX.here ⟨_, .cons (.tmp _ _ rfl) .nil, rfl⟩

set_option maxHeartbeats 4000000 in
theorem place_square_c {p0x0 : Spot} {p1x0 : Spot} {r : Int} (h : place_square p0x0 p1x0 = r) : Pu Try.prog 68 [.agg [I p0x0.X, I p0x0.Y], .agg [I p1x0.X, I p1x0.Y]] (I r) := by
  unfold place_square at h
  refine ACall.bodyN Try.func68 rfl Try.ntmps68 Try.results68 rfl rfl ?_
  refine tSR <| n_box rfl rfl rfl rfl fun b1 => n_box rfl rfl rfl rfl fun b2 => rA rfl rfl <| rN <| tSR <| rF rfl rfl rfl <| rL rfl rfl .p1 rfl rfl <| rF rfl rfl rfl <| rL rfl rfl .p0 rfl rfl <| ARun.qv (q_subw rfl rfl) rfl <| rF rfl rfl rfl <| rL rfl rfl .p1 rfl rfl <| rF rfl rfl rfl <| rL rfl rfl .p0 rfl rfl <| ARun.qv (q_subw rfl rfl) rfl <| ARun.qv (q_mulw rfl rfl) rfl <| rF rfl rfl rfl <| rL rfl rfl .p1 rfl rfl <| rF rfl rfl rfl <| rL rfl rfl .p0 rfl rfl <| ARun.qv (q_subw rfl rfl) rfl <| rF rfl rfl rfl <| rL rfl rfl .p1 rfl rfl <| rF rfl rfl rfl <| rL rfl rfl .p0 rfl rfl <| ARun.qv (q_subw rfl rfl) rfl <| ARun.qv (q_mulw rfl rfl) rfl <| ARun.qv (q_addw rfl rfl) rfl <| rA rfl rfl <| rN <| ATodo.ret <| ?_
  obtain rfl := h
  exact ImpX.here ⟨_, .cons (.tmp _ _ rfl) .nil, rfl⟩

set_option maxHeartbeats 4000000 in
theorem math_bits_Mul64x_c {p0x0 : Int} {p1x0 : Int} {r : Int × Int} (h : math_bits_Mul64x p0x0 p1x0 = r) : Pu Try.prog 124 [.int .u64 p0x0, .int .u64 p1x0] (.tup [.int .u64 r.1, .int .u64 r.2]) := by
  unfold math_bits_Mul64x at h
  refine ACall.bodyN Try.func124 rfl Try.ntmps124 Try.results124 rfl rfl ?_
  refine tSR <| rA rfl rfl <| rA rfl rfl <| rN <| tSR <| rM rfl rfl <| ARun.qv (t_and rfl rfl) rfl <| rA rfl rfl <| rN <| tSR <| rM rfl rfl <| ARun.qv (t_shr rfl rfl (by decide)) rfl <| rA rfl rfl <| rN <| tSR <| rM rfl rfl <| ARun.qv (t_and rfl rfl) rfl <| rA rfl rfl <| rN <| tSR <| rM rfl rfl <| ARun.qv (t_shr rfl rfl (by decide)) rfl <| rA rfl rfl <| rN <| tSR <| rM rfl rfl <| rM rfl rfl <| ARun.qv (q_mulw rfl rfl) rfl <| rA rfl rfl <| rN <| tSR <| rM rfl rfl <| rM rfl rfl <| ARun.qv (q_mulw rfl rfl) rfl <| rM rfl rfl <| ARun.qv (t_shr rfl rfl (by decide)) rfl <| ARun.qv (q_addw rfl rfl) rfl <| rA rfl rfl <| rN <| tSR <| rM rfl rfl <| ARun.qv (t_and rfl rfl) rfl <| rA rfl rfl <| rN <| tSR <| rM rfl rfl <| ARun.qv (t_shr rfl rfl (by decide)) rfl <| rA rfl rfl <| rN <| tSR <| rM rfl rfl <| rM rfl rfl <| rM rfl rfl <| ARun.qv (q_mulw rfl rfl) rfl <| ARun.qv (q_addw rfl rfl) rfl <| rA rfl rfl <| rN <| tSR <| rM rfl rfl <| rM rfl rfl <| ARun.qv (q_mulw rfl rfl) rfl <| rM rfl rfl <| ARun.qv (q_addw rfl rfl) rfl <| rM rfl rfl <| ARun.qv (t_shr rfl rfl (by decide)) rfl <| ARun.qv (q_addw rfl rfl) rfl <| rA rfl rfl <| rN <| tSR <| rM rfl rfl <| rM rfl rfl <| ARun.qv (q_mulw rfl rfl) rfl <| rA rfl rfl <| rN <| ATodo.ret <| ?_
  obtain rfl := h
  exact ImpX.here ⟨_, .cons (.tmp _ _ rfl) (.cons (.tmp _ _ rfl) .nil), rfl⟩

set_option maxHeartbeats 4000000 in
theorem place_product_c {p0x0 : Int} {p1x0 : Int} {r : Place_wide} (h : place_product p0x0 p1x0 = r) : Pu Try.prog 67 [I p0x0, I p1x0] (.agg [.int .u64 r.high_, .int .u64 r.low_]) := by
  unfold place_product at h
  refine ACall.bodyN Try.func67 rfl Try.ntmps67 Try.results67 rfl rfl ?_
  refine tSR <| n_alloc rfl rfl rfl rfl fun b1 => rN <| tSR <| rM rfl rfl <| ARun.qv (q_conv_int rfl) rfl <| rM rfl rfl <| ARun.qv (q_conv_int rfl) rfl <| r_callp rfl (math_bits_Mul64x_c rfl) (CoL.refl _) rfl <| rM rfl rfl <| rX rfl rfl rfl <| rX rfl rfl rfl <| rA rfl rfl <| rA rfl rfl <| rN <| tSR <| rM rfl rfl <| rM rfl rfl <| ARun.qv (n_build rfl rfl rfl rfl rfl) rfl <| n_store_ptr rfl rfl rfl rfl .p0 rfl rfl <| rN <| ATodo.ret <| ?_
  obtain rfl := h
  exact ImpX.here ⟨_, .cons (.all _ _ _ _ _ _ rfl .p0 TUnder.h TInfo.h rfl rfl) .nil, rfl⟩

set_option maxHeartbeats 4000000 in
theorem place_wide_over_c {p0x0 : Place_wide} {p1x0 : Place_wide} {r : Bool} (h : place_wide_over p0x0 p1x0 = r) : Pu Try.prog 70 [.agg [.int .u64 p0x0.high_, .int .u64 p0x0.low_], .agg [.int .u64 p1x0.high_, .int .u64 p1x0.low_]] (.bool r) := by
  unfold place_wide_over at h
  refine ACall.bodyN Try.func70 rfl Try.ntmps70 Try.results70 rfl rfl ?_
  refine tSR <| n_box rfl rfl rfl rfl fun b1 => n_box rfl rfl rfl rfl fun b2 => rA rfl rfl <| rN <| tS <| ATodo.cut (fun σ' => ∃ (c3 : Bool), place_wide_over_j1 c3 = r ∧ σ' = ⟨24, [(4, .bool c3)], []⟩) ?_ ?_
  · refine tR <| rF rfl rfl rfl <| rL rfl rfl .p1 rfl rfl <| rF rfl rfl rfl <| rL rfl rfl .p0 rfl rfl <| ARun.qv (q_gtr rfl rfl) rfl <| rM rfl rfl <| ARun.guard_df rfl rfl rfl (fun hc => ?_) (fun hc => ?_)
    · rw [orFd hc] at h
      refine rF rfl rfl rfl <| rY rfl rfl rfl <| rL rfl rfl .p1 rfl rfl <| rY rfl rfl rfl <| rF rfl rfl rfl <| rY rfl rfl rfl <| rL rfl rfl .p0 rfl rfl <| rY rfl rfl rfl <| ARun.qv (q_eql rfl rfl) rfl <| rY rfl rfl rfl <| rM rfl rfl <| ARun.guard_dt rfl rfl rfl (fun hc => ?_) (fun hc => ?_)
      · rw [andTd hc] at h
        exact rF rfl rfl rfl <| rY rfl rfl rfl <| rL rfl rfl .p1 rfl rfl <| rY rfl rfl rfl <| rF rfl rfl rfl <| rY rfl rfl rfl <| rL rfl rfl .p0 rfl rfl <| rY rfl rfl rfl <| ARun.qv (q_gtr rfl rfl) rfl <| rY rfl rfl rfl <| rT rfl rfl rfl <| rE rfl rfl rfl <| rA rfl rfl <| rN <| ATodo.stop <| ImpX.lq [] ⟨decide (p1x0.low_ < p0x0.low_), h, rfl⟩ rfl rfl
      · rw [andFd hc] at h
        exact rG rfl rfl rfl rfl <| rG rfl rfl rfl rfl <| rG rfl rfl rfl rfl <| rG rfl rfl rfl rfl <| rY rfl rfl rfl <| rE rfl rfl rfl <| rE rfl rfl rfl <| rA rfl rfl <| rN <| ATodo.stop <| ImpX.lq [] ⟨false, h, rfl⟩ rfl rfl
    · rw [orTd hc] at h
      exact rG rfl rfl rfl rfl <| rG rfl rfl rfl rfl <| rG rfl rfl rfl rfl <| rG rfl rfl rfl rfl <| rG rfl rfl rfl rfl <| ARun.guard_und rfl rfl rfl <| ARun.guard_und rfl rfl rfl <| ARun.guard_und rfl rfl rfl <| ARun.guard_und rfl rfl rfl <| ARun.guard_und rfl rfl rfl <| rG rfl rfl rfl rfl <| rT rfl rfl rfl <| rA rfl rfl <| rN <| ATodo.stop <| ImpX.lq [] ⟨true, h, rfl⟩ rfl rfl
  · rintro σ' ⟨c3, h, rfl⟩
    unfold place_wide_over_j1 at h
    refine ATodo.ret <| ?_
    obtain rfl := h
    exact ImpX.here ⟨_, .cons (.tmp _ _ rfl) .nil, rfl⟩

set_option maxHeartbeats 4000000 in
theorem place_Jumps_c {p0x0 : List Fix} {p1x0 : Int} {r : (List Int) × Int} (h : place_Jumps p0x0 p1x0 = some r) : ACall Try.prog 26 [.list 5 (p0x0.map Fix.av), I p1x0] [] (T1 (fun d_0 => [(d_0, .arr 1 (r.1.map I))]) (fun d_0 => .tup [.sl 1 d_0 0 r.1.length, I r.2])) := by
  unfold place_Jumps at h
  refine ACall.lessH ?_
  refine ACall.bodyN Try.func26 rfl Try.ntmps26 Try.results26 rfl rfl ?_
  refine tSR <| rA rfl rfl <| rA rfl rfl <| rN <| tS <| tSR <| rM rfl rfl <| bndE h fun v1 e1 h => r_callp rfl (place_trackFault_c e1) (CoL.refl _) rfl <| rA rfl rfl <| rN <| tSR <| rM rfl rfl <| ARun.qv (q_neq rfl rfl) rfl <| rN <| ATodo.cond_d rfl (fun hc => ?_) (fun hc => ?_)
  · refine have h := iteT hc h; tSR <| rM rfl rfl <| rA rfl rfl <| rA rfl rfl <| rN <| ATodo.ret <| ?_
    obtain rfl := Option.some.inj h
    exact ImpX.arr (s := 4) 1 rfl fun b2 => ImpX.here ⟨_, .cons (.tmp _ _ rfl) (.cons (.tmp _ _ rfl) .nil), _, .cons .p0 .nil, ⟨b2, rfl, rfl⟩⟩
  · refine have h := iteF hc h; tK <| tS <| tSR <| rM rfl rfl <| r_callp rfl (base_Out_c rfl) (CoL.refl _) rfl <| rN <| ATodo.cond rfl (fun hc => ?_) (fun hc => ?_)
    · refine have h := iteT hc h; tSR <| rA rfl rfl <| rA rfl rfl <| rN <| ATodo.ret <| ?_
      obtain rfl := Option.some.inj h
      exact ImpX.arr (s := 4) 1 rfl fun b3 => ImpX.here ⟨_, .cons (.tmp _ _ rfl) (.cons (.tmp _ _ rfl) .nil), _, .cons .p0 .nil, ⟨b3, rfl, rfl⟩⟩
    · refine have h := iteFb hc h; tK <| tSR <| rA rfl rfl <| rN <| tSR <| rA rfl rfl <| rA rfl rfl <| rN <| tS <| tSR <| rA rfl rfl <| rN <| ATodo.block <| ATodo.loopI (fun x : (List Int) × Int × Int × Int => place_Jumps_b1 p0x0 p1x0 x.1 x.2.1 x.2.2.1 x.2.2.2) (fun x σ' => ∃ (b9 : Bk), σ' = ⟨66, [(0, .list 5 (p0x0.map Fix.av)), (1, I p1x0), (7, .sl 1 b9 0 x.1.length), (8, I x.2.1), (9, I x.2.2.1), (10, I x.2.2.2)], [(b9, .arr 1 (x.1.map I))]⟩) h ?_ ?_
      · exact ImpX.arr (s := 7) 1 rfl fun b14 => ImpX.lq [0] ⟨b14, rfl⟩ rfl rfl
      · intro x z1 σ' J1 hmk h hJ1 hA1
        obtain ⟨l10, n11, n12, n13⟩ := x
        obtain ⟨b9, rfl⟩ := hmk
        replace h : place_Jumps_b1 p0x0 p1x0 l10 n11 n12 n13 = some z1 := h
        unfold place_Jumps_b1 at h
        refine tS <| tSR <| rM rfl rfl <| rM rfl rfl <| ARun.qv (t_len rfl) rfl <| ARun.qv (q_lss rfl rfl) rfl <| rN <| ATodo.cond_d rfl (fun hc => ?_) (fun hc => ?_)
        · refine have h := iteT hc h; tK <| tS <| ATodo.cut (fun σ' => ∃ (b15 : Bk) (l16 : List Int) (n17 : Int) (n18 : Int), place_Jumps_j1 n13 l16 n17 n18 = some z1 ∧ σ' = ⟨66, [(0, .list 5 (p0x0.map Fix.av)), (1, I p1x0), (7, .sl 1 b15 0 l16.length), (8, I n17), (9, I n18), (10, I n13)], [(b15, .arr 1 (l16.map I))]⟩) ?_ ?_
          · refine ATodo.block <| tS <| ATodo.regionM (id := 11) (A := [0, 0, 0, 6, 14, 30, 0, 0, 192, 448, 960, 2046, 4095, 8191]) 14 mixed rfl (by kernel_rfl) (by kernel_rfl) <| AM.qv (q_move rfl) rfl <| AM.qv (q_move rfl) rfl <| AM.qv (q_move rfl) rfl <| bndE h fun v19 e2 h => AM.qv (t_index rfl rfl rfl e2 rfl rfl) rfl <| AM.qv (n_field_rptr rfl rfl) rfl <| AM.qv (q_load_rptr rfl rfl rfl) rfl <| AM.qv (q_move rfl) rfl <| AM.qv (q_move rfl) rfl <| bndE h fun v20 e3 h => AM.qv (t_index rfl rfl rfl e3 rfl rfl) rfl <| AM.qv (n_field_rptr rfl rfl) rfl <| AM.qv (q_load_rptr rfl rfl rfl) rfl <| AM.qv (q_subw rfl rfl) rfl <| AM.qv (q_mulw rfl rfl) rfl <| AM.qv (q_assign rfl) rfl <| AM.nil <| rN <| tS <| tS <| ATodo.cut (fun σ' => ∃ (c21 : Bool), place_Jumps_j2 l10 n11 n12 n13 c21 = some z1 ∧ σ' = ⟨66, [(0, .list 5 (p0x0.map Fix.av)), (1, I p1x0), (7, .sl 1 b9 0 l10.length), (8, I n11), (9, I n12), (10, I n13), (57, .bool c21)], [(b9, .arr 1 (l10.map I))]⟩) ?_ ?_
            · refine ATodo.regionM (id := 12) (A := [0, 0, 3, 7, 15, 0, 0, 96, 224, 511, 1023, 2047, 0, 0, 16383, 32767, 65535, 131071, 262143, 524287]) 20 mixed rfl (by kernel_rfl) (by kernel_rfl) <| AM.qv (q_move rfl) rfl <| AM.qv (q_move rfl) rfl <| bndE h fun v22 e4 h => AM.qv (t_index rfl rfl rfl e4 rfl rfl) rfl <| AM.qv (q_load_rptr_agg rfl rfl rfl) rfl <| AM.callp rfl (place_spot_c rfl) (CoL.refl _) rfl <| AM.qv (q_move rfl) rfl <| AM.qv (q_move rfl) rfl <| bndE h fun v23 e5 h => AM.qv (t_index rfl rfl rfl e5 rfl rfl) rfl <| AM.qv (q_load_rptr_agg rfl rfl rfl) rfl <| AM.callp rfl (place_spot_c rfl) (CoL.refl _) rfl <| AM.callp rfl (place_square_c rfl) (CoL.refl _) rfl <| AM.callp rfl (place_product_c rfl) (CoL.refl _) rfl <| AM.qv (q_move rfl) rfl <| AM.qv (q_move rfl) rfl <| AM.callp rfl (place_product_c rfl) (CoL.refl _) rfl <| AM.callp rfl (place_wide_over_c rfl) (CoL.refl _) rfl <| AM.qv (q_move rfl) rfl <| AM.guard rfl rfl rfl (fun hc => ?_) (fun hc => ?_)
              · rw [andTb hc] at h
                exact AM.qv (q_move rfl) rfl <| AM.guard_yes rfl rfl rfl <| AM.qv (q_lss rfl rfl) rfl <| AM.qv (q_pick_t rfl rfl) rfl <| AM.nil <| rN <| ATodo.stop <| ImpX.lq [0] ⟨decide (n12 < (2 : Int)), h, rfl⟩ rfl rfl
              · rw [andFb hc] at h
                exact AM.guard_no rfl rfl rfl rfl <| AM.qv (q_pick_f rfl rfl) rfl <| AM.nil <| rN <| ATodo.stop <| ImpX.lq [0] ⟨false, h, rfl⟩ rfl rfl
            · rintro σ' ⟨c21, h, rfl⟩
              unfold place_Jumps_j2 at h
              refine ATodo.cond rfl (fun hc => ?_) (fun hc => ?_)
              · exact have h := iteT hc h; tSR <| rM rfl rfl <| rM rfl rfl <| n_buildSliceL (xs := ([n13] : List Int).map I) rfl rfl rfl rfl rfl rfl <| bndE h fun l24 e6 h => t_append (g := I) rfl rfl rfl rfl rfl rfl rfl rfl (.list _) e6 (fun _ => .p0) rfl fun b25 => rA rfl rfl <| rN <| tSR <| rM rfl rfl <| ARun.qv (q_addw rfl rfl) rfl <| rA rfl rfl <| rN <| ATodo.exit rfl <| ATodo.stop <| ImpX.lq [0] ⟨b25, l24, n11, w64 (n12 + (1 : Int)), h, rfl⟩ rfl rfl
              · exact have h := iteFb hc h; tK <| tR <| rM rfl rfl <| rA rfl rfl <| rA rfl rfl <| rN <| ATodo.blk <| ATodo.stop <| ImpX.lq [0] ⟨b9, l10, n13, (0 : Int), h, rfl⟩ rfl rfl
          · rintro σ' ⟨b15, l16, n17, n18, h, rfl⟩
            unfold place_Jumps_j1 at h
            refine tR <| rM rfl rfl <| ARun.qv (q_addw rfl rfl) rfl <| rA rfl rfl <| rN <| ATodo.stop <| ?_
            obtain rfl := Option.some.inj h
            exact hJ1 _ _ rfl <| ImpX.lq [0] ⟨b15, rfl⟩ rfl rfl
        · refine have h := iteF hc h; ATodo.exit rfl <| have h := outL h hA1; tSR <| rM rfl rfl <| rA rfl rfl <| rA rfl rfl <| rN <| ATodo.ret <| ?_
          obtain rfl := Option.some.inj h
          exact ImpX.here ⟨_, .cons (.tmp _ _ rfl) (.cons (.tmp _ _ rfl) .nil), _, .cons .p0 .nil, ⟨b9, rfl, rfl⟩⟩

set_option maxHeartbeats 4000000 in
theorem place_side_c {p0x0 : Spot} {p1x0 : Spot} {p2x0 : Spot} {r : Int} (h : place_side p0x0 p1x0 p2x0 = r) : Pu Try.prog 125 [.agg [I p0x0.X, I p0x0.Y], .agg [I p1x0.X, I p1x0.Y], .agg [I p2x0.X, I p2x0.Y]] (I r) := by
  unfold place_side at h
  refine ACall.bodyN Try.func125 rfl Try.ntmps125 Try.results125 rfl rfl ?_
  refine tSR <| n_box rfl rfl rfl rfl fun b1 => n_box rfl rfl rfl rfl fun b2 => n_box rfl rfl rfl rfl fun b3 => rA rfl rfl <| rN <| tSR <| rF rfl rfl rfl <| rL rfl rfl .p1 rfl rfl <| rF rfl rfl rfl <| rL rfl rfl .p2 rfl rfl <| ARun.qv (q_subw rfl rfl) rfl <| rF rfl rfl rfl <| rL rfl rfl .p0 rfl rfl <| rF rfl rfl rfl <| rL rfl rfl .p2 rfl rfl <| ARun.qv (q_subw rfl rfl) rfl <| ARun.qv (q_mulw rfl rfl) rfl <| rF rfl rfl rfl <| rL rfl rfl .p1 rfl rfl <| rF rfl rfl rfl <| rL rfl rfl .p2 rfl rfl <| ARun.qv (q_subw rfl rfl) rfl <| rF rfl rfl rfl <| rL rfl rfl .p0 rfl rfl <| rF rfl rfl rfl <| rL rfl rfl .p2 rfl rfl <| ARun.qv (q_subw rfl rfl) rfl <| ARun.qv (q_mulw rfl rfl) rfl <| ARun.qv (q_subw rfl rfl) rfl <| rA rfl rfl <| rN <| ATodo.ret <| ?_
  obtain rfl := h
  exact ImpX.here ⟨_, .cons (.tmp _ _ rfl) .nil, rfl⟩

set_option maxHeartbeats 4000000 in
theorem base_Gcd_c {p0x0 : Int} {p1x0 : Int} {r : Int} (h : base_Gcd p0x0 p1x0 = some r) : Pu Try.prog 120 [I p0x0, I p1x0] (I r) := by
  unfold base_Gcd at h
  refine ACall.bodyN Try.func120 rfl Try.ntmps120 Try.results120 rfl rfl ?_
  refine tSR <| rA rfl rfl <| rN <| tS <| ATodo.block <| ATodo.loopI (fun x : Int × Int => base_Gcd_b1 x.1 x.2) (fun x σ' => σ' = ⟨12, [(0, I x.1), (1, I x.2)], []⟩) h ?_ ?_
  · exact ImpX.lq [] rfl rfl rfl
  · intro x z1 σ' J1 hmk h hJ1 hA1
    obtain ⟨n3, n4⟩ := x
    obtain rfl := hmk
    replace h : base_Gcd_b1 n3 n4 = some z1 := h
    unfold base_Gcd_b1 at h
    refine tS <| tSR <| rM rfl rfl <| ARun.qv (q_neq rfl rfl) rfl <| rN <| ATodo.cond_d rfl (fun hc => ?_) (fun hc => ?_)
    · refine have h := iteT hc h; tK <| ATodo.block <| ATodo.regionM (id := 2) (A := [0, 0, 0, 6, 3, 31]) 6 mixed rfl (by kernel_rfl) (by kernel_rfl) <| AM.qv (q_move rfl) rfl <| AM.qv (q_move rfl) rfl <| AM.qv (q_move rfl) rfl <| bndE h fun n5 e1 h => AM.qv (t_remS rfl rfl e1) rfl <| AM.qv (q_assign rfl) rfl <| AM.qv (q_assign rfl) rfl <| AM.nil <| rN <| ATodo.blk <| ATodo.stop <| ?_
      obtain rfl := Option.some.inj h
      exact hJ1 _ _ rfl <| ImpX.lq [] rfl rfl rfl
    · refine have h := iteF hc h; ATodo.exit rfl <| have h := outL h hA1; tSR <| rM rfl rfl <| rA rfl rfl <| rN <| ATodo.ret <| ?_
      obtain rfl := Option.some.inj h
      exact ImpX.here ⟨_, .cons (.tmp _ _ rfl) .nil, rfl⟩

set_option maxHeartbeats 4000000 in
theorem base_Fraction_c {p0x0 : Int} {p1x0 : Int} {r : Fraction} (h : base_Fraction p0x0 p1x0 = some r) : Pu Try.prog 62 [I p0x0, I p1x0] (.agg [I r.Num, I r.Den]) := by
  unfold base_Fraction at h
  refine ACall.bodyN Try.func62 rfl Try.ntmps62 Try.results62 rfl rfl ?_
  refine tSR <| n_alloc rfl rfl rfl rfl fun b1 => rN <| tSR <| rM rfl rfl <| rM rfl rfl <| ARun.qv (t_negw rfl) rfl <| ARun.qv (q_max rfl rfl) rfl <| rM rfl rfl <| bndE h fun v2 e1 h => r_callp rfl (base_Gcd_c e1) (CoL.refl _) rfl <| rA rfl rfl <| rN <| tS <| ATodo.regionM (id := 2) (A := [0, 0, 3, 0, 0, 24, 63, 127]) 7 mixed rfl (by kernel_rfl) (by kernel_rfl) <| AM.qv (q_move rfl) rfl <| AM.qv (q_move rfl) rfl <| bndE h fun n3 e2 h => AM.qv (t_quoS rfl rfl e2) rfl <| AM.qv (q_move rfl) rfl <| AM.qv (q_move rfl) rfl <| bndE h fun n4 e3 h => AM.qv (t_quoS rfl rfl e3) rfl <| AM.qv (n_build rfl rfl rfl rfl rfl) rfl <| AM.nil <| n_store_ptr rfl rfl rfl rfl .p0 rfl rfl <| rN <| ATodo.ret <| ?_
  obtain rfl := Option.some.inj h
  exact ImpX.here ⟨_, .cons (.all _ _ _ _ _ _ rfl .p0 TUnder.h TInfo.h rfl rfl) .nil, rfl⟩

set_option maxHeartbeats 4000000 in
theorem place_far_c {p0x0 : Spot} {p1x0 : Spot} {p2x0 : Spot} {r : Fraction} (h : place_far p0x0 p1x0 p2x0 = some r) : Pu Try.prog 72 [.agg [I p0x0.X, I p0x0.Y], .agg [I p1x0.X, I p1x0.Y], .agg [I p2x0.X, I p2x0.Y]] (.agg [I r.Num, I r.Den]) := by
  unfold place_far at h
  refine ACall.bodyN Try.func72 rfl Try.ntmps72 Try.results72 rfl rfl ?_
  refine tSR <| n_box rfl rfl rfl rfl fun b1 => n_box rfl rfl rfl rfl fun b2 => n_box rfl rfl rfl rfl fun b3 => n_alloc rfl rfl rfl rfl fun b4 => rN <| tSR <| ARun.qv (q_load_ptr_all rfl rfl .p3 rfl) rfl <| ARun.qv (q_load_ptr_all rfl rfl .p2 rfl) rfl <| r_callp rfl (place_square_c rfl) (CoL.refl _) rfl <| rA rfl rfl <| rN <| tSR <| rF rfl rfl rfl <| rL rfl rfl .p1 rfl rfl <| rF rfl rfl rfl <| rL rfl rfl .p3 rfl rfl <| ARun.qv (q_subw rfl rfl) rfl <| rF rfl rfl rfl <| rL rfl rfl .p2 rfl rfl <| rF rfl rfl rfl <| rL rfl rfl .p3 rfl rfl <| ARun.qv (q_subw rfl rfl) rfl <| ARun.qv (q_mulw rfl rfl) rfl <| rF rfl rfl rfl <| rL rfl rfl .p1 rfl rfl <| rF rfl rfl rfl <| rL rfl rfl .p3 rfl rfl <| ARun.qv (q_subw rfl rfl) rfl <| rF rfl rfl rfl <| rL rfl rfl .p2 rfl rfl <| rF rfl rfl rfl <| rL rfl rfl .p3 rfl rfl <| ARun.qv (q_subw rfl rfl) rfl <| ARun.qv (q_mulw rfl rfl) rfl <| ARun.qv (q_addw rfl rfl) rfl <| rA rfl rfl <| rN <| tS <| ATodo.block <| tSR <| rM rfl rfl <| ARun.qv (q_leq rfl rfl) rfl <| rA rfl rfl <| rN <| ATodo.cond_d rfl (fun hc => ?_) (fun hc => ?_)
  · refine have h := iteT hc h; tSR <| ARun.qv (q_load_ptr_all rfl rfl .p3 rfl) rfl <| ARun.qv (q_load_ptr_all rfl rfl .p1 rfl) rfl <| r_callp rfl (place_square_c rfl) (CoL.refl _) rfl <| ARun.qv (n_build rfl rfl rfl rfl rfl) rfl <| n_store_ptr rfl rfl rfl rfl .p0 rfl rfl <| rN <| ATodo.ret <| ?_
    obtain rfl := Option.some.inj h
    exact ImpX.here ⟨_, .cons (.all _ _ _ _ _ _ rfl .p0 TUnder.h TInfo.h rfl rfl) .nil, rfl⟩
  · refine have h := iteF hc h; tSR <| rM rfl rfl <| rM rfl rfl <| ARun.qv (q_geq rfl rfl) rfl <| rA rfl rfl <| rN <| ATodo.cond_d rfl (fun hc => ?_) (fun hc => ?_)
    · refine have h := iteT hc h; tSR <| ARun.qv (q_load_ptr_all rfl rfl .p2 rfl) rfl <| ARun.qv (q_load_ptr_all rfl rfl .p1 rfl) rfl <| r_callp rfl (place_square_c rfl) (CoL.refl _) rfl <| ARun.qv (n_build rfl rfl rfl rfl rfl) rfl <| n_store_ptr rfl rfl rfl rfl .p0 rfl rfl <| rN <| ATodo.ret <| ?_
      obtain rfl := Option.some.inj h
      exact ImpX.here ⟨_, .cons (.all _ _ _ _ _ _ rfl .p0 TUnder.h TInfo.h rfl rfl) .nil, rfl⟩
    · refine have h := iteF hc h; tK <| ATodo.blk <| tSR <| ARun.qv (q_load_ptr_all rfl rfl .p3 rfl) rfl <| ARun.qv (q_load_ptr_all rfl rfl .p2 rfl) rfl <| ARun.qv (q_load_ptr_all rfl rfl .p1 rfl) rfl <| r_callp rfl (place_side_c rfl) (CoL.refl _) rfl <| rA rfl rfl <| rN <| tSR <| rM rfl rfl <| rM rfl rfl <| ARun.qv (q_mulw rfl rfl) rfl <| rM rfl rfl <| bndE h fun v5 e1 h => r_callp rfl (base_Fraction_c e1) (CoL.refl _) rfl <| n_store_ptr rfl rfl rfl rfl .p0 rfl rfl <| rN <| ATodo.ret <| ?_
      obtain rfl := Option.some.inj h
      exact ImpX.here ⟨_, .cons (.all _ _ _ _ _ _ rfl .p0 TUnder.h TInfo.h rfl rfl) .nil, rfl⟩

set_option maxHeartbeats 4000000 in
theorem base_CompareProducts_c {p0x0 : Int} {p1x0 : Int} {p2x0 : Int} {p3x0 : Int} {r : Int} (h : base_CompareProducts p0x0 p1x0 p2x0 p3x0 = r) : Pu Try.prog 126 [I p0x0, I p1x0, I p2x0, I p3x0] (I r) := by
  unfold base_CompareProducts at h
  refine ACall.bodyN Try.func126 rfl Try.ntmps126 Try.results126 rfl rfl ?_
  refine tSR <| rA rfl rfl <| rN <| tSR <| rM rfl rfl <| ARun.qv (q_conv_int rfl) rfl <| rM rfl rfl <| ARun.qv (q_conv_int rfl) rfl <| r_callp rfl (math_bits_Mul64x_c rfl) (CoL.refl _) rfl <| rM rfl rfl <| rX rfl rfl rfl <| rX rfl rfl rfl <| rA rfl rfl <| rA rfl rfl <| rN <| tSR <| rM rfl rfl <| ARun.qv (q_conv_int rfl) rfl <| rM rfl rfl <| ARun.qv (q_conv_int rfl) rfl <| r_callp rfl (math_bits_Mul64x_c rfl) (CoL.refl _) rfl <| rM rfl rfl <| rX rfl rfl rfl <| rX rfl rfl rfl <| rA rfl rfl <| rA rfl rfl <| rN <| tS <| ATodo.block <| tS <| tS <| ATodo.cut (fun σ' => ∃ (c1 : Bool), base_CompareProducts_j1 p0x0 p1x0 p2x0 p3x0 c1 = r ∧ σ' = ⟨55, [(9, .int .u64 ((math_bits_Mul64x (IntKind.u64.wrap (p0x0)) (IntKind.u64.wrap (p1x0))).1)), (10, .int .u64 ((math_bits_Mul64x (IntKind.u64.wrap (p0x0)) (IntKind.u64.wrap (p1x0))).2)), (11, .int .u64 ((math_bits_Mul64x (IntKind.u64.wrap (p2x0)) (IntKind.u64.wrap (p3x0))).1)), (12, .int .u64 ((math_bits_Mul64x (IntKind.u64.wrap (p2x0)) (IntKind.u64.wrap (p3x0))).2)), (29, .bool c1)], []⟩) ?_ ?_
  · refine tR <| rM rfl rfl <| rM rfl rfl <| ARun.qv (q_neq rfl rfl) rfl <| rM rfl rfl <| ARun.guard_dt rfl rfl rfl (fun hc => ?_) (fun hc => ?_)
    · rw [andTd hc] at h
      exact rM rfl rfl <| rY rfl rfl rfl <| rM rfl rfl <| rY rfl rfl rfl <| ARun.qv (q_lss rfl rfl) rfl <| rT rfl rfl rfl <| rA rfl rfl <| rN <| ATodo.stop <| ImpX.lq [] ⟨decide (((math_bits_Mul64x (IntKind.u64.wrap (p0x0)) (IntKind.u64.wrap (p1x0))).1) < ((math_bits_Mul64x (IntKind.u64.wrap (p2x0)) (IntKind.u64.wrap (p3x0))).1)), h, rfl⟩ rfl rfl
    · rw [andFd hc] at h
      exact rG rfl rfl rfl rfl <| rG rfl rfl rfl rfl <| rE rfl rfl rfl <| rA rfl rfl <| rN <| ATodo.stop <| ImpX.lq [] ⟨false, h, rfl⟩ rfl rfl
  · rintro σ' ⟨c1, h, rfl⟩
    unfold base_CompareProducts_j1 at h
    refine ATodo.cut (fun σ' => ∃ (c2 : Bool), base_CompareProducts_j2 p0x0 p1x0 p2x0 p3x0 c2 = r ∧ σ' = ⟨55, [(9, .int .u64 ((math_bits_Mul64x (IntKind.u64.wrap (p0x0)) (IntKind.u64.wrap (p1x0))).1)), (10, .int .u64 ((math_bits_Mul64x (IntKind.u64.wrap (p0x0)) (IntKind.u64.wrap (p1x0))).2)), (11, .int .u64 ((math_bits_Mul64x (IntKind.u64.wrap (p2x0)) (IntKind.u64.wrap (p3x0))).1)), (12, .int .u64 ((math_bits_Mul64x (IntKind.u64.wrap (p2x0)) (IntKind.u64.wrap (p3x0))).2)), (29, .bool c2)], []⟩) ?_ ?_
    · refine ATodo.cond rfl (fun hc => ?_) (fun hc => ?_)
      · exact have h := iteT hc h; tK <| ATodo.stop <| ImpX.lq [] ⟨c1, h, rfl⟩ rfl rfl
      · refine have h := iteFb hc h; ATodo.cut (fun σ' => ∃ (c3 : Bool), base_CompareProducts_j3 p0x0 p1x0 p2x0 p3x0 c3 = r ∧ σ' = ⟨55, [(9, .int .u64 ((math_bits_Mul64x (IntKind.u64.wrap (p0x0)) (IntKind.u64.wrap (p1x0))).1)), (10, .int .u64 ((math_bits_Mul64x (IntKind.u64.wrap (p0x0)) (IntKind.u64.wrap (p1x0))).2)), (11, .int .u64 ((math_bits_Mul64x (IntKind.u64.wrap (p2x0)) (IntKind.u64.wrap (p3x0))).1)), (12, .int .u64 ((math_bits_Mul64x (IntKind.u64.wrap (p2x0)) (IntKind.u64.wrap (p3x0))).2)), (29, .bool c3)], []⟩) ?_ ?_
        · refine tR <| rM rfl rfl <| rM rfl rfl <| ARun.qv (q_eql rfl rfl) rfl <| rM rfl rfl <| ARun.guard_dt rfl rfl rfl (fun hc => ?_) (fun hc => ?_)
          · rw [andTd hc] at h
            exact rM rfl rfl <| rY rfl rfl rfl <| rM rfl rfl <| rY rfl rfl rfl <| ARun.qv (q_lss rfl rfl) rfl <| rT rfl rfl rfl <| rA rfl rfl <| rN <| ATodo.stop <| ImpX.lq [] ⟨decide (((math_bits_Mul64x (IntKind.u64.wrap (p0x0)) (IntKind.u64.wrap (p1x0))).2) < ((math_bits_Mul64x (IntKind.u64.wrap (p2x0)) (IntKind.u64.wrap (p3x0))).2)), h, rfl⟩ rfl rfl
          · rw [andFd hc] at h
            exact rG rfl rfl rfl rfl <| rG rfl rfl rfl rfl <| rE rfl rfl rfl <| rA rfl rfl <| rN <| ATodo.stop <| ImpX.lq [] ⟨false, h, rfl⟩ rfl rfl
        · rintro σ' ⟨c3, h, rfl⟩
          unfold base_CompareProducts_j3 at h
          exact ATodo.stop <| ImpX.lq [] ⟨c3, h, rfl⟩ rfl rfl
    · rintro σ' ⟨c2, h, rfl⟩
      unfold base_CompareProducts_j2 at h
      refine ATodo.cond rfl (fun hc => ?_) (fun hc => ?_)
      · refine have h := iteT hc h; tSR <| rA rfl rfl <| rN <| ATodo.ret <| ?_
        obtain rfl := h
        exact ImpX.here ⟨_, .cons (.tmp _ _ rfl) .nil, rfl⟩
      · refine have h := iteFb hc h; tS <| ATodo.cut (fun σ' => ∃ (c4 : Bool), base_CompareProducts_j4 c4 = r ∧ σ' = ⟨55, [(46, .bool c4)], []⟩) ?_ ?_
        · refine tR <| rM rfl rfl <| rM rfl rfl <| ARun.qv (q_eql rfl rfl) rfl <| rM rfl rfl <| ARun.guard_dt rfl rfl rfl (fun hc => ?_) (fun hc => ?_)
          · rw [andTd hc] at h
            exact rM rfl rfl <| rY rfl rfl rfl <| rM rfl rfl <| rY rfl rfl rfl <| ARun.qv (q_eql rfl rfl) rfl <| rT rfl rfl rfl <| rA rfl rfl <| rN <| ATodo.stop <| ImpX.lq [] ⟨decide (((math_bits_Mul64x (IntKind.u64.wrap (p0x0)) (IntKind.u64.wrap (p1x0))).2) = ((math_bits_Mul64x (IntKind.u64.wrap (p2x0)) (IntKind.u64.wrap (p3x0))).2)), h, rfl⟩ rfl rfl
          · rw [andFd hc] at h
            exact rG rfl rfl rfl rfl <| rG rfl rfl rfl rfl <| rE rfl rfl rfl <| rA rfl rfl <| rN <| ATodo.stop <| ImpX.lq [] ⟨false, h, rfl⟩ rfl rfl
        · rintro σ' ⟨c4, h, rfl⟩
          unfold base_CompareProducts_j4 at h
          refine ATodo.cond rfl (fun hc => ?_) (fun hc => ?_)
          · refine have h := iteT hc h; tSR <| rA rfl rfl <| rN <| ATodo.ret <| ?_
            obtain rfl := h
            exact ImpX.here ⟨_, .cons (.tmp _ _ rfl) .nil, rfl⟩
          · refine have h := iteFb hc h; tK <| ATodo.blk <| tSR <| rA rfl rfl <| rN <| ATodo.ret <| ?_
            obtain rfl := h
            exact ImpX.here ⟨_, .cons (.tmp _ _ rfl) .nil, rfl⟩

set_option maxHeartbeats 4000000 in
theorem place_less_c {p0x0 : Fraction} {p1x0 : Fraction} {r : Bool} (h : place_less p0x0 p1x0 = r) : Pu Try.prog 73 [.agg [I p0x0.Num, I p0x0.Den], .agg [I p1x0.Num, I p1x0.Den]] (.bool r) := by
  unfold place_less at h
  refine ACall.bodyN Try.func73 rfl Try.ntmps73 Try.results73 rfl rfl ?_
  refine tSR <| n_box rfl rfl rfl rfl fun b1 => n_box rfl rfl rfl rfl fun b2 => rA rfl rfl <| rN <| tSR <| rF rfl rfl rfl <| rL rfl rfl .p1 rfl rfl <| rF rfl rfl rfl <| rL rfl rfl .p0 rfl rfl <| rF rfl rfl rfl <| rL rfl rfl .p0 rfl rfl <| rF rfl rfl rfl <| rL rfl rfl .p1 rfl rfl <| r_callp rfl (base_CompareProducts_c rfl) (CoL.refl _) rfl <| ARun.qv (q_lss rfl rfl) rfl <| rA rfl rfl <| rN <| ATodo.ret <| ?_
  obtain rfl := h
  exact ImpX.here ⟨_, .cons (.tmp _ _ rfl) .nil, rfl⟩

set_option maxHeartbeats 4000000 in
theorem place_Plain_1x_bd_c {b_2 : Bk} {b_2x0 : Bk} {b_3 : Bk} {b_4 : Bk} {b_5 : Bk} {self : Int → Int → (List Bool) → Int → (List Fix) → Option (List Bool)} (self_h : ∀ {b_2 : Bk} {b_2x0 : Bk} {b_3 : Bk} {b_4 : Bk} {b_5 : Bk} {p0x0 : Int} {p1x0 : Int} {p2x0 : List Bool} {p3x0 : Int} {p4x0 : List Fix} {r : (List Bool)}, self p0x0 p1x0 p2x0 p3x0 p4x0 = some r → ACall Try.prog 71 [I p0x0, I p1x0, .ptr b_2 0, .ptr b_3 0, .ptr b_4 0, .ptr b_5 0] [(b_2, .cells [.sl 1 b_2x0 0 p2x0.length]), (b_2x0, .arr 1 (p2x0.map AV.bool)), (b_3, .cells [I p3x0]), (b_4, .cells [.list 5 (p4x0.map Fix.av)]), (b_5, .cells [.func (.func 71) [.ptr b_2 0, .ptr b_3 0, .ptr b_4 0, .ptr b_5 0]])] (T1 (fun c_2x0 => [(b_2, .cells [.sl 1 c_2x0 0 r.length]), (c_2x0, .arr 1 (r.map AV.bool)), (b_3, .cells [I p3x0]), (b_4, .cells [.list 5 (p4x0.map Fix.av)]), (b_5, .cells [.func (.func 71) [.ptr b_2 0, .ptr b_3 0, .ptr b_4 0, .ptr b_5 0]])]) (fun c_2x0 => .tup []))) {p0x0 : Int} {p1x0 : Int} {p2x0 : List Bool} {p3x0 : Int} {p4x0 : List Fix} {r : (List Bool)} (h : place_Plain_1x_bd self p0x0 p1x0 p2x0 p3x0 p4x0 = some r) : ACall Try.prog 71 [I p0x0, I p1x0, .ptr b_2 0, .ptr b_3 0, .ptr b_4 0, .ptr b_5 0] [(b_2, .cells [.sl 1 b_2x0 0 p2x0.length]), (b_2x0, .arr 1 (p2x0.map AV.bool)), (b_3, .cells [I p3x0]), (b_4, .cells [.list 5 (p4x0.map Fix.av)]), (b_5, .cells [.func (.func 71) [.ptr b_2 0, .ptr b_3 0, .ptr b_4 0, .ptr b_5 0]])] (T1 (fun c_2x0 => [(b_2, .cells [.sl 1 c_2x0 0 r.length]), (c_2x0, .arr 1 (r.map AV.bool)), (b_3, .cells [I p3x0]), (b_4, .cells [.list 5 (p4x0.map Fix.av)]), (b_5, .cells [.func (.func 71) [.ptr b_2 0, .ptr b_3 0, .ptr b_4 0, .ptr b_5 0]])]) (fun c_2x0 => .tup [])) := by
  unfold place_Plain_1x_bd at h
  refine ACall.lessH ?_
  refine ACall.bodyN Try.func71 rfl Try.ntmps71 Try.results71 rfl rfl ?_
  refine tS <| bndE h fun v1 e1 h => ATodo.regionT (id := 0) (A := [0, 0, 0, 0, 3, 19, 63, 127]) (H0 := [(b_2x0, .arr 1 (p2x0.map AV.bool))]) (HH := fun β => [(b_2x0, .arr 1 ((p2x0.set p0x0.toNat true).map AV.bool)), (b_2, .cells [.sl 1 b_2x0 0 p2x0.length]), (b_3, .cells [I p3x0]), (b_4, .cells [.list 5 (p4x0.map Fix.av)]), (b_5, .cells [.func (.func 71) [.ptr b_2 0, .ptr b_3 0, .ptr b_4 0, .ptr b_5 0]])]) 6 mixed rfl (by kernel_rfl) (by kernel_rfl) [⟨none, some 5, [], fun _ => (b_2x0, .arr 1 (p2x0.map AV.bool)), none⟩, ⟨some 5, none, [], fun _ => (b_2x0, .arr 1 ((p2x0.set p0x0.toNat true).map AV.bool)), none⟩] [] rfl (by kernel_rfl) rfl (.cons .p1 .nil) (fun _ => rfl) <| AT.am 5 rfl rfl <| AM.qv (q_load_ptr rfl rfl .p0 rfl) rfl <| AM.qv (q_move rfl) rfl <| AM.qv (q_load_ptr rfl rfl .p0 rfl) rfl <| AM.qv (q_move rfl) rfl <| AM.qv (t_index_sl rfl rfl rfl e1) rfl <| AM.nil <| AT.run0 (Ti := [(b_2x0, .arr 1 (p2x0.map AV.bool))]) (Pi := [(b_2x0, .arr 1 ((p2x0.set p0x0.toNat true).map AV.bool))]) (fun _ => rfl) (fun _ => rfl) (fun _ => rfl) rfl rfl ?_ ?_
  · exact t_store_aptr1 (g := AV.bool) (el' := true) rfl rfl rfl rfl e1 rfl .p0 rfl <| ARun.nil ⟨_, rfl⟩
  refine AT.nilN (fun _ => rfl) fun β => ARun.ghost <| ImpX.eqs (s := 12) (av' := .sl 1 b_2x0 0 (p2x0.set p0x0.toNat true).length) rfl (by simp) <| ImpX.here <| ARun.ghost <| ImpX.eqs (s := 14) (av' := .sl 1 b_2x0 0 (p2x0.set p0x0.toNat true).length) rfl (by simp) <| ImpX.here <| ARun.ghost <| ImpX.eqBox (j := 0) (av' := .sl 1 b_2x0 0 (p2x0.set p0x0.toNat true).length) .p1 rfl (by simp) rfl <| ImpX.here <| bndE h fun v2 e2 h => ARun.qv (t_index_sl rfl rfl rfl e2) rfl <| t_store_aptr1 (g := AV.bool) (el' := true) rfl rfl rfl rfl e2 rfl .p0 rfl <| ARun.ghost <| ImpX.eqs (s := 12) (av' := .sl 1 b_2x0 0 ((p2x0.set p0x0.toNat true).set p1x0.toNat true).length) rfl (by rw [List.length_set]) <| ImpX.here <| ARun.ghost <| ImpX.eqs (s := 14) (av' := .sl 1 b_2x0 0 ((p2x0.set p0x0.toNat true).set p1x0.toNat true).length) rfl (by rw [List.length_set]) <| ImpX.here <| ARun.ghost <| ImpX.eqBox (j := 0) (av' := .sl 1 b_2x0 0 ((p2x0.set p0x0.toNat true).set p1x0.toNat true).length) .p1 rfl (by rw [List.length_set]) rfl <| ImpX.here <| rN <| tS <| ATodo.regionT (id := 1) (A := [0, 0, 3, 7, 0, 16, 63]) (H0 := []) (HH := fun β => [((β 4), .cells [I (0 : Int), I (0 : Int)]), (b_2x0, .arr 1 (((p2x0.set p0x0.toNat true).set p1x0.toNat true).map AV.bool)), (b_2, .cells [.sl 1 b_2x0 0 ((p2x0.set p0x0.toNat true).set p1x0.toNat true).length]), (b_3, .cells [I p3x0]), (b_4, .cells [.list 5 (p4x0.map Fix.av)]), (b_5, .cells [.func (.func 71) [.ptr b_2 0, .ptr b_3 0, .ptr b_4 0, .ptr b_5 0]])]) 6 mixed rfl (by kernel_rfl) (by kernel_rfl) [⟨some 4, none, [], fun b => (b, .cells [I (0 : Int), I (0 : Int)]), none⟩] [4] rfl (by kernel_rfl) rfl .nil (fun _ => rfl) <| AT.am 4 rfl rfl <| AM.qv (q_load_ptr rfl rfl .p2 rfl) rfl <| AM.qv (q_load_ptr rfl rfl .p2 rfl) rfl <| AM.qv (q_mulw rfl rfl) rfl <| AM.qv (n_build rfl rfl rfl rfl rfl) rfl <| AM.nil <| AT.runD (V := fun b => .ptr b 0) (Ti := []) (Pi := fun b => [(b, .cells [I (0 : Int), I (0 : Int)])]) (fun _ => rfl) (fun _ => rfl) (fun _ _ => rfl) rfl (fun _ => rfl) rfl rfl rfl ?_ ?_
  · exact n_alloc rfl rfl rfl rfl fun b3 => ARun.nil ⟨b3, _, rfl, rfl⟩
  refine AT.am 1 rfl rfl <| AM.qv (q_assign rfl) rfl <| AM.nil <| AT.nilN (fun _ => rfl) fun β => ?_
  generalize β 4 = b3
  clear β
  refine n_store_ptr rfl rfl rfl rfl .p0 rfl rfl <| rN <| tS <| tSR <| rM rfl rfl <| ARun.qv (q_addw rfl rfl) rfl <| rA rfl rfl <| rN <| ATodo.block <| ATodo.loopI (fun x : Int × Int × Int × Int => place_Plain_1x_b1 self p0x0 p1x0 p2x0 p3x0 p4x0 x.1 x.2.1 x.2.2.1 x.2.2.2) (fun x σ' => σ' = ⟨60, [(0, I p0x0), (1, I p1x0), (4, .ptr b_4 0), (5, .ptr b_5 0), (8, I x.1), (9, .ptr b3 0), (10, I x.2.2.2)], [(b_2, .cells [.sl 1 b_2x0 0 ((p2x0.set p0x0.toNat true).set p1x0.toNat true).length]), (b_2x0, .arr 1 (((p2x0.set p0x0.toNat true).set p1x0.toNat true).map AV.bool)), (b_3, .cells [I p3x0]), (b_4, .cells [.list 5 (p4x0.map Fix.av)]), (b_5, .cells [.func (.func 71) [.ptr b_2 0, .ptr b_3 0, .ptr b_4 0, .ptr b_5 0]]), (b3, .cells [I x.2.1, I x.2.2.1])]⟩) h ?_ ?_
  · exact ImpX.lq [2, 1, 1, 1, 1, 0] rfl rfl rfl
  · intro x z1 σ' J1 hmk h hJ1 hA1
    obtain ⟨n8, n9, n10, n11⟩ := x
    obtain rfl := hmk
    replace h : place_Plain_1x_b1 self p0x0 p1x0 p2x0 p3x0 p4x0 n8 n9 n10 n11 = some z1 := h
    unfold place_Plain_1x_b1 at h
    refine tS <| tSR <| rM rfl rfl <| rM rfl rfl <| ARun.qv (q_lss rfl rfl) rfl <| rN <| ATodo.cond_d rfl (fun hc => ?_) (fun hc => ?_)
    · refine have h := iteT hc h; tK <| tS <| ATodo.block <| tS <| bndE h fun v12 e3 h => bndE h fun v13 e4 h => bndE h fun v14 e5 h => bndE h fun v15 e6 h => ATodo.regionT (id := 5) (A := [0, 0, 3, 7, 15, 0, 0, 96, 224, 511, 0, 0, 3072, 7168, 16383, 32767, 0, 131071]) (H0 := []) (HH := fun β => [((β 16), .cells [I (0 : Int), I (0 : Int)]), (b_2, .cells [.sl 1 b_2x0 0 ((p2x0.set p0x0.toNat true).set p1x0.toNat true).length]), (b_2x0, .arr 1 (((p2x0.set p0x0.toNat true).set p1x0.toNat true).map AV.bool)), (b_3, .cells [I p3x0]), (b_4, .cells [.list 5 (p4x0.map Fix.av)]), (b_5, .cells [.func (.func 71) [.ptr b_2 0, .ptr b_3 0, .ptr b_4 0, .ptr b_5 0]]), (b3, .cells [I n9, I n10])]) 17 mixed rfl (by kernel_rfl) (by kernel_rfl) [⟨some 16, none, [], fun b => (b, .cells [I (0 : Int), I (0 : Int)]), none⟩] [16] rfl (by kernel_rfl) rfl .nil (fun _ => rfl) <| AT.am 16 rfl rfl <| AM.qv (q_load_ptr rfl rfl .p3 rfl) rfl <| AM.qv (q_move rfl) rfl <| AM.qv (t_index rfl rfl rfl e3 rfl rfl) rfl <| AM.qv (q_load_rptr_agg rfl rfl rfl) rfl <| AM.callp rfl (place_spot_c rfl) (CoL.refl _) rfl <| AM.qv (q_load_ptr rfl rfl .p3 rfl) rfl <| AM.qv (q_move rfl) rfl <| AM.qv (t_index rfl rfl rfl e4 rfl rfl) rfl <| AM.qv (q_load_rptr_agg rfl rfl rfl) rfl <| AM.callp rfl (place_spot_c rfl) (CoL.refl _) rfl <| AM.qv (q_load_ptr rfl rfl .p3 rfl) rfl <| AM.qv (q_move rfl) rfl <| AM.qv (t_index rfl rfl rfl e5 rfl rfl) rfl <| AM.qv (q_load_rptr_agg rfl rfl rfl) rfl <| AM.callp rfl (place_spot_c rfl) (CoL.refl _) rfl <| AM.callp rfl (place_far_c e6) (CoL.refl _) rfl <| AM.nil <| AT.runD (V := fun b => .ptr b 0) (Ti := []) (Pi := fun b => [(b, .cells [I (0 : Int), I (0 : Int)])]) (fun _ => rfl) (fun _ => rfl) (fun _ _ => rfl) rfl (fun _ => rfl) rfl rfl rfl ?_ ?_
      · exact n_alloc rfl rfl rfl rfl fun b16 => ARun.nil ⟨b16, _, rfl, rfl⟩
      refine AT.nilN (fun _ => rfl) fun β => ?_
      generalize β 16 = b16
      clear β
      refine n_store_ptr rfl rfl rfl rfl .p0 rfl rfl <| rN <| tSR <| ARun.qv (q_load_ptr_all rfl rfl .p6 rfl) rfl <| ARun.qv (q_load_ptr_all rfl rfl .p0 rfl) rfl <| r_callp rfl (place_less_c (rfl : place_less (⟨n9, n10⟩ : Fraction) v15 = _)) (CoL.refl _) rfl <| rN <| ATodo.cut (fun σ' => ∃ (n17 : Int) (n18 : Int) (n19 : Int), place_Plain_1x_j1 n11 n17 n18 n19 = some z1 ∧ σ' = ⟨60, [(0, I p0x0), (1, I p1x0), (4, .ptr b_4 0), (5, .ptr b_5 0), (8, I n17), (9, .ptr b3 0), (10, I n11)], [(b_2, .cells [.sl 1 b_2x0 0 ((p2x0.set p0x0.toNat true).set p1x0.toNat true).length]), (b_2x0, .arr 1 (((p2x0.set p0x0.toNat true).set p1x0.toNat true).map AV.bool)), (b_3, .cells [I p3x0]), (b_4, .cells [.list 5 (p4x0.map Fix.av)]), (b_5, .cells [.func (.func 71) [.ptr b_2 0, .ptr b_3 0, .ptr b_4 0, .ptr b_5 0]]), (b3, .cells [I n18, I n19])]⟩) ?_ ?_
      · refine ATodo.cond rfl (fun hc => ?_) (fun hc => ?_)
        · exact have h := iteT hc h; ATodo.regionM (id := 7) (A := [0, 0, 1, 7]) 3 mixed rfl (by kernel_rfl) (by kernel_rfl) <| AM.qv (q_move rfl) rfl <| AM.qv (q_load_ptr_all rfl rfl .p0 rfl) rfl <| AM.qv (q_assign rfl) rfl <| AM.nil <| n_store_ptr rfl rfl rfl rfl .p6 rfl rfl <| rN <| ATodo.stop <| ImpX.lq [1, 1, 1, 1, 1, 1] ⟨n11, v15.Num, v15.Den, h, rfl⟩ rfl rfl
        · exact have h := iteFb hc h; tK <| ATodo.stop <| ImpX.lq [1, 1, 1, 1, 1, 1] ⟨n8, n9, n10, h, rfl⟩ rfl rfl
      · rintro σ' ⟨n17, n18, n19, h, rfl⟩
        unfold place_Plain_1x_j1 at h
        refine ATodo.blk <| tR <| rM rfl rfl <| ARun.qv (q_addw rfl rfl) rfl <| rA rfl rfl <| rN <| ATodo.stop <| ?_
        obtain rfl := Option.some.inj h
        exact hJ1 _ _ rfl <| ImpX.lq [0, 0, 0, 0, 0, 0] rfl rfl rfl
    · refine have h := iteF hc h; ATodo.exit rfl <| have h := outL h hA1; ?_
      unfold place_Plain_1x_k3 at h
      refine tSR <| rM rfl rfl <| ARun.qv (q_geq rfl rfl) rfl <| rN <| ATodo.cut (fun σ' => ∃ (b20 : Bk) (l21 : List Bool), place_Plain_1x_j2 l21 = some r ∧ σ' = ⟨60, [], [(b_2, .cells [.sl 1 b20 0 l21.length]), (b20, .arr 1 (l21.map AV.bool)), (b_3, .cells [I p3x0]), (b_4, .cells [.list 5 (p4x0.map Fix.av)]), (b_5, .cells [.func (.func 71) [.ptr b_2 0, .ptr b_3 0, .ptr b_4 0, .ptr b_5 0]])]⟩) ?_ ?_
      · refine ATodo.cond_d rfl (fun hc => ?_) (fun hc => ?_)
        · exact have h := iteT hc h; tSR <| rL rfl rfl .p4 rfl rfl <| rM rfl rfl <| rM rfl rfl <| bndE h fun v22 e7 h => t_callv1 rfl rfl rfl (self_h e7) (CoL.refl _) (.cons .p0 (.cons .p0 (.cons .p0 (.cons .p0 (.cons .p0 .nil))))) (fun _ => rfl) rfl fun b23 => rN <| tR <| rL rfl rfl .p4 rfl rfl <| rM rfl rfl <| rM rfl rfl <| bndE h fun v24 e8 h => t_callv1 rfl rfl rfl (self_h e8) (CoL.refl _) (.cons .p0 (.cons .p0 (.cons .p0 (.cons .p0 (.cons .p0 .nil))))) (fun _ => rfl) rfl fun b25 => rN <| ATodo.stop <| ImpX.lq [0, 0, 0, 0, 0] ⟨b25, v24, h, rfl⟩ rfl rfl
        · exact have h := iteF hc h; tK <| ATodo.stop <| ImpX.lq [0, 0, 0, 0, 0] ⟨b_2x0, (p2x0.set p0x0.toNat true).set p1x0.toNat true, h, rfl⟩ rfl rfl
      · rintro σ' ⟨b20, l21, h, rfl⟩
        unfold place_Plain_1x_j2 at h
        refine ATodo.nil <| ?_
        obtain rfl := Option.some.inj h
        exact ImpX.here ⟨_, .nil, _, .cons .p0 (.cons .p0 (.cons .p0 (.cons .p0 (.cons .p0 .nil)))), ⟨b20, rfl, rfl⟩⟩
theorem place_Plain_1x_r_c : ∀ (k : Nat) {b_2 : Bk} {b_2x0 : Bk} {b_3 : Bk} {b_4 : Bk} {b_5 : Bk} {p0x0 : Int} {p1x0 : Int} {p2x0 : List Bool} {p3x0 : Int} {p4x0 : List Fix} {r : (List Bool)}, place_Plain_1x_r k p0x0 p1x0 p2x0 p3x0 p4x0 = some r → ACall Try.prog 71 [I p0x0, I p1x0, .ptr b_2 0, .ptr b_3 0, .ptr b_4 0, .ptr b_5 0] [(b_2, .cells [.sl 1 b_2x0 0 p2x0.length]), (b_2x0, .arr 1 (p2x0.map AV.bool)), (b_3, .cells [I p3x0]), (b_4, .cells [.list 5 (p4x0.map Fix.av)]), (b_5, .cells [.func (.func 71) [.ptr b_2 0, .ptr b_3 0, .ptr b_4 0, .ptr b_5 0]])] (T1 (fun c_2x0 => [(b_2, .cells [.sl 1 c_2x0 0 r.length]), (c_2x0, .arr 1 (r.map AV.bool)), (b_3, .cells [I p3x0]), (b_4, .cells [.list 5 (p4x0.map Fix.av)]), (b_5, .cells [.func (.func 71) [.ptr b_2 0, .ptr b_3 0, .ptr b_4 0, .ptr b_5 0]])]) (fun c_2x0 => .tup [])) := by
  intro k
  induction k with
  | zero => intro b_2 b_2x0 b_3 b_4 b_5 p0x0 p1x0 p2x0 p3x0 p4x0 r h; cases h
  | succ k ih => intro b_2 b_2x0 b_3 b_4 b_5 p0x0 p1x0 p2x0 p3x0 p4x0 r h; exact place_Plain_1x_bd_c ih h
theorem place_Plain_1x_c {b_2 : Bk} {b_2x0 : Bk} {b_3 : Bk} {b_4 : Bk} {b_5 : Bk} {p0x0 : Int} {p1x0 : Int} {p2x0 : List Bool} {p3x0 : Int} {p4x0 : List Fix} {r : (List Bool)} (h : place_Plain_1x p0x0 p1x0 p2x0 p3x0 p4x0 = some r) : ACall Try.prog 71 [I p0x0, I p1x0, .ptr b_2 0, .ptr b_3 0, .ptr b_4 0, .ptr b_5 0] [(b_2, .cells [.sl 1 b_2x0 0 p2x0.length]), (b_2x0, .arr 1 (p2x0.map AV.bool)), (b_3, .cells [I p3x0]), (b_4, .cells [.list 5 (p4x0.map Fix.av)]), (b_5, .cells [.func (.func 71) [.ptr b_2 0, .ptr b_3 0, .ptr b_4 0, .ptr b_5 0]])] (T1 (fun c_2x0 => [(b_2, .cells [.sl 1 c_2x0 0 r.length]), (c_2x0, .arr 1 (r.map AV.bool)), (b_3, .cells [I p3x0]), (b_4, .cells [.list 5 (p4x0.map Fix.av)]), (b_5, .cells [.func (.func 71) [.ptr b_2 0, .ptr b_3 0, .ptr b_4 0, .ptr b_5 0]])]) (fun c_2x0 => .tup [])) := place_Plain_1x_r_c depth h

set_option maxHeartbeats 4000000 in
theorem place_Plain_c {p0x0 : List Fix} {p1x0 : Int} {r : (List Int) × Int} (h : place_Plain p0x0 p1x0 = some r) : ACall Try.prog 27 [.list 5 (p0x0.map Fix.av), I p1x0] [] (T1 (fun d_0 => [(d_0, .arr 1 (r.1.map I))]) (fun d_0 => .tup [.sl 1 d_0 0 r.1.length, I r.2])) := by
  unfold place_Plain at h
  refine ACall.lessH ?_
  refine ACall.bodyN Try.func27 rfl Try.ntmps27 Try.results27 rfl rfl ?_
  refine tSR <| n_box rfl rfl rfl rfl fun b1 => n_box rfl rfl rfl rfl fun b2 => rA rfl rfl <| rA rfl rfl <| rN <| tS <| tSR <| rL rfl rfl .p1 rfl rfl <| bndE h fun v3 e1 h => r_callp rfl (place_trackFault_c e1) (CoL.refl _) rfl <| rA rfl rfl <| rN <| tSR <| rM rfl rfl <| ARun.qv (q_neq rfl rfl) rfl <| rN <| ATodo.cond_d rfl (fun hc => ?_) (fun hc => ?_)
  · refine have h := iteT hc h; tSR <| rM rfl rfl <| rA rfl rfl <| rA rfl rfl <| rN <| ATodo.ret <| ?_
    obtain rfl := Option.some.inj h
    exact ImpX.arr (s := 4) 1 rfl fun b4 => ImpX.here ⟨_, .cons (.tmp _ _ rfl) (.cons (.tmp _ _ rfl) .nil), _, .cons .p0 .nil, ⟨b4, rfl, rfl⟩⟩
  · refine have h := iteF hc h; tK <| tS <| tSR <| rL rfl rfl .p0 rfl rfl <| r_callp rfl (base_Out_c rfl) (CoL.refl _) rfl <| rN <| ATodo.cond rfl (fun hc => ?_) (fun hc => ?_)
    · refine have h := iteT hc h; tSR <| rA rfl rfl <| rA rfl rfl <| rN <| ATodo.ret <| ?_
      obtain rfl := Option.some.inj h
      exact ImpX.arr (s := 4) 1 rfl fun b5 => ImpX.here ⟨_, .cons (.tmp _ _ rfl) (.cons (.tmp _ _ rfl) .nil), _, .cons .p0 .nil, ⟨b5, rfl, rfl⟩⟩
    · refine have h := iteFb hc h; tK <| tSR <| rL rfl rfl .p1 rfl rfl <| ARun.qv (t_len rfl) rfl <| bndE h fun l6 e2 h => t_makeSlice (g := AV.bool) (Z := false) rfl rfl rfl rfl rfl rfl rfl rfl rfl e2 fun b7 => n_alloc rfl rfl rfl rfl fun b8 => n_store_ptr rfl rfl rfl rfl .p0 rfl rfl <| rN <| tSR <| n_alloc rfl rfl rfl rfl fun b9 => rN <| tSR <| ARun.qv (q_makeFunc rfl) rfl <| n_store_ptr rfl rfl rfl rfl .p0 rfl rfl <| rN <| tS <| tSR <| rL rfl rfl .p4 rfl rfl <| ARun.qv (t_len rfl) rfl <| ARun.qv (q_gtr rfl rfl) rfl <| rN <| ATodo.cut (fun σ' => ∃ (b10 : Bk) (l11 : List Bool), place_Plain_j1 l11 = some r ∧ σ' = ⟨45, [(7, .ptr b8 0)], [(b8, .cells [.sl 1 b10 0 l11.length]), (b10, .arr 1 (l11.map AV.bool))]⟩) ?_ ?_
      · refine ATodo.cond_d rfl (fun hc => ?_) (fun hc => ?_)
        · exact have h := iteT hc h; tR <| rL rfl rfl .p0 rfl rfl <| rL rfl rfl .p4 rfl rfl <| ARun.qv (t_len rfl) rfl <| ARun.qv (q_subw rfl rfl) rfl <| bndE h fun v12 e3 h => t_callv1 rfl rfl rfl (place_Plain_1x_c e3) (CoL.refl _) (.cons .p1 (.cons .p1 (.cons .p1 (.cons .p1 (.cons .p0 .nil))))) (fun _ => rfl) rfl fun b13 => rN <| ATodo.stop <| ImpX.lq [0, 0] ⟨b13, v12, h, rfl⟩ rfl rfl
        · exact have h := iteF hc h; tK <| ATodo.stop <| ImpX.lq [1, 1] ⟨b7, l6, h, rfl⟩ rfl rfl
      · rintro σ' ⟨b10, l11, h, rfl⟩
        unfold place_Plain_j1 at h
        refine tSR <| rA rfl rfl <| rN <| tS <| tSR <| rL rfl rfl .p0 rfl rfl <| ARun.qv (t_len_sl rfl) rfl <| rM rfl rfl <| rN <| ATodo.block <| ATodo.loopI (fun x : (List Int) × Int => place_Plain_b1 l11 x.1 x.2) (fun x σ' => ∃ (b17 : Bk), σ' = ⟨45, [(9, .sl 1 b17 0 x.1.length), (31, .sl 1 b10 0 l11.length), (32, I (l11.length : Int)), (33, I x.2)], [(b17, .arr 1 (x.1.map I)), (b10, .arr 1 (l11.map AV.bool))]⟩) h ?_ ?_
        · exact ImpX.arr (s := 9) 1 rfl fun b20 => ImpX.lq [0, 1] ⟨b20, rfl⟩ rfl rfl
        · intro x z1 σ' J1 hmk h hJ1 hA1
          obtain ⟨l18, n19⟩ := x
          obtain ⟨b17, rfl⟩ := hmk
          replace h : place_Plain_b1 l11 l18 n19 = some z1 := h
          unfold place_Plain_b1 at h
          refine tSR <| ARun.qv (q_lss rfl rfl) rfl <| rN <| tS <| ATodo.cond_d rfl (fun hc => ?_) (fun hc => ?_)
          · refine have h := iteT hc h; tK <| tS <| ATodo.block <| tSR <| rM rfl rfl <| bndE h fun v21 e4 h => ARun.qv (t_index_sl rfl rfl rfl e4) rfl <| ARun.qv (t_load_aptr (g := AV.bool) rfl rfl (.inl .p1) e4 rfl) rfl <| rA rfl rfl <| rA rfl rfl <| rN <| tSR <| rM rfl rfl <| rN <| ATodo.cut (fun σ' => ∃ (b22 : Bk) (l23 : List Int), place_Plain_j2 n19 l23 = some z1 ∧ σ' = ⟨45, [(9, .sl 1 b22 0 l23.length), (31, .sl 1 b10 0 l11.length), (32, I (l11.length : Int)), (33, I n19)], [(b22, .arr 1 (l23.map I)), (b10, .arr 1 (l11.map AV.bool))]⟩) ?_ ?_
            · refine ATodo.cond rfl (fun hc => ?_) (fun hc => ?_)
              · exact have h := iteT hc h; tR <| rM rfl rfl <| rM rfl rfl <| n_buildSliceL (xs := ([n19] : List Int).map I) rfl rfl rfl rfl rfl rfl <| bndE h fun l24 e5 h => t_append (g := I) rfl rfl rfl rfl rfl rfl rfl rfl (.list _) e5 (fun _ => .p0) rfl fun b25 => rA rfl rfl <| rN <| ATodo.stop <| ImpX.lq [0, 0] ⟨b25, l24, h, rfl⟩ rfl rfl
              · exact have h := iteFb hc h; tK <| ATodo.stop <| ImpX.lq [0, 0] ⟨b17, l18, h, rfl⟩ rfl rfl
            · rintro σ' ⟨b22, l23, h, rfl⟩
              unfold place_Plain_j2 at h
              refine ATodo.blk <| tR <| ARun.qv (q_addw rfl rfl) rfl <| rM rfl rfl <| rN <| ATodo.stop <| ?_
              obtain rfl := Option.some.inj h
              exact hJ1 _ _ rfl <| ImpX.lq [0, 0] ⟨b22, rfl⟩ rfl rfl
          · refine have h := iteF hc h; ATodo.exit rfl <| have h := outL h hA1; tSR <| rM rfl rfl <| rA rfl rfl <| rA rfl rfl <| rN <| ATodo.ret <| ?_
            obtain rfl := Option.some.inj h
            exact ImpX.here ⟨_, .cons (.tmp _ _ rfl) (.cons (.tmp _ _ rfl) .nil), _, .cons .p0 .nil, ⟨b17, rfl, rfl⟩⟩

set_option maxHeartbeats 4000000 in
theorem Q_in_c {p0x0 : Int} {p1x0 : Int} {p2x0 : Int} {r : Bool} (h : Q_in p0x0 p1x0 p2x0 = r) : Pu Try.prog 59 [I p0x0, I p1x0, I p2x0] (.bool r) := by
  unfold Q_in at h
  refine ACall.bodyN Try.func59 rfl Try.ntmps59 Try.results59 rfl rfl ?_
  refine tSR <| rA rfl rfl <| rN <| tS <| ATodo.cut (fun σ' => ∃ (c1 : Bool), Q_in_j1 c1 = r ∧ σ' = ⟨15, [(6, .bool c1)], []⟩) ?_ ?_
  · refine tR <| rM rfl rfl <| rM rfl rfl <| ARun.qv (q_leq rfl rfl) rfl <| rM rfl rfl <| ARun.guard_dt rfl rfl rfl (fun hc => ?_) (fun hc => ?_)
    · rw [andTd hc] at h
      exact rM rfl rfl <| rY rfl rfl rfl <| rM rfl rfl <| rY rfl rfl rfl <| ARun.qv (q_leq rfl rfl) rfl <| rT rfl rfl rfl <| rA rfl rfl <| rN <| ATodo.stop <| ImpX.lq [] ⟨decide (p0x0 ≤ p2x0), h, rfl⟩ rfl rfl
    · rw [andFd hc] at h
      exact rG rfl rfl rfl rfl <| rG rfl rfl rfl rfl <| rE rfl rfl rfl <| rA rfl rfl <| rN <| ATodo.stop <| ImpX.lq [] ⟨false, h, rfl⟩ rfl rfl
  · rintro σ' ⟨c1, h, rfl⟩
    unfold Q_in_j1 at h
    refine ATodo.ret <| ?_
    obtain rfl := h
    exact ImpX.here ⟨_, .cons (.tmp _ _ rfl) .nil, rfl⟩

set_option maxHeartbeats 4000000 in
theorem Q_only_c {p0x0 : Str} {p1x0 : Str} {r : Bool} (h : Q_only p0x0 p1x0 = some r) : Pu Try.prog 154 [.str p0x0, .str p1x0] (.bool r) := by
  unfold Q_only at h
  refine ACall.bodyN Try.func154 rfl Try.ntmps154 Try.results154 rfl rfl ?_
  refine tSR <| rA rfl rfl <| rN <| tS <| tSR <| rM rfl rfl <| ARun.qv (q_len_str rfl) rfl <| rM rfl rfl <| rN <| ATodo.block <| ATodo.loopI (fun x : Int => Q_only_b1 p0x0 p1x0 x) (fun x σ' => σ' = ⟨18, [(0, .str p0x0), (1, .str p1x0), (7, I (p0x0.length : Int)), (8, I x)], []⟩) h ?_ ?_
  · exact ImpX.lq [] rfl rfl rfl
  · intro n2 z1 σ' J1 hmk h hJ1 hA1
    obtain rfl := hmk
    replace h : Q_only_b1 p0x0 p1x0 n2 = some z1 := h
    unfold Q_only_b1 at h
    refine tSR <| ARun.qv (q_lss rfl rfl) rfl <| rN <| tS <| ATodo.cond_d rfl (fun hc => ?_) (fun hc => ?_)
    · refine have h := iteT hc h; tK <| tS <| ATodo.block <| tSR <| rM rfl rfl <| rA rfl rfl <| rN <| tSR <| rM rfl rfl <| rM rfl rfl <| rM rfl rfl <| bndE h fun c3 e1 h => ARun.qv (t_index_str rfl rfl e1) rfl <| r_callp rfl (strings_IndexByte_c rfl) (CoL.refl _) rfl <| ARun.qv (q_lss rfl rfl) rfl <| rN <| ATodo.cond_d rfl (fun hc => ?_) (fun hc => ?_)
      · refine have h := iteT hc h; tSR <| rA rfl rfl <| rN <| ATodo.ret <| have h := outL h hA1; ?_
        obtain rfl := Option.some.inj h
        exact ImpX.here ⟨_, .cons (.tmp _ _ rfl) .nil, rfl⟩
      · refine have h := iteF hc h; tK <| ATodo.blk <| tR <| ARun.qv (q_addw rfl rfl) rfl <| rM rfl rfl <| rN <| ATodo.stop <| ?_
        obtain rfl := Option.some.inj h
        exact hJ1 _ _ rfl <| ImpX.lq [] rfl rfl rfl
    · refine have h := iteF hc h; ATodo.exit rfl <| have h := outL h hA1; tSR <| rA rfl rfl <| rN <| ATodo.ret <| ?_
      obtain rfl := Option.some.inj h
      exact ImpX.here ⟨_, .cons (.tmp _ _ rfl) .nil, rfl⟩

set_option maxHeartbeats 4000000 in
theorem Q_Key_c {p0x0 : Str} {r : Bool} (h : Q_Key p0x0 = some r) : Pu Try.prog 102 [.str p0x0] (.bool r) := by
  unfold Q_Key at h
  refine ACall.bodyN Try.func102 rfl Try.ntmps102 Try.results102 rfl rfl ?_
  refine tSR <| rA rfl rfl <| rN <| tS <| ATodo.cut (fun σ' => ∃ (c1 : Bool), Q_Key_j1 c1 = some r ∧ σ' = ⟨15, [(2, .bool c1)], []⟩) ?_ ?_
  · refine tR <| rM rfl rfl <| ARun.qv (q_len_str rfl) rfl <| r_callp rfl (Q_in_c rfl) (CoL.refl _) rfl <| rM rfl rfl <| ARun.guard rfl rfl rfl (fun hc => ?_) (fun hc => ?_)
    · refine have h := iteT hc h; rM rfl rfl <| rY rfl rfl rfl <| bndE h fun l2 e1 h => ARun.qv (t_slice_str rfl .none (.some _ _ _ rfl) rfl rfl e1) rfl <| rY rfl rfl rfl <| bndE h fun v3 e2 h => r_callp rfl (Q_only_c e2) (CoL.refl _) rfl <| rT rfl rfl rfl <| rM rfl rfl <| ARun.guard rfl rfl rfl (fun hc => ?_) (fun hc => ?_)
      · exact have h := iteT hc h; rM rfl rfl <| rY rfl rfl rfl <| bndE h fun v4 e3 h => r_callp rfl (Q_only_c e3) (CoL.refl _) rfl <| rT rfl rfl rfl <| rA rfl rfl <| rN <| ATodo.stop <| ImpX.lq [] ⟨v4, h, rfl⟩ rfl rfl
      · exact have h := iteFb hc h; rG rfl rfl rfl rfl <| rE rfl rfl rfl <| rA rfl rfl <| rN <| ATodo.stop <| ImpX.lq [] ⟨false, h, rfl⟩ rfl rfl
    · exact have h := iteFb hc h; rG rfl rfl rfl rfl <| rG rfl rfl rfl rfl <| rE rfl rfl rfl <| rM rfl rfl <| rG rfl rfl rfl rfl <| rG rfl rfl rfl rfl <| rE rfl rfl rfl <| rA rfl rfl <| rN <| ATodo.stop <| ImpX.lq [] ⟨false, h, rfl⟩ rfl rfl
  · rintro σ' ⟨c1, h, rfl⟩
    unfold Q_Key_j1 at h
    refine ATodo.ret <| ?_
    obtain rfl := Option.some.inj h
    exact ImpX.here ⟨_, .cons (.tmp _ _ rfl) .nil, rfl⟩

set_option maxHeartbeats 4000000 in
theorem Q_Moment_c {p0x0 : Int} {r : Bool} (h : Q_Moment p0x0 = r) : Pu Try.prog 115 [I p0x0] (.bool r) := by
  unfold Q_Moment at h
  refine ACall.bodyN Try.func115 rfl Try.ntmps115 Try.results115 rfl rfl ?_
  refine tSR <| rA rfl rfl <| rN <| tSR <| rM rfl rfl <| r_callp rfl (Q_in_c rfl) (CoL.refl _) rfl <| rA rfl rfl <| rN <| ATodo.ret <| ?_
  obtain rfl := h
  exact ImpX.here ⟨_, .cons (.tmp _ _ rfl) .nil, rfl⟩

set_option maxHeartbeats 4000000 in
theorem Q_spotOf_c {p0x0 : Fix} {r : Spot} (h : Q_spotOf p0x0 = r) : Pu Try.prog 79 [.agg [.str p0x0.Device, I p0x0.At, I p0x0.X, I p0x0.Y, I p0x0.Error]] (.agg [I r.X, I r.Y]) := by
  unfold Q_spotOf at h
  refine ACall.bodyN Try.func79 rfl Try.ntmps79 Try.results79 rfl rfl ?_
  refine tSR <| n_box rfl rfl rfl rfl fun b1 => n_alloc rfl rfl rfl rfl fun b2 => rN <| tSR <| rF rfl rfl rfl <| rL rfl rfl .p1 rfl rfl <| rF rfl rfl rfl <| rL rfl rfl .p1 rfl rfl <| ARun.qv (n_build rfl rfl rfl rfl rfl) rfl <| n_store_ptr rfl rfl rfl rfl .p0 rfl rfl <| rN <| ATodo.ret <| ?_
  obtain rfl := h
  exact ImpX.here ⟨_, .cons (.all _ _ _ _ _ _ rfl .p0 TUnder.h TInfo.h rfl rfl) .nil, rfl⟩

set_option maxHeartbeats 4000000 in
theorem Q_SpotFault_c {p0x0 : Spot} {r : Int} (h : Q_SpotFault p0x0 = r) : Pu Try.prog 44 [.agg [I p0x0.X, I p0x0.Y]] (I r) := by
  unfold Q_SpotFault at h
  refine ACall.bodyN Try.func44 rfl Try.ntmps44 Try.results44 rfl rfl ?_
  refine tSR <| n_box rfl rfl rfl rfl fun b1 => rA rfl rfl <| rN <| tS <| tS <| ATodo.cut (fun σ' => ∃ (c2 : Bool), Q_SpotFault_j1 c2 = r ∧ σ' = ⟨13, [(12, .bool c2)], []⟩) ?_ ?_
  · refine tR <| rF rfl rfl rfl <| rL rfl rfl .p0 rfl rfl <| r_callp rfl (Q_in_c rfl) (CoL.refl _) rfl <| ARun.qv (q_not rfl) rfl <| rM rfl rfl <| ARun.guard rfl rfl rfl (fun hc => ?_) (fun hc => ?_)
    · rw [orFb hc] at h
      exact rF rfl rfl rfl <| rY rfl rfl rfl <| rL rfl rfl .p0 rfl rfl <| rY rfl rfl rfl <| r_callp rfl (Q_in_c rfl) (CoL.refl _) rfl <| rY rfl rfl rfl <| ARun.qv (q_not rfl) rfl <| rE rfl rfl rfl <| rN <| ATodo.stop <| ImpX.lq [] ⟨!(Q_in p0x0.Y (-10000 : Int) (10000 : Int)), h, rfl⟩ rfl rfl
    · rw [orTb hc] at h
      exact rG rfl rfl rfl rfl <| rG rfl rfl rfl rfl <| rG rfl rfl rfl rfl <| rT rfl rfl rfl <| rN <| ATodo.stop <| ImpX.lq [] ⟨true, h, rfl⟩ rfl rfl
  · rintro σ' ⟨c2, h, rfl⟩
    unfold Q_SpotFault_j1 at h
    refine ATodo.cond rfl (fun hc => ?_) (fun hc => ?_)
    · refine have h := iteT hc h; tSR <| rA rfl rfl <| rN <| ATodo.ret <| ?_
      obtain rfl := h
      exact ImpX.here ⟨_, .cons (.tmp _ _ rfl) .nil, rfl⟩
    · refine have h := iteFb hc h; tK <| tSR <| rA rfl rfl <| rN <| ATodo.ret <| ?_
      obtain rfl := h
      exact ImpX.here ⟨_, .cons (.tmp _ _ rfl) .nil, rfl⟩

set_option maxHeartbeats 4000000 in
theorem Q_sign_c {p0x0 : Int} {r : Int} (h : Q_sign p0x0 = r) : Pu Try.prog 137 [I p0x0] (I r) := by
  unfold Q_sign at h
  refine ACall.bodyN Try.func137 rfl Try.ntmps137 Try.results137 rfl rfl ?_
  refine tSR <| rA rfl rfl <| rN <| tS <| ATodo.block <| tSR <| rM rfl rfl <| ARun.qv (q_lss rfl rfl) rfl <| rA rfl rfl <| rN <| ATodo.cond_d rfl (fun hc => ?_) (fun hc => ?_)
  · refine have h := iteT hc h; tSR <| rA rfl rfl <| rN <| ATodo.ret <| ?_
    obtain rfl := h
    exact ImpX.here ⟨_, .cons (.tmp _ _ rfl) .nil, rfl⟩
  · refine have h := iteF hc h; tSR <| rM rfl rfl <| ARun.qv (q_gtr rfl rfl) rfl <| rA rfl rfl <| rN <| ATodo.cond_d rfl (fun hc => ?_) (fun hc => ?_)
    · refine have h := iteT hc h; tSR <| rA rfl rfl <| rN <| ATodo.ret <| ?_
      obtain rfl := h
      exact ImpX.here ⟨_, .cons (.tmp _ _ rfl) .nil, rfl⟩
    · refine have h := iteF hc h; tK <| ATodo.blk <| tSR <| rA rfl rfl <| rN <| ATodo.ret <| ?_
      obtain rfl := h
      exact ImpX.here ⟨_, .cons (.tmp _ _ rfl) .nil, rfl⟩

set_option maxHeartbeats 4000000 in
theorem Q_FixOrder_c {p0x0 : Fix} {p1x0 : Fix} {r : Int} (h : Q_FixOrder p0x0 p1x0 = r) : Pu Try.prog 127 [.agg [.str p0x0.Device, I p0x0.At, I p0x0.X, I p0x0.Y, I p0x0.Error], .agg [.str p1x0.Device, I p1x0.At, I p1x0.X, I p1x0.Y, I p1x0.Error]] (I r) := by
  unfold Q_FixOrder at h
  refine ACall.bodyN Try.func127 rfl Try.ntmps127 Try.results127 rfl rfl ?_
  refine tSR <| n_box rfl rfl rfl rfl fun b1 => n_box rfl rfl rfl rfl fun b2 => rA rfl rfl <| rN <| tS <| tSR <| rF rfl rfl rfl <| rL rfl rfl .p1 rfl rfl <| rF rfl rfl rfl <| rL rfl rfl .p0 rfl rfl <| ARun.qv (q_sne rfl rfl) rfl <| rN <| ATodo.cond_d rfl (fun hc => ?_) (fun hc => ?_)
  · refine have h := iteT hc h; tSR <| rF rfl rfl rfl <| rL rfl rfl .p1 rfl rfl <| rF rfl rfl rfl <| rL rfl rfl .p0 rfl rfl <| r_callp rfl (strings_Compare_c rfl) (CoL.refl _) rfl <| rA rfl rfl <| rN <| ATodo.ret <| ?_
    obtain rfl := h
    exact ImpX.here ⟨_, .cons (.tmp _ _ rfl) .nil, rfl⟩
  · refine have h := iteF hc h; tK <| tSR <| rF rfl rfl rfl <| rL rfl rfl .p1 rfl rfl <| rF rfl rfl rfl <| rL rfl rfl .p0 rfl rfl <| ARun.qv (q_subw rfl rfl) rfl <| r_callp rfl (Q_sign_c rfl) (CoL.refl _) rfl <| rA rfl rfl <| rN <| ATodo.ret <| ?_
    obtain rfl := h
    exact ImpX.here ⟨_, .cons (.tmp _ _ rfl) .nil, rfl⟩

set_option maxHeartbeats 4000000 in
theorem Q_FixesFault_c {p0x0 : List Fix} {r : Int} (h : Q_FixesFault p0x0 = some r) : Pu Try.prog 74 [.list 5 (p0x0.map Fix.av)] (I r) := by
  unfold Q_FixesFault at h
  refine ACall.bodyN Try.func74 rfl Try.ntmps74 Try.results74 rfl rfl ?_
  refine tSR <| rA rfl rfl <| rN <| tS <| tSR <| rM rfl rfl <| ARun.qv (t_len rfl) rfl <| ARun.qv (q_gtr rfl rfl) rfl <| rN <| ATodo.cond_d rfl (fun hc => ?_) (fun hc => ?_)
  · refine have h := iteT hc h; tSR <| rA rfl rfl <| rN <| ATodo.ret <| ?_
    obtain rfl := Option.some.inj h
    exact ImpX.here ⟨_, .cons (.tmp _ _ rfl) .nil, rfl⟩
  · refine have h := iteF hc h; tK <| tS <| tSR <| rM rfl rfl <| ARun.qv (t_len rfl) rfl <| rM rfl rfl <| rN <| ATodo.block <| ATodo.loopI (fun x : Int => Q_FixesFault_b1 p0x0 x) (fun x σ' => σ' = ⟨51, [(0, .list 5 (p0x0.map Fix.av)), (8, .list 5 (p0x0.map Fix.av)), (9, I (p0x0.length : Int)), (10, I x)], []⟩) h ?_ ?_
    · exact ImpX.lq [] rfl rfl rfl
    · intro n2 z1 σ' J1 hmk h hJ1 hA1
      obtain rfl := hmk
      replace h : Q_FixesFault_b1 p0x0 n2 = some z1 := h
      unfold Q_FixesFault_b1 at h
      refine tSR <| ARun.qv (q_lss rfl rfl) rfl <| rN <| tS <| ATodo.cond_d rfl (fun hc => ?_) (fun hc => ?_)
      · refine have h := iteT hc h; tK <| tS <| ATodo.block <| tSR <| rM rfl rfl <| bndE h fun v3 e1 h => ARun.qv (t_index rfl rfl rfl e1 rfl rfl) rfl <| ARun.qv (q_load_rptr_agg rfl rfl rfl) rfl <| n_alloc rfl rfl rfl rfl fun b4 => rA rfl rfl <| n_store_ptr rfl rfl rfl rfl .p0 rfl rfl <| rN <| ATodo.block <| tSR <| rF rfl rfl rfl <| rL rfl rfl .p0 rfl rfl <| bndE h fun v5 e2 h => r_callp rfl (Q_Key_c e2) (CoL.refl _) rfl <| ARun.qv (q_not rfl) rfl <| rA rfl rfl <| rN <| ATodo.cond rfl (fun hc => ?_) (fun hc => ?_)
        · refine have h := iteT hc h; tSR <| rA rfl rfl <| rN <| ATodo.ret <| have h := outL h hA1; ?_
          obtain rfl := Option.some.inj h
          exact ImpX.here ⟨_, .cons (.tmp _ _ rfl) .nil, rfl⟩
        · refine have h := iteFb hc h; tS <| ATodo.cut (fun σ' => ∃ (c6 : Bool), Q_FixesFault_j1 p0x0 n2 v3 c6 = some z1 ∧ σ' = ⟨51, [(0, .list 5 (p0x0.map Fix.av)), (3, I n2), (4, .ptr b4 0), (8, .list 5 (p0x0.map Fix.av)), (9, I (p0x0.length : Int)), (10, I n2), (20, .bool c6)], [(b4, .cells [.str v3.Device, I v3.At, I v3.X, I v3.Y, I v3.Error])]⟩) ?_ ?_
          · refine tR <| rF rfl rfl rfl <| rL rfl rfl .p0 rfl rfl <| r_callp rfl (Q_Moment_c rfl) (CoL.refl _) rfl <| ARun.qv (q_not rfl) rfl <| rM rfl rfl <| ARun.guard rfl rfl rfl (fun hc => ?_) (fun hc => ?_)
            · rw [orFb hc] at h
              refine ARun.qv (q_load_ptr_all rfl rfl .p0 rfl) rfl <| rY rfl rfl rfl <| r_callp rfl (Q_spotOf_c rfl) (CoL.refl _) rfl <| rY rfl rfl rfl <| r_callp rfl (Q_SpotFault_c rfl) (CoL.refl _) rfl <| rY rfl rfl rfl <| ARun.qv (q_neq rfl rfl) rfl <| rE rfl rfl rfl <| rM rfl rfl <| ARun.guard_df rfl rfl rfl (fun hc => ?_) (fun hc => ?_)
              · rw [orFd hc] at h
                exact rF rfl rfl rfl <| rY rfl rfl rfl <| rL rfl rfl .p0 rfl rfl <| rY rfl rfl rfl <| r_callp rfl (Q_in_c rfl) (CoL.refl _) rfl <| rY rfl rfl rfl <| ARun.qv (q_not rfl) rfl <| rE rfl rfl rfl <| rA rfl rfl <| rN <| ATodo.stop <| ImpX.lq [0] ⟨!(Q_in v3.Error (0 : Int) (10000 : Int)), h, rfl⟩ rfl rfl
              · rw [orTd hc] at h
                exact rG rfl rfl rfl rfl <| rG rfl rfl rfl rfl <| rG rfl rfl rfl rfl <| rT rfl rfl rfl <| rA rfl rfl <| rN <| ATodo.stop <| ImpX.lq [0] ⟨true, h, rfl⟩ rfl rfl
            · rw [orTb hc] at h
              exact rG rfl rfl rfl rfl <| rG rfl rfl rfl rfl <| rG rfl rfl rfl rfl <| rT rfl rfl rfl <| rM rfl rfl <| rG rfl rfl rfl rfl <| rG rfl rfl rfl rfl <| rG rfl rfl rfl rfl <| rG rfl rfl rfl rfl <| rT rfl rfl rfl <| rA rfl rfl <| rN <| ATodo.stop <| ImpX.lq [0] ⟨true, h, rfl⟩ rfl rfl
          · rintro σ' ⟨c6, h, rfl⟩
            unfold Q_FixesFault_j1 at h
            refine ATodo.cond rfl (fun hc => ?_) (fun hc => ?_)
            · refine have h := iteT hc h; tSR <| rA rfl rfl <| rN <| ATodo.ret <| have h := outL h hA1; ?_
              obtain rfl := Option.some.inj h
              exact ImpX.here ⟨_, .cons (.tmp _ _ rfl) .nil, rfl⟩
            · refine have h := iteFb hc h; tS <| ATodo.cut (fun σ' => ∃ (c7 : Bool), Q_FixesFault_j2 n2 c7 = some z1 ∧ σ' = ⟨51, [(0, .list 5 (p0x0.map Fix.av)), (8, .list 5 (p0x0.map Fix.av)), (9, I (p0x0.length : Int)), (10, I n2), (37, .bool c7)], []⟩) ?_ ?_
              · refine ATodo.regionM (id := 10) (A := [0, 1, 3, 7, 7, 23, 63, 127, 7, 511, 1023, 2047, 4095]) 13 mixed rfl (by kernel_rfl) (by kernel_rfl) <| AM.qv (q_move rfl) rfl <| AM.qv (q_gtr rfl rfl) rfl <| AM.qv (q_move rfl) rfl <| AM.guard_dt rfl rfl rfl (fun hc => ?_) (fun hc => ?_)
                · exact have h := iteT hc h; AM.qv (q_move rfl) rfl <| AM.guard_yes rfl rfl rfl <| AM.qv (q_move rfl) rfl <| AM.guard_yes rfl rfl rfl <| AM.qv (q_subw rfl rfl) rfl <| AM.guard_yes rfl rfl rfl <| bndE h fun v8 e3 h => AM.qv (t_index rfl rfl rfl e3 rfl rfl) rfl <| AM.guard_yes rfl rfl rfl <| AM.qv (q_load_rptr_agg rfl rfl rfl) rfl <| AM.guard_yes rfl rfl rfl <| AM.qv (q_load_ptr_all rfl rfl .p0 rfl) rfl <| AM.guard_yes rfl rfl rfl <| AM.callp rfl (Q_FixOrder_c rfl) (CoL.refl _) rfl <| AM.guard_yes rfl rfl rfl <| AM.qv (q_geq rfl rfl) rfl <| AM.qv (q_pick_t rfl rfl) rfl <| AM.qv (q_assign rfl) rfl <| AM.nil <| rN <| ATodo.stop <| ImpX.lq [] ⟨decide ((0 : Int) ≤ (Q_FixOrder v8 v3)), h, rfl⟩ rfl rfl
                · exact have h := iteF hc h; AM.guard_no rfl rfl rfl rfl <| AM.guard_no rfl rfl rfl rfl <| AM.guard_no rfl rfl rfl rfl <| AM.guard_no rfl rfl rfl rfl <| AM.guard_no rfl rfl rfl rfl <| AM.guard_no rfl rfl rfl rfl <| AM.guard_no rfl rfl rfl rfl <| AM.qv (q_pick_f rfl rfl) rfl <| AM.qv (q_assign rfl) rfl <| AM.nil <| rN <| ATodo.stop <| ImpX.lq [] ⟨false, h, rfl⟩ rfl rfl
              · rintro σ' ⟨c7, h, rfl⟩
                unfold Q_FixesFault_j2 at h
                refine ATodo.cond rfl (fun hc => ?_) (fun hc => ?_)
                · refine have h := iteT hc h; tSR <| rA rfl rfl <| rN <| ATodo.ret <| have h := outL h hA1; ?_
                  obtain rfl := Option.some.inj h
                  exact ImpX.here ⟨_, .cons (.tmp _ _ rfl) .nil, rfl⟩
                · refine have h := iteFb hc h; tK <| ATodo.blk <| ATodo.blk <| tR <| ARun.qv (q_addw rfl rfl) rfl <| rM rfl rfl <| rN <| ATodo.stop <| ?_
                  obtain rfl := Option.some.inj h
                  exact hJ1 _ _ rfl <| ImpX.lq [] rfl rfl rfl
      · refine have h := iteF hc h; ATodo.exit rfl <| have h := outL h hA1; tSR <| rA rfl rfl <| rN <| ATodo.ret <| ?_
        obtain rfl := Option.some.inj h
        exact ImpX.here ⟨_, .cons (.tmp _ _ rfl) .nil, rfl⟩

set_option maxHeartbeats 4000000 in
theorem Q_TrackFault_1x_c {p0x0 : Fix} {p1x0 : List Fix} {r : Bool} (h : Q_TrackFault_1x p0x0 p1x0 = some r) : Pu Try.prog 76 [.agg [.str p0x0.Device, I p0x0.At, I p0x0.X, I p0x0.Y, I p0x0.Error], .rptr [.list 5 (p1x0.map Fix.av)]] (.bool r) := by
  unfold Q_TrackFault_1x at h
  refine ACall.bodyN Try.func76 rfl Try.ntmps76 Try.results76 rfl rfl ?_
  refine tSR <| n_box rfl rfl rfl rfl fun b1 => rA rfl rfl <| rN <| tS <| ATodo.regionM (id := 1) (A := [0, 1, 0, 4, 12, 28, 63, 127]) 8 mixed rfl (by kernel_rfl) (by kernel_rfl) <| AM.qv (n_field_ptr rfl rfl) rfl <| AM.qv (q_load_ptr rfl rfl .p0 rfl) rfl <| AM.qv (q_load_rptr rfl rfl rfl) rfl <| bndE h fun v2 e1 h => AM.qv (t_index rfl rfl rfl e1 rfl rfl) rfl <| AM.qv (n_field_rptr rfl rfl) rfl <| AM.qv (q_load_rptr rfl rfl rfl) rfl <| AM.qv (q_sne rfl rfl) rfl <| AM.qv (q_assign rfl) rfl <| AM.nil <| rN <| ATodo.ret <| ?_
  obtain rfl := Option.some.inj h
  exact ImpX.here ⟨_, .cons (.tmp _ _ rfl) .nil, rfl⟩

set_option maxHeartbeats 4000000 in
theorem Q_TrackFault_c {p0x0 : List Fix} {r : Int} (h : Q_TrackFault p0x0 = some r) : Pu Try.prog 28 [.list 5 (p0x0.map Fix.av)] (I r) := by
  unfold Q_TrackFault at h
  refine ACall.bodyN Try.func28 rfl Try.ntmps28 Try.results28 rfl rfl ?_
  refine tSR <| n_box rfl rfl rfl rfl fun b1 => rA rfl rfl <| rN <| tS <| tSR <| rL rfl rfl .p0 rfl rfl <| bndE h fun v2 e1 h => r_callp rfl (Q_FixesFault_c e1) (CoL.refl _) rfl <| rA rfl rfl <| rN <| tSR <| rM rfl rfl <| ARun.qv (q_neq rfl rfl) rfl <| rN <| ATodo.cond_d rfl (fun hc => ?_) (fun hc => ?_)
  · refine have h := iteT hc h; tSR <| rM rfl rfl <| rA rfl rfl <| rN <| ATodo.ret <| ?_
    obtain rfl := Option.some.inj h
    exact ImpX.here ⟨_, .cons (.tmp _ _ rfl) .nil, rfl⟩
  · refine have h := iteF hc h; tK <| tS <| tSR <| rL rfl rfl .p0 rfl rfl <| ARun.qv (q_makeFunc rfl) rfl <| bndE h fun v3 e2 h => r_callpB rfl (slices_ContainsFunc_Fix_Fix_c (fun e => Q_TrackFault_1x_c e) e2) (.cons (.co (.refl _)) (.cons (.funcL _ _ _ (.cons (.boxL _ _ _ .p0 (.cons (.co (.refl _)) .nil)) .nil)) .nil)) rfl rfl <| rN <| ATodo.cond rfl (fun hc => ?_) (fun hc => ?_)
    · refine have h := iteT hc h; tSR <| rA rfl rfl <| rN <| ATodo.ret <| ?_
      obtain rfl := Option.some.inj h
      exact ImpX.here ⟨_, .cons (.tmp _ _ rfl) .nil, rfl⟩
    · refine have h := iteFb hc h; tK <| tSR <| rA rfl rfl <| rN <| ATodo.ret <| ?_
      obtain rfl := Option.some.inj h
      exact ImpX.here ⟨_, .cons (.tmp _ _ rfl) .nil, rfl⟩

set_option maxHeartbeats 4000000 in
theorem L_when_c {p0x0 : Bool} {p1x0 : Int} {r : Int} (h : L_when p0x0 p1x0 = r) : Pu Try.prog 14 [.bool p0x0, I p1x0] (I r) := by
  unfold L_when at h
  refine ACall.bodyN Try.func14 rfl Try.ntmps14 Try.results14 rfl rfl ?_
  refine tSR <| rA rfl rfl <| rN <| tS <| tSR <| rM rfl rfl <| rN <| ATodo.cond rfl (fun hc => ?_) (fun hc => ?_)
  · refine have h := iteT hc h; tSR <| rM rfl rfl <| rA rfl rfl <| rN <| ATodo.ret <| ?_
    obtain rfl := h
    exact ImpX.here ⟨_, .cons (.tmp _ _ rfl) .nil, rfl⟩
  · refine have h := iteFb hc h; tK <| tSR <| rA rfl rfl <| rN <| ATodo.ret <| ?_
    obtain rfl := h
    exact ImpX.here ⟨_, .cons (.tmp _ _ rfl) .nil, rfl⟩

set_option maxHeartbeats 4000000 in
theorem L_errs_c {p0x0 : List Int} {r : Int} (h : L_errs p0x0 = some r) : Pu Try.prog 11 [.list 1 (p0x0.map I)] (I r) := by
  unfold L_errs at h
  refine ACall.bodyN Try.func11 rfl Try.ntmps11 Try.results11 rfl rfl ?_
  refine tSR <| rA rfl rfl <| rN <| tS <| tSR <| rM rfl rfl <| ARun.qv (t_len rfl) rfl <| rM rfl rfl <| rN <| ATodo.block <| ATodo.loopI (fun x : Int => L_errs_b1 p0x0 x) (fun x σ' => σ' = ⟨15, [(5, .list 1 (p0x0.map I)), (6, I (p0x0.length : Int)), (7, I x)], []⟩) h ?_ ?_
  · exact ImpX.lq [] rfl rfl rfl
  · intro n2 z1 σ' J1 hmk h hJ1 hA1
    obtain rfl := hmk
    replace h : L_errs_b1 p0x0 n2 = some z1 := h
    unfold L_errs_b1 at h
    refine tSR <| ARun.qv (q_lss rfl rfl) rfl <| rN <| tS <| ATodo.cond_d rfl (fun hc => ?_) (fun hc => ?_)
    · refine have h := iteT hc h; tK <| tS <| ATodo.block <| tSR <| bndE h fun v3 e1 h => ARun.qv (t_index rfl rfl rfl e1 rfl rfl) rfl <| ARun.qv (q_load_rptr rfl rfl rfl) rfl <| rA rfl rfl <| rN <| tSR <| rM rfl rfl <| ARun.qv (q_neq rfl rfl) rfl <| rN <| ATodo.cond_d rfl (fun hc => ?_) (fun hc => ?_)
      · refine have h := iteT hc h; tSR <| rM rfl rfl <| rA rfl rfl <| rN <| ATodo.ret <| have h := outL h hA1; ?_
        obtain rfl := Option.some.inj h
        exact ImpX.here ⟨_, .cons (.tmp _ _ rfl) .nil, rfl⟩
      · refine have h := iteF hc h; tK <| ATodo.blk <| tR <| ARun.qv (q_addw rfl rfl) rfl <| rM rfl rfl <| rN <| ATodo.stop <| ?_
        obtain rfl := Option.some.inj h
        exact hJ1 _ _ rfl <| ImpX.lq [] rfl rfl rfl
    · refine have h := iteF hc h; ATodo.exit rfl <| have h := outL h hA1; tSR <| rA rfl rfl <| rN <| ATodo.ret <| ?_
      obtain rfl := Option.some.inj h
      exact ImpX.here ⟨_, .cons (.tmp _ _ rfl) .nil, rfl⟩

set_option maxHeartbeats 4000000 in
theorem Q_minus_c {p0x0 : Spot} {p1x0 : Spot} {r : Spot} (h : Q_minus p0x0 p1x0 = r) : Pu Try.prog 108 [.agg [I p0x0.X, I p0x0.Y], .agg [I p1x0.X, I p1x0.Y]] (.agg [I r.X, I r.Y]) := by
  unfold Q_minus at h
  refine ACall.bodyN Try.func108 rfl Try.ntmps108 Try.results108 rfl rfl ?_
  refine tSR <| n_box rfl rfl rfl rfl fun b1 => n_box rfl rfl rfl rfl fun b2 => n_alloc rfl rfl rfl rfl fun b3 => rN <| tSR <| rF rfl rfl rfl <| rL rfl rfl .p2 rfl rfl <| rF rfl rfl rfl <| rL rfl rfl .p1 rfl rfl <| ARun.qv (q_subw rfl rfl) rfl <| rF rfl rfl rfl <| rL rfl rfl .p2 rfl rfl <| rF rfl rfl rfl <| rL rfl rfl .p1 rfl rfl <| ARun.qv (q_subw rfl rfl) rfl <| ARun.qv (n_build rfl rfl rfl rfl rfl) rfl <| n_store_ptr rfl rfl rfl rfl .p0 rfl rfl <| rN <| ATodo.ret <| ?_
  obtain rfl := h
  exact ImpX.here ⟨_, .cons (.all _ _ _ _ _ _ rfl .p0 TUnder.h TInfo.h rfl rfl) .nil, rfl⟩

set_option maxHeartbeats 4000000 in
theorem Q_dot_c {p0x0 : Spot} {p1x0 : Spot} {r : Int} (h : Q_dot p0x0 p1x0 = r) : Pu Try.prog 107 [.agg [I p0x0.X, I p0x0.Y], .agg [I p1x0.X, I p1x0.Y]] (I r) := by
  unfold Q_dot at h
  refine ACall.bodyN Try.func107 rfl Try.ntmps107 Try.results107 rfl rfl ?_
  refine tSR <| n_box rfl rfl rfl rfl fun b1 => n_box rfl rfl rfl rfl fun b2 => rA rfl rfl <| rN <| tSR <| rF rfl rfl rfl <| rL rfl rfl .p1 rfl rfl <| rF rfl rfl rfl <| rL rfl rfl .p0 rfl rfl <| ARun.qv (q_mulw rfl rfl) rfl <| rF rfl rfl rfl <| rL rfl rfl .p1 rfl rfl <| rF rfl rfl rfl <| rL rfl rfl .p0 rfl rfl <| ARun.qv (q_mulw rfl rfl) rfl <| ARun.qv (q_addw rfl rfl) rfl <| rA rfl rfl <| rN <| ATodo.ret <| ?_
  obtain rfl := h
  exact ImpX.here ⟨_, .cons (.tmp _ _ rfl) .nil, rfl⟩

set_option maxHeartbeats 4000000 in
theorem Q_square_c {p0x0 : Fix} {p1x0 : Fix} {r : Int} (h : Q_square p0x0 p1x0 = r) : Pu Try.prog 77 [.agg [.str p0x0.Device, I p0x0.At, I p0x0.X, I p0x0.Y, I p0x0.Error], .agg [.str p1x0.Device, I p1x0.At, I p1x0.X, I p1x0.Y, I p1x0.Error]] (I r) := by
  unfold Q_square at h
  refine ACall.bodyN Try.func77 rfl Try.ntmps77 Try.results77 rfl rfl ?_
  refine tSR <| n_box rfl rfl rfl rfl fun b1 => n_box rfl rfl rfl rfl fun b2 => rA rfl rfl <| rN <| tS <| ATodo.regionT (id := 1) (A := [0, 1, 0, 7, 15, 0, 63]) (H0 := []) (HH := fun β => [((β 5), .cells [I (0 : Int), I (0 : Int)]), (b2, .cells [.str p1x0.Device, I p1x0.At, I p1x0.X, I p1x0.Y, I p1x0.Error]), (b1, .cells [.str p0x0.Device, I p0x0.At, I p0x0.X, I p0x0.Y, I p0x0.Error])]) 6 mixed rfl (by kernel_rfl) (by kernel_rfl) [⟨some 5, none, [], fun b => (b, .cells [I (0 : Int), I (0 : Int)]), none⟩] [5] rfl (by kernel_rfl) rfl .nil (fun _ => rfl) <| AT.am 5 rfl rfl <| AM.qv (q_load_ptr_all rfl rfl .p1 rfl) rfl <| AM.callp rfl (Q_spotOf_c rfl) (CoL.refl _) rfl <| AM.qv (q_load_ptr_all rfl rfl .p0 rfl) rfl <| AM.callp rfl (Q_spotOf_c rfl) (CoL.refl _) rfl <| AM.callp rfl (Q_minus_c rfl) (CoL.refl _) rfl <| AM.nil <| AT.runD (V := fun b => .ptr b 0) (Ti := []) (Pi := fun b => [(b, .cells [I (0 : Int), I (0 : Int)])]) (fun _ => rfl) (fun _ => rfl) (fun _ _ => rfl) rfl (fun _ => rfl) rfl rfl rfl ?_ ?_
  · exact n_alloc rfl rfl rfl rfl fun b3 => ARun.nil ⟨b3, _, rfl, rfl⟩
  refine AT.nilN (fun _ => rfl) fun β => ?_
  generalize β 5 = b3
  clear β
  refine n_store_ptr rfl rfl rfl rfl .p0 rfl rfl <| rN <| tSR <| ARun.qv (q_load_ptr_all rfl rfl .p0 rfl) rfl <| ARun.qv (q_load_ptr_all rfl rfl .p0 rfl) rfl <| r_callp rfl (Q_dot_c rfl) (CoL.refl _) rfl <| rA rfl rfl <| rN <| ATodo.ret <| ?_
  obtain rfl := h
  exact ImpX.here ⟨_, .cons (.tmp _ _ rfl) .nil, rfl⟩

set_option maxHeartbeats 4000000 in
theorem Q_JumpsOf_c {p0x0 : List Fix} {p1x0 : Int} {r : (List Int)} (h : Q_JumpsOf p0x0 p1x0 = some r) : ACall Try.prog 29 [.list 5 (p0x0.map Fix.av), I p1x0] [] (T1 (fun d_0 => [(d_0, .arr 1 (r.map I))]) (fun d_0 => .sl 1 d_0 0 r.length)) := by
  unfold Q_JumpsOf at h
  refine ACall.lessH ?_
  refine ACall.bodyN Try.func29 rfl Try.ntmps29 Try.results29 rfl rfl ?_
  refine tSR <| rA rfl rfl <| rN <| tSR <| rA rfl rfl <| rN <| tSR <| rA rfl rfl <| rA rfl rfl <| rN <| tS <| tSR <| rA rfl rfl <| rN <| ATodo.block <| ATodo.loopI (fun x : (List Int) × Int × Int × Int => Q_JumpsOf_b1 p0x0 p1x0 x.1 x.2.1 x.2.2.1 x.2.2.2) (fun x σ' => ∃ (b6 : Bk), σ' = ⟨60, [(0, .list 5 (p0x0.map Fix.av)), (1, I p1x0), (5, .sl 1 b6 0 x.1.length), (6, I x.2.1), (7, I x.2.2.1), (8, I x.2.2.2)], [(b6, .arr 1 (x.1.map I))]⟩) h ?_ ?_
  · exact ImpX.arr (s := 5) 1 rfl fun b11 => ImpX.lq [0] ⟨b11, rfl⟩ rfl rfl
  · intro x z1 σ' J1 hmk h hJ1 hA1
    obtain ⟨l7, n8, n9, n10⟩ := x
    obtain ⟨b6, rfl⟩ := hmk
    replace h : Q_JumpsOf_b1 p0x0 p1x0 l7 n8 n9 n10 = some z1 := h
    unfold Q_JumpsOf_b1 at h
    refine tS <| tSR <| rM rfl rfl <| rM rfl rfl <| ARun.qv (t_len rfl) rfl <| ARun.qv (q_lss rfl rfl) rfl <| rN <| ATodo.cond_d rfl (fun hc => ?_) (fun hc => ?_)
    · refine have h := iteT hc h; tK <| tS <| ATodo.cut (fun σ' => ∃ (b12 : Bk) (l13 : List Int) (n14 : Int) (n15 : Int), Q_JumpsOf_j1 n10 l13 n14 n15 = some z1 ∧ σ' = ⟨60, [(0, .list 5 (p0x0.map Fix.av)), (1, I p1x0), (5, .sl 1 b12 0 l13.length), (6, I n14), (7, I n15), (8, I n10)], [(b12, .arr 1 (l13.map I))]⟩) ?_ ?_
      · refine ATodo.block <| tS <| ATodo.regionM (id := 6) (A := [0, 0, 0, 6, 14, 30, 0, 0, 192, 448, 960, 2046, 4094, 8191, 16383]) 15 mixed rfl (by kernel_rfl) (by kernel_rfl) <| AM.qv (q_move rfl) rfl <| AM.qv (q_move rfl) rfl <| AM.qv (q_move rfl) rfl <| bndE h fun v16 e1 h => AM.qv (t_index rfl rfl rfl e1 rfl rfl) rfl <| AM.qv (n_field_rptr rfl rfl) rfl <| AM.qv (q_load_rptr rfl rfl rfl) rfl <| AM.qv (q_move rfl) rfl <| AM.qv (q_move rfl) rfl <| bndE h fun v17 e2 h => AM.qv (t_index rfl rfl rfl e2 rfl rfl) rfl <| AM.qv (n_field_rptr rfl rfl) rfl <| AM.qv (q_load_rptr rfl rfl rfl) rfl <| AM.qv (q_subw rfl rfl) rfl <| AM.qv (q_min rfl rfl) rfl <| AM.qv (q_mulw rfl rfl) rfl <| AM.qv (q_assign rfl) rfl <| AM.nil <| rN <| tS <| tS <| ATodo.cut (fun σ' => ∃ (c18 : Bool), Q_JumpsOf_j2 l7 n8 n9 n10 c18 = some z1 ∧ σ' = ⟨60, [(0, .list 5 (p0x0.map Fix.av)), (1, I p1x0), (5, .sl 1 b6 0 l7.length), (6, I n8), (7, I n9), (8, I n10), (51, .bool c18)], [(b6, .arr 1 (l7.map I))]⟩) ?_ ?_
        · refine ATodo.regionM (id := 7) (A := [0, 1, 3, 7, 7, 31, 63, 7, 7, 391, 903, 2047, 4095, 7, 7, 24583, 65535, 131071, 262143, 524287, 1048575, 2097151]) 22 mixed rfl (by kernel_rfl) (by kernel_rfl) <| AM.qv (q_move rfl) rfl <| AM.qv (q_geq rfl rfl) rfl <| AM.qv (q_move rfl) rfl <| AM.guard_df rfl rfl rfl (fun hc => ?_) (fun hc => ?_)
          · refine have h := iteF hc h; AM.qv (q_move rfl) rfl <| AM.guard_yes rfl rfl rfl <| AM.qv (q_move rfl) rfl <| AM.guard_yes rfl rfl rfl <| bndE h fun v19 e3 h => AM.qv (t_index rfl rfl rfl e3 rfl rfl) rfl <| AM.guard_yes rfl rfl rfl <| AM.qv (q_load_rptr_agg rfl rfl rfl) rfl <| AM.guard_yes rfl rfl rfl <| AM.qv (q_move rfl) rfl <| AM.guard_yes rfl rfl rfl <| AM.qv (q_move rfl) rfl <| AM.guard_yes rfl rfl rfl <| bndE h fun v20 e4 h => AM.qv (t_index rfl rfl rfl e4 rfl rfl) rfl <| AM.guard_yes rfl rfl rfl <| AM.qv (q_load_rptr_agg rfl rfl rfl) rfl <| AM.guard_yes rfl rfl rfl <| AM.callp rfl (Q_square_c rfl) (CoL.refl _) rfl <| AM.guard_yes rfl rfl rfl <| AM.qv (q_mulw rfl rfl) rfl <| AM.guard_yes rfl rfl rfl <| AM.qv (q_move rfl) rfl <| AM.guard_yes rfl rfl rfl <| AM.qv (q_move rfl) rfl <| AM.guard_yes rfl rfl rfl <| AM.qv (q_mulw rfl rfl) rfl <| AM.guard_yes rfl rfl rfl <| AM.qv (q_leq rfl rfl) rfl <| AM.qv (q_pick_f rfl rfl) rfl <| AM.qv (q_move rfl) rfl <| AM.guard_df rfl rfl rfl (fun hc => ?_) (fun hc => ?_)
            · rw [orFd hc] at h
              exact AM.qv (q_move rfl) rfl <| AM.guard_yes rfl rfl rfl <| AM.qv (q_eql rfl rfl) rfl <| AM.qv (q_pick_f rfl rfl) rfl <| AM.nil <| rN <| ATodo.stop <| ImpX.lq [0] ⟨decide (n9 = (2 : Int)), h, rfl⟩ rfl rfl
            · rw [orTd hc] at h
              exact AM.guard_no rfl rfl rfl rfl <| AM.qv (q_pick_t rfl rfl) rfl <| AM.nil <| rN <| ATodo.stop <| ImpX.lq [0] ⟨true, h, rfl⟩ rfl rfl
          · exact have h := iteT hc h; AM.guard_no rfl rfl rfl rfl <| AM.guard_no rfl rfl rfl rfl <| AM.guard_no rfl rfl rfl rfl <| AM.guard_no rfl rfl rfl rfl <| AM.guard_no rfl rfl rfl rfl <| AM.guard_no rfl rfl rfl rfl <| AM.guard_no rfl rfl rfl rfl <| AM.guard_no rfl rfl rfl rfl <| AM.guard_no rfl rfl rfl rfl <| AM.guard_no rfl rfl rfl rfl <| AM.guard_no rfl rfl rfl rfl <| AM.guard_no rfl rfl rfl rfl <| AM.guard_no rfl rfl rfl rfl <| AM.qv (q_pick_t rfl rfl) rfl <| AM.qv (q_move rfl) rfl <| AM.guard_no rfl rfl rfl rfl <| AM.guard_no rfl rfl rfl rfl <| AM.qv (q_pick_t rfl rfl) rfl <| AM.nil <| rN <| ATodo.stop <| ImpX.lq [0] ⟨true, h, rfl⟩ rfl rfl
        · rintro σ' ⟨c18, h, rfl⟩
          unfold Q_JumpsOf_j2 at h
          refine ATodo.cond rfl (fun hc => ?_) (fun hc => ?_)
          · exact have h := iteT hc h; tSR <| rM rfl rfl <| rA rfl rfl <| rA rfl rfl <| rN <| ATodo.exit rfl <| ATodo.stop <| ImpX.lq [0] ⟨b6, l7, n10, (0 : Int), h, rfl⟩ rfl rfl
          · exact have h := iteFb hc h; tK <| tSR <| rM rfl rfl <| rM rfl rfl <| n_buildSliceL (xs := ([n10] : List Int).map I) rfl rfl rfl rfl rfl rfl <| bndE h fun l21 e5 h => t_append (g := I) rfl rfl rfl rfl rfl rfl rfl rfl (.list _) e5 (fun _ => .p0) rfl fun b22 => rA rfl rfl <| rN <| tR <| rM rfl rfl <| ARun.qv (q_addw rfl rfl) rfl <| rA rfl rfl <| rN <| ATodo.blk <| ATodo.stop <| ImpX.lq [0] ⟨b22, l21, n8, w64 (n9 + (1 : Int)), h, rfl⟩ rfl rfl
      · rintro σ' ⟨b12, l13, n14, n15, h, rfl⟩
        unfold Q_JumpsOf_j1 at h
        refine tR <| rM rfl rfl <| ARun.qv (q_addw rfl rfl) rfl <| rA rfl rfl <| rN <| ATodo.stop <| ?_
        obtain rfl := Option.some.inj h
        exact hJ1 _ _ rfl <| ImpX.lq [0] ⟨b12, rfl⟩ rfl rfl
    · refine have h := iteF hc h; ATodo.exit rfl <| have h := outL h hA1; tSR <| rM rfl rfl <| rA rfl rfl <| rN <| ATodo.ret <| ?_
      obtain rfl := Option.some.inj h
      exact ImpX.here ⟨_, .cons (.tmp _ _ rfl) .nil, _, .cons .p0 .nil, ⟨b6, rfl, rfl⟩⟩

set_option maxHeartbeats 4000000 in
theorem Q_cross_c {p0x0 : Spot} {p1x0 : Spot} {r : Int} (h : Q_cross p0x0 p1x0 = r) : Pu Try.prog 129 [.agg [I p0x0.X, I p0x0.Y], .agg [I p1x0.X, I p1x0.Y]] (I r) := by
  unfold Q_cross at h
  refine ACall.bodyN Try.func129 rfl Try.ntmps129 Try.results129 rfl rfl ?_
  refine tSR <| n_box rfl rfl rfl rfl fun b1 => n_box rfl rfl rfl rfl fun b2 => rA rfl rfl <| rN <| tSR <| rF rfl rfl rfl <| rL rfl rfl .p1 rfl rfl <| rF rfl rfl rfl <| rL rfl rfl .p0 rfl rfl <| ARun.qv (q_mulw rfl rfl) rfl <| rF rfl rfl rfl <| rL rfl rfl .p1 rfl rfl <| rF rfl rfl rfl <| rL rfl rfl .p0 rfl rfl <| ARun.qv (q_mulw rfl rfl) rfl <| ARun.qv (q_subw rfl rfl) rfl <| rA rfl rfl <| rN <| ATodo.ret <| ?_
  obtain rfl := h
  exact ImpX.here ⟨_, .cons (.tmp _ _ rfl) .nil, rfl⟩

set_option maxHeartbeats 4000000 in
theorem Q_Lowest_c {p0x0 : Int} {p1x0 : Int} {r : Fraction} (h : Q_Lowest p0x0 p1x0 = some r) : Pu Try.prog 23 [I p0x0, I p1x0] (.agg [I r.Num, I r.Den]) := by
  unfold Q_Lowest at h
  refine ACall.bodyN Try.func23 rfl Try.ntmps23 Try.results23 rfl rfl ?_
  refine tSR <| n_alloc rfl rfl rfl rfl fun b1 => rN <| tSR <| rM rfl rfl <| rM rfl rfl <| rA rfl rfl <| rA rfl rfl <| rN <| tS <| ATodo.block <| ATodo.loopI (fun x : Int × Int => Q_Lowest_b1 p0x0 p1x0 x.1 x.2) (fun x σ' => σ' = ⟨26, [(0, I p0x0), (1, I p1x0), (4, .ptr b1 0), (5, I x.1), (6, I x.2)], [(b1, .cells [I (0 : Int), I (0 : Int)])]⟩) h ?_ ?_
  · exact ImpX.lq [0] rfl rfl rfl
  · intro x z1 σ' J1 hmk h hJ1 hA1
    obtain ⟨n4, n5⟩ := x
    obtain rfl := hmk
    replace h : Q_Lowest_b1 p0x0 p1x0 n4 n5 = some z1 := h
    unfold Q_Lowest_b1 at h
    refine tS <| tSR <| rM rfl rfl <| ARun.qv (q_neq rfl rfl) rfl <| rN <| ATodo.cond_d rfl (fun hc => ?_) (fun hc => ?_)
    · refine have h := iteT hc h; tK <| ATodo.block <| ATodo.regionM (id := 3) (A := [0, 0, 0, 6, 3, 31]) 6 mixed rfl (by kernel_rfl) (by kernel_rfl) <| AM.qv (q_move rfl) rfl <| AM.qv (q_move rfl) rfl <| AM.qv (q_move rfl) rfl <| bndE h fun n6 e1 h => AM.qv (t_remS rfl rfl e1) rfl <| AM.qv (q_assign rfl) rfl <| AM.qv (q_assign rfl) rfl <| AM.nil <| rN <| ATodo.blk <| ATodo.stop <| ?_
      obtain rfl := Option.some.inj h
      exact hJ1 _ _ rfl <| ImpX.lq [0] rfl rfl rfl
    · refine have h := iteF hc h; ATodo.exit rfl <| have h := outL h hA1; ?_
      unfold Q_Lowest_k2 at h
      refine tS <| tSR <| rM rfl rfl <| ARun.qv (q_lss rfl rfl) rfl <| rN <| ATodo.cut (fun σ' => ∃ (n7 : Int), Q_Lowest_j1 p0x0 p1x0 n7 = some r ∧ σ' = ⟨26, [(0, I p0x0), (1, I p1x0), (4, .ptr b1 0), (5, I n7)], [(b1, .cells [I (0 : Int), I (0 : Int)])]⟩) ?_ ?_
      · refine ATodo.cond_d rfl (fun hc => ?_) (fun hc => ?_)
        · exact have h := iteT hc h; tR <| rM rfl rfl <| ARun.qv (t_negw rfl) rfl <| rA rfl rfl <| rN <| ATodo.stop <| ImpX.lq [0] ⟨w64 (-n4), h, rfl⟩ rfl rfl
        · exact have h := iteF hc h; tK <| ATodo.stop <| ImpX.lq [0] ⟨n4, h, rfl⟩ rfl rfl
      · rintro σ' ⟨n7, h, rfl⟩
        unfold Q_Lowest_j1 at h
        refine tS <| ATodo.regionM (id := 6) (A := [0, 0, 3, 0, 0, 24, 63, 127]) 7 mixed rfl (by kernel_rfl) (by kernel_rfl) <| AM.qv (q_move rfl) rfl <| AM.qv (q_move rfl) rfl <| bndE h fun n8 e2 h => AM.qv (t_quoS rfl rfl e2) rfl <| AM.qv (q_move rfl) rfl <| AM.qv (q_move rfl) rfl <| bndE h fun n9 e3 h => AM.qv (t_quoS rfl rfl e3) rfl <| AM.qv (n_build rfl rfl rfl rfl rfl) rfl <| AM.nil <| n_store_ptr rfl rfl rfl rfl .p0 rfl rfl <| rN <| ATodo.ret <| ?_
        obtain rfl := Option.some.inj h
        exact ImpX.here ⟨_, .cons (.all _ _ _ _ _ _ rfl .p0 TUnder.h TInfo.h rfl rfl) .nil, rfl⟩

set_option maxHeartbeats 4000000 in
theorem Q_farWay_c {p0x0 : Spot} {p1x0 : Spot} {p2x0 : Spot} {r : Fraction} (h : Q_farWay p0x0 p1x0 p2x0 = some r) : Pu Try.prog 78 [.agg [I p0x0.X, I p0x0.Y], .agg [I p1x0.X, I p1x0.Y], .agg [I p2x0.X, I p2x0.Y]] (.agg [I r.Num, I r.Den]) := by
  unfold Q_farWay at h
  refine ACall.bodyN Try.func78 rfl Try.ntmps78 Try.results78 rfl rfl ?_
  refine tSR <| n_box rfl rfl rfl rfl fun b1 => n_box rfl rfl rfl rfl fun b2 => n_box rfl rfl rfl rfl fun b3 => n_alloc rfl rfl rfl rfl fun b4 => rN <| tSR <| ARun.qv (q_load_ptr_all rfl rfl .p2 rfl) rfl <| ARun.qv (q_load_ptr_all rfl rfl .p3 rfl) rfl <| r_callp rfl (Q_minus_c rfl) (CoL.refl _) rfl <| n_alloc rfl rfl rfl rfl fun b5 => n_store_ptr rfl rfl rfl rfl .p0 rfl rfl <| rN <| tS <| ATodo.block <| tS <| ATodo.regionM (id := 2) (A := [0, 0, 3, 0, 15, 31, 63]) 7 mixed rfl (by kernel_rfl) (by kernel_rfl) <| AM.qv (q_load_ptr_all rfl rfl .p2 rfl) rfl <| AM.qv (q_load_ptr_all rfl rfl .p4 rfl) rfl <| AM.callp rfl (Q_minus_c rfl) (CoL.refl _) rfl <| AM.qv (q_load_ptr_all rfl rfl .p0 rfl) rfl <| AM.callp rfl (Q_dot_c rfl) (CoL.refl _) rfl <| AM.qv (q_leq rfl rfl) rfl <| AM.qv (q_assign rfl) rfl <| AM.nil <| rN <| ATodo.cond_d rfl (fun hc => ?_) (fun hc => ?_)
  · refine have h := iteT hc h; tS <| ATodo.regionM (id := 3) (A := [0, 0, 3, 0, 0, 31, 63, 127, 255]) 8 mixed rfl (by kernel_rfl) (by kernel_rfl) <| AM.qv (q_load_ptr_all rfl rfl .p2 rfl) rfl <| AM.qv (q_load_ptr_all rfl rfl .p4 rfl) rfl <| AM.callp rfl (Q_minus_c rfl) (CoL.refl _) rfl <| AM.qv (q_load_ptr_all rfl rfl .p2 rfl) rfl <| AM.qv (q_load_ptr_all rfl rfl .p4 rfl) rfl <| AM.callp rfl (Q_minus_c rfl) (CoL.refl _) rfl <| AM.callp rfl (Q_dot_c rfl) (CoL.refl _) rfl <| AM.qv (n_build rfl rfl rfl rfl rfl) rfl <| AM.nil <| n_store_ptr rfl rfl rfl rfl .p1 rfl rfl <| rN <| ATodo.ret <| ?_
    obtain rfl := Option.some.inj h
    exact ImpX.here ⟨_, .cons (.all _ _ _ _ _ _ rfl .p1 TUnder.h TInfo.h rfl rfl) .nil, rfl⟩
  · refine have h := iteF hc h; tS <| ATodo.regionM (id := 4) (A := [0, 0, 3, 0, 15, 31, 63]) 7 mixed rfl (by kernel_rfl) (by kernel_rfl) <| AM.qv (q_load_ptr_all rfl rfl .p2 rfl) rfl <| AM.qv (q_load_ptr_all rfl rfl .p3 rfl) rfl <| AM.callp rfl (Q_minus_c rfl) (CoL.refl _) rfl <| AM.qv (q_load_ptr_all rfl rfl .p0 rfl) rfl <| AM.callp rfl (Q_dot_c rfl) (CoL.refl _) rfl <| AM.qv (q_geq rfl rfl) rfl <| AM.qv (q_assign rfl) rfl <| AM.nil <| rN <| ATodo.cond_d rfl (fun hc => ?_) (fun hc => ?_)
    · refine have h := iteT hc h; tS <| ATodo.regionM (id := 5) (A := [0, 0, 3, 0, 0, 31, 63, 127, 255]) 8 mixed rfl (by kernel_rfl) (by kernel_rfl) <| AM.qv (q_load_ptr_all rfl rfl .p2 rfl) rfl <| AM.qv (q_load_ptr_all rfl rfl .p3 rfl) rfl <| AM.callp rfl (Q_minus_c rfl) (CoL.refl _) rfl <| AM.qv (q_load_ptr_all rfl rfl .p2 rfl) rfl <| AM.qv (q_load_ptr_all rfl rfl .p3 rfl) rfl <| AM.callp rfl (Q_minus_c rfl) (CoL.refl _) rfl <| AM.callp rfl (Q_dot_c rfl) (CoL.refl _) rfl <| AM.qv (n_build rfl rfl rfl rfl rfl) rfl <| AM.nil <| n_store_ptr rfl rfl rfl rfl .p1 rfl rfl <| rN <| ATodo.ret <| ?_
      obtain rfl := Option.some.inj h
      exact ImpX.here ⟨_, .cons (.all _ _ _ _ _ _ rfl .p1 TUnder.h TInfo.h rfl rfl) .nil, rfl⟩
    · refine have h := iteF hc h; tK <| ATodo.blk <| tS <| ATodo.regionM (id := 6) (A := [0, 0, 0, 6, 15, 31]) 6 mixed rfl (by kernel_rfl) (by kernel_rfl) <| AM.qv (q_load_ptr_all rfl rfl .p0 rfl) rfl <| AM.qv (q_load_ptr_all rfl rfl .p2 rfl) rfl <| AM.qv (q_load_ptr_all rfl rfl .p4 rfl) rfl <| AM.callp rfl (Q_minus_c rfl) (CoL.refl _) rfl <| AM.callp rfl (Q_cross_c rfl) (CoL.refl _) rfl <| AM.qv (q_assign rfl) rfl <| AM.nil <| rN <| tSR <| rM rfl rfl <| rM rfl rfl <| ARun.qv (q_mulw rfl rfl) rfl <| ARun.qv (q_load_ptr_all rfl rfl .p0 rfl) rfl <| ARun.qv (q_load_ptr_all rfl rfl .p0 rfl) rfl <| r_callp rfl (Q_dot_c rfl) (CoL.refl _) rfl <| bndE h fun v6 e1 h => r_callp rfl (Q_Lowest_c e1) (CoL.refl _) rfl <| n_store_ptr rfl rfl rfl rfl .p1 rfl rfl <| rN <| ATodo.ret <| ?_
      obtain rfl := Option.some.inj h
      exact ImpX.here ⟨_, .cons (.all _ _ _ _ _ _ rfl .p1 TUnder.h TInfo.h rfl rfl) .nil, rfl⟩

set_option maxHeartbeats 4000000 in
theorem Q_floor_c {p0x0 : Int} {p1x0 : Int} {r : Int} (h : Q_floor p0x0 p1x0 = some r) : Pu Try.prog 130 [I p0x0, I p1x0] (I r) := by
  unfold Q_floor at h
  refine ACall.bodyN Try.func130 rfl Try.ntmps130 Try.results130 rfl rfl ?_
  refine tSR <| rA rfl rfl <| rN <| tS <| tSR <| rM rfl rfl <| rM rfl rfl <| bndE h fun n1 e1 h => ARun.qv (t_remS rfl rfl e1) rfl <| ARun.qv (q_lss rfl rfl) rfl <| rN <| ATodo.cond_d rfl (fun hc => ?_) (fun hc => ?_)
  · refine have h := iteT hc h; tSR <| rM rfl rfl <| rM rfl rfl <| bndE h fun n2 e2 h => ARun.qv (t_quoS rfl rfl e2) rfl <| ARun.qv (q_subw rfl rfl) rfl <| rA rfl rfl <| rN <| ATodo.ret <| ?_
    obtain rfl := Option.some.inj h
    exact ImpX.here ⟨_, .cons (.tmp _ _ rfl) .nil, rfl⟩
  · refine have h := iteF hc h; tK <| tSR <| rM rfl rfl <| rM rfl rfl <| bndE h fun n3 e3 h => ARun.qv (t_quoS rfl rfl e3) rfl <| rA rfl rfl <| rN <| ATodo.ret <| ?_
    obtain rfl := Option.some.inj h
    exact ImpX.here ⟨_, .cons (.tmp _ _ rfl) .nil, rfl⟩

set_option maxHeartbeats 4000000 in
theorem Q_less_c {p0x0 : Fraction} {p1x0 : Fraction} {r : Bool} (h : Q_less p0x0 p1x0 = some r) : Pu Try.prog 80 [.agg [I p0x0.Num, I p0x0.Den], .agg [I p1x0.Num, I p1x0.Den]] (.bool r) := by
  unfold Q_less at h
  refine ACall.bodyN Try.func80 rfl Try.ntmps80 Try.results80 rfl rfl ?_
  refine tSR <| n_box rfl rfl rfl rfl fun b1 => n_box rfl rfl rfl rfl fun b2 => rA rfl rfl <| rN <| ATodo.block <| ATodo.loopI (fun x : Int × Int × Int × Int => Q_less_b1 x.1 x.2.1 x.2.2.1 x.2.2.2) (fun x σ' => σ' = ⟨59, [(2, .ptr b1 0), (3, .ptr b2 0)], [(b1, .cells [I x.1, I x.2.1]), (b2, .cells [I x.2.2.1, I x.2.2.2])]⟩) h ?_ ?_
  · exact ImpX.lq [1, 0] rfl rfl rfl
  · intro x z1 σ' J1 hmk h hJ1 hA1
    obtain ⟨n7, n8, n9, n10⟩ := x
    obtain rfl := hmk
    replace h : Q_less_b1 n7 n8 n9 n10 = some z1 := h
    unfold Q_less_b1 at h
    refine ATodo.block <| tS <| ATodo.regionM (id := 1) (A := [0, 1, 0, 4, 15, 0, 32, 0, 128, 511, 1023, 2047]) 12 mixed rfl (by kernel_rfl) (by kernel_rfl) <| AM.qv (n_field_ptr rfl rfl) rfl <| AM.qv (q_load_ptr rfl rfl .p0 rfl) rfl <| AM.qv (n_field_ptr rfl rfl) rfl <| AM.qv (q_load_ptr rfl rfl .p0 rfl) rfl <| bndE h fun v11 e1 h => AM.callp rfl (Q_floor_c e1) (CoL.refl _) rfl <| AM.qv (n_field_ptr rfl rfl) rfl <| AM.qv (q_load_ptr rfl rfl .p1 rfl) rfl <| AM.qv (n_field_ptr rfl rfl) rfl <| AM.qv (q_load_ptr rfl rfl .p1 rfl) rfl <| bndE h fun v12 e2 h => AM.callp rfl (Q_floor_c e2) (CoL.refl _) rfl <| AM.qv (q_assign rfl) rfl <| AM.qv (q_assign rfl) rfl <| AM.nil <| rN <| tS <| tSR <| rM rfl rfl <| rM rfl rfl <| ARun.qv (q_neq rfl rfl) rfl <| rN <| ATodo.cond_d rfl (fun hc => ?_) (fun hc => ?_)
    · refine have h := iteT hc h; tSR <| rM rfl rfl <| rM rfl rfl <| ARun.qv (q_lss rfl rfl) rfl <| rA rfl rfl <| rN <| ATodo.ret <| have h := outL h hA1; ?_
      obtain rfl := Option.some.inj h
      exact ImpX.here ⟨_, .cons (.tmp _ _ rfl) .nil, rfl⟩
    · refine have h := iteF hc h; tK <| tS <| ATodo.regionM (id := 4) (A := [0, 1, 0, 0, 8, 28, 63, 0, 128, 0, 0, 1024, 3584, 8064, 127, 32767]) 16 mixed rfl (by kernel_rfl) (by kernel_rfl) <| AM.qv (n_field_ptr rfl rfl) rfl <| AM.qv (q_load_ptr rfl rfl .p0 rfl) rfl <| AM.qv (q_move rfl) rfl <| AM.qv (n_field_ptr rfl rfl) rfl <| AM.qv (q_load_ptr rfl rfl .p0 rfl) rfl <| AM.qv (q_mulw rfl rfl) rfl <| AM.qv (q_subw rfl rfl) rfl <| AM.qv (n_field_ptr rfl rfl) rfl <| AM.qv (q_load_ptr rfl rfl .p1 rfl) rfl <| AM.qv (q_move rfl) rfl <| AM.qv (n_field_ptr rfl rfl) rfl <| AM.qv (q_load_ptr rfl rfl .p1 rfl) rfl <| AM.qv (q_mulw rfl rfl) rfl <| AM.qv (q_subw rfl rfl) rfl <| AM.qv (q_assign rfl) rfl <| AM.qv (q_assign rfl) rfl <| AM.nil <| rN <| tS <| tS <| ATodo.cut (fun σ' => ∃ (c13 : Bool), Q_less_j1 n7 n8 n9 n10 v11 v12 c13 = some z1 ∧ σ' = ⟨59, [(2, .ptr b1 0), (3, .ptr b2 0), (7, I (w64 (n7 - (w64 (v11 * n8))))), (8, I (w64 (n9 - (w64 (v12 * n10))))), (44, .bool c13)], [(b1, .cells [I n7, I n8]), (b2, .cells [I n9, I n10])]⟩) ?_ ?_
      · refine tR <| rM rfl rfl <| ARun.qv (q_eql rfl rfl) rfl <| rM rfl rfl <| ARun.guard_df rfl rfl rfl (fun hc => ?_) (fun hc => ?_)
        · rw [orFd hc] at h
          exact rM rfl rfl <| rY rfl rfl rfl <| ARun.qv (q_eql rfl rfl) rfl <| rE rfl rfl rfl <| rN <| ATodo.stop <| ImpX.lq [0, 0] ⟨decide ((w64 (n9 - (w64 (v12 * n10)))) = (0 : Int)), h, rfl⟩ rfl rfl
        · rw [orTd hc] at h
          exact rG rfl rfl rfl rfl <| rT rfl rfl rfl <| rN <| ATodo.stop <| ImpX.lq [0, 0] ⟨true, h, rfl⟩ rfl rfl
      · rintro σ' ⟨c13, h, rfl⟩
        unfold Q_less_j1 at h
        refine ATodo.cond rfl (fun hc => ?_) (fun hc => ?_)
        · refine have h := iteT hc h; tS <| ATodo.cut (fun σ' => ∃ (c14 : Bool), Q_less_j2 c14 = some z1 ∧ σ' = ⟨59, [(4, .bool c14)], []⟩) ?_ ?_
          · refine tR <| rM rfl rfl <| ARun.qv (q_eql rfl rfl) rfl <| rM rfl rfl <| ARun.guard_dt rfl rfl rfl (fun hc => ?_) (fun hc => ?_)
            · rw [andTd hc] at h
              exact rM rfl rfl <| rY rfl rfl rfl <| ARun.qv (q_neq rfl rfl) rfl <| rT rfl rfl rfl <| rA rfl rfl <| rN <| ATodo.stop <| ImpX.lq [] ⟨decide ((w64 (n9 - (w64 (v12 * n10)))) ≠ (0 : Int)), h, rfl⟩ rfl rfl
            · rw [andFd hc] at h
              exact rG rfl rfl rfl rfl <| rE rfl rfl rfl <| rA rfl rfl <| rN <| ATodo.stop <| ImpX.lq [] ⟨false, h, rfl⟩ rfl rfl
          · rintro σ' ⟨c14, h, rfl⟩
            unfold Q_less_j2 at h
            refine ATodo.ret <| have h := outL h hA1; ?_
            obtain rfl := Option.some.inj h
            exact ImpX.here ⟨_, .cons (.tmp _ _ rfl) .nil, rfl⟩
        · refine have h := iteFb hc h; tK <| tR <| rF rfl rfl rfl <| rL rfl rfl .p1 rfl rfl <| rM rfl rfl <| ARun.qv (n_build rfl rfl rfl rfl rfl) rfl <| rF rfl rfl rfl <| rL rfl rfl .p0 rfl rfl <| rM rfl rfl <| ARun.qv (n_build rfl rfl rfl rfl rfl) rfl <| n_store_ptr rfl rfl rfl rfl .p0 rfl rfl <| n_store_ptr rfl rfl rfl rfl .p1 rfl rfl <| rN <| ATodo.blk <| ATodo.stop <| ?_
          obtain rfl := Option.some.inj h
          exact hJ1 _ _ rfl <| ImpX.lq [0, 0] rfl rfl rfl

set_option maxHeartbeats 4000000 in
theorem slices_Sort_int_int_k : Sort1 Try.prog 81 (Value.int .i64) srtI := ⟨fun blk off cap zs w hH hb hs => Try.slices_Sort_int blk off cap zs w hH hb hs, fun p cap w => Try.slices_Sort_int_none p cap w⟩
theorem slices_Sort_int_int_c {b_0 : Bk} {p0x0 : List Int} {r : (List Int)} (h : slices_Sort_int_int p0x0 = some r) : ACall Try.prog 81 [.sl 1 b_0 0 p0x0.length] [(b_0, .arr 1 (p0x0.map I))] (T0 [(b_0, .arr 1 (r.map I))] (.tup [])) :=
  sortI_acall slices_Sort_int_int_k h

set_option maxHeartbeats 4000000 in
theorem Q_PlainOf_c {p0x0 : List Fix} {p1x0 : Int} {r : (List Int)} (h : Q_PlainOf p0x0 p1x0 = some r) : ACall Try.prog 30 [.list 5 (p0x0.map Fix.av), I p1x0] [] (T1 (fun d_0 => [(d_0, .arr 1 (r.map I))]) (fun d_0 => .sl 1 d_0 0 r.length)) := by
  unfold Q_PlainOf at h
  refine ACall.lessH ?_
  refine ACall.bodyN Try.func30 rfl Try.ntmps30 Try.results30 rfl rfl ?_
  refine tSR <| rA rfl rfl <| rN <| tS <| tSR <| rM rfl rfl <| ARun.qv (t_len rfl) rfl <| ARun.qv (q_lss rfl rfl) rfl <| rN <| ATodo.cond_d rfl (fun hc => ?_) (fun hc => ?_)
  · refine have h := iteT hc h; tSR <| rA rfl rfl <| rN <| tS <| tSR <| rM rfl rfl <| ARun.qv (t_len rfl) rfl <| rM rfl rfl <| rN <| ATodo.block <| ATodo.loopI (fun x : (List Int) × Int => Q_PlainOf_b1 p0x0 x.1 x.2) (fun x σ' => ∃ (b4 : Bk), σ' = ⟨93, [(5, .sl 1 b4 0 x.1.length), (19, I (p0x0.length : Int)), (20, I x.2)], [(b4, .arr 1 (x.1.map I))]⟩) h ?_ ?_
    · exact ImpX.arr (s := 5) 1 rfl fun b7 => ImpX.lq [0] ⟨b7, rfl⟩ rfl rfl
    · intro x z1 σ' J1 hmk h hJ1 hA1
      obtain ⟨l5, n6⟩ := x
      obtain ⟨b4, rfl⟩ := hmk
      replace h : Q_PlainOf_b1 p0x0 l5 n6 = some z1 := h
      unfold Q_PlainOf_b1 at h
      refine tSR <| ARun.qv (q_lss rfl rfl) rfl <| rN <| tS <| ATodo.cond_d rfl (fun hc => ?_) (fun hc => ?_)
      · refine have h := iteT hc h; tK <| tS <| ATodo.block <| tSR <| rM rfl rfl <| rA rfl rfl <| rN <| tR <| rM rfl rfl <| rM rfl rfl <| n_buildSliceL (xs := ([n6] : List Int).map I) rfl rfl rfl rfl rfl rfl <| bndE h fun l8 e1 h => t_append (g := I) rfl rfl rfl rfl rfl rfl rfl rfl (.list _) e1 (fun _ => .p0) rfl fun b9 => rA rfl rfl <| rN <| ATodo.blk <| tR <| ARun.qv (q_addw rfl rfl) rfl <| rM rfl rfl <| rN <| ATodo.stop <| ?_
        obtain rfl := Option.some.inj h
        exact hJ1 _ _ rfl <| ImpX.lq [0] ⟨b9, rfl⟩ rfl rfl
      · refine have h := iteF hc h; ATodo.exit rfl <| have h := outL h hA1; tSR <| rM rfl rfl <| rA rfl rfl <| rN <| ATodo.ret <| ?_
        obtain rfl := Option.some.inj h
        exact ImpX.here ⟨_, .cons (.tmp _ _ rfl) .nil, _, .cons .p0 .nil, ⟨b4, rfl, rfl⟩⟩
  · refine have h := iteF hc h; tK <| tSR <| rM rfl rfl <| ARun.qv (t_len rfl) rfl <| ARun.qv (q_subw rfl rfl) rfl <| n_buildSlice rfl rfl rfl rfl rfl rfl fun b10 => rA rfl rfl <| rN <| ATodo.block <| ATodo.loopI (fun x : (List Int) => Q_PlainOf_b2 p0x0 p1x0 x) (fun x σ' => ∃ (b13 : Bk), σ' = ⟨93, [(0, .list 5 (p0x0.map Fix.av)), (1, I p1x0), (7, .sl 1 b13 0 x.length)], [(b13, .arr 1 (x.map I))]⟩) h ?_ ?_
    · exact ImpX.lq [0] ⟨b10, rfl⟩ rfl rfl
    · intro l14 z2 σ' J2 hmk h hJ2 hA2
      obtain ⟨b13, rfl⟩ := hmk
      replace h : Q_PlainOf_b2 p0x0 p1x0 l14 = some z2 := h
      unfold Q_PlainOf_b2 at h
      refine ATodo.block <| tSR <| rA rfl rfl <| rN <| tS <| tSR <| rA rfl rfl <| rN <| ATodo.block <| ATodo.loopI (fun x : Int × Int => Q_PlainOf_b3 p0x0 p1x0 l14 x.1 x.2) (fun x σ' => σ' = ⟨93, [(0, .list 5 (p0x0.map Fix.av)), (1, I p1x0), (7, .sl 1 b13 0 l14.length), (8, I x.1), (9, I x.2)], [(b13, .arr 1 (l14.map I))]⟩) h ?_ ?_
      · exact ImpX.lq [0] rfl rfl rfl
      · intro x z3 σ' J3 hmk h hJ3 hA3
        obtain ⟨n17, n18⟩ := x
        obtain rfl := hmk
        replace h : Q_PlainOf_b3 p0x0 p1x0 l14 n17 n18 = some z3 := h
        unfold Q_PlainOf_b3 at h
        refine tS <| tS <| ATodo.cut (fun σ' => ∃ (c19 : Bool), Q_PlainOf_j1 p0x0 p1x0 l14 n17 n18 c19 = some z3 ∧ σ' = ⟨93, [(0, .list 5 (p0x0.map Fix.av)), (1, I p1x0), (7, .sl 1 b13 0 l14.length), (8, I n17), (9, I n18), (40, .bool c19)], [(b13, .arr 1 (l14.map I))]⟩) ?_ ?_
        · refine tR <| rM rfl rfl <| rM rfl rfl <| ARun.qv (t_len_sl rfl) rfl <| ARun.qv (q_lss rfl rfl) rfl <| rM rfl rfl <| ARun.guard_dt rfl rfl rfl (fun hc => ?_) (fun hc => ?_)
          · rw [andTd hc] at h
            exact rM rfl rfl <| rY rfl rfl rfl <| ARun.qv (q_lss rfl rfl) rfl <| rT rfl rfl rfl <| rN <| ATodo.stop <| ImpX.lq [0] ⟨decide (n17 < (0 : Int)), h, rfl⟩ rfl rfl
          · rw [andFd hc] at h
            exact rG rfl rfl rfl rfl <| rE rfl rfl rfl <| rN <| ATodo.stop <| ImpX.lq [0] ⟨false, h, rfl⟩ rfl rfl
        · rintro σ' ⟨c19, h, rfl⟩
          unfold Q_PlainOf_j1 at h
          refine ATodo.cond rfl (fun hc => ?_) (fun hc => ?_)
          · refine have h := iteT hc h; tK <| tS <| ATodo.block <| tS <| ATodo.regionM (id := 14) (A := [0, 0, 2, 7, 15, 0, 0, 96, 224, 31, 1023]) 11 mixed rfl (by kernel_rfl) (by kernel_rfl) <| AM.qv (q_move rfl) rfl <| AM.qv (q_move rfl) rfl <| AM.qv (q_subw rfl rfl) rfl <| bndE h fun v20 e2 h => AM.qv (t_index_sl rfl rfl rfl e2) rfl <| AM.qv (t_load_aptr (g := I) rfl rfl (.inl .p0) e2 rfl) rfl <| AM.qv (q_move rfl) rfl <| AM.qv (q_move rfl) rfl <| bndE h fun v21 e3 h => AM.qv (t_index_sl rfl rfl rfl e3) rfl <| AM.qv (t_load_aptr (g := I) rfl rfl (.inl .p0) e3 rfl) rfl <| AM.qv (q_assign rfl) rfl <| AM.qv (q_assign rfl) rfl <| AM.nil <| rN <| tSR <| rM rfl rfl <| rM rfl rfl <| ARun.qv (q_mulw rfl rfl) rfl <| ARun.qv (n_build rfl rfl rfl rfl rfl) rfl <| n_alloc rfl rfl rfl rfl fun b22 => n_store_ptr rfl rfl rfl rfl .p0 rfl rfl <| rN <| tSR <| rM rfl rfl <| ARun.qv (q_addw rfl rfl) rfl <| rA rfl rfl <| rN <| ATodo.block <| ATodo.loopI (fun x : Int × Int × Int × Int => Q_PlainOf_b4 p0x0 n18 v20 v21 x.1 x.2.1 x.2.2.1 x.2.2.2) (fun x σ' => σ' = ⟨93, [(0, .list 5 (p0x0.map Fix.av)), (1, I p1x0), (7, .sl 1 b13 0 l14.length), (8, I x.1), (9, I n18), (10, I v20), (11, I v21), (12, .ptr b22 0), (13, I x.2.2.2)], [(b13, .arr 1 (l14.map I)), (b22, .cells [I x.2.1, I x.2.2.1])]⟩) h ?_ ?_
            · exact ImpX.lq [1, 0] rfl rfl rfl
            · intro x z4 σ' J4 hmk h hJ4 hA4
              obtain ⟨n27, n28, n29, n30⟩ := x
              obtain rfl := hmk
              replace h : Q_PlainOf_b4 p0x0 n18 v20 v21 n27 n28 n29 n30 = some z4 := h
              unfold Q_PlainOf_b4 at h
              refine tS <| tSR <| rM rfl rfl <| rM rfl rfl <| ARun.qv (q_lss rfl rfl) rfl <| rN <| ATodo.cond_d rfl (fun hc => ?_) (fun hc => ?_)
              · refine have h := iteT hc h; tK <| tS <| ATodo.block <| tS <| bndE h fun v31 e4 h => bndE h fun v32 e5 h => bndE h fun v33 e6 h => bndE h fun v34 e7 h => ATodo.regionT (id := 19) (A := [0, 0, 3, 7, 15, 0, 0, 96, 224, 511, 0, 0, 3072, 7168, 16383, 32767, 0, 131071]) (H0 := []) (HH := fun β => [((β 16), .cells [I (0 : Int), I (0 : Int)]), (b13, .arr 1 (l14.map I)), (b22, .cells [I n28, I n29])]) 17 mixed rfl (by kernel_rfl) (by kernel_rfl) [⟨some 16, none, [], fun b => (b, .cells [I (0 : Int), I (0 : Int)]), none⟩] [16] rfl (by kernel_rfl) rfl .nil (fun _ => rfl) <| AT.am 16 rfl rfl <| AM.qv (q_move rfl) rfl <| AM.qv (q_move rfl) rfl <| AM.qv (t_index rfl rfl rfl e4 rfl rfl) rfl <| AM.qv (q_load_rptr_agg rfl rfl rfl) rfl <| AM.callp rfl (Q_spotOf_c rfl) (CoL.refl _) rfl <| AM.qv (q_move rfl) rfl <| AM.qv (q_move rfl) rfl <| AM.qv (t_index rfl rfl rfl e5 rfl rfl) rfl <| AM.qv (q_load_rptr_agg rfl rfl rfl) rfl <| AM.callp rfl (Q_spotOf_c rfl) (CoL.refl _) rfl <| AM.qv (q_move rfl) rfl <| AM.qv (q_move rfl) rfl <| AM.qv (t_index rfl rfl rfl e6 rfl rfl) rfl <| AM.qv (q_load_rptr_agg rfl rfl rfl) rfl <| AM.callp rfl (Q_spotOf_c rfl) (CoL.refl _) rfl <| AM.callp rfl (Q_farWay_c e7) (CoL.refl _) rfl <| AM.nil <| AT.runD (V := fun b => .ptr b 0) (Ti := []) (Pi := fun b => [(b, .cells [I (0 : Int), I (0 : Int)])]) (fun _ => rfl) (fun _ => rfl) (fun _ _ => rfl) rfl (fun _ => rfl) rfl rfl rfl ?_ ?_
                · exact n_alloc rfl rfl rfl rfl fun b35 => ARun.nil ⟨b35, _, rfl, rfl⟩
                refine AT.nilN (fun _ => rfl) fun β => ?_
                generalize β 16 = b35
                clear β
                refine n_store_ptr rfl rfl rfl rfl .p0 rfl rfl <| rN <| tSR <| ARun.qv (q_load_ptr_all rfl rfl .p2 rfl) rfl <| ARun.qv (q_load_ptr_all rfl rfl .p0 rfl) rfl <| bndE h fun v36 e8 h => r_callp rfl (Q_less_c e8) (CoL.refl _) rfl <| rN <| ATodo.cut (fun σ' => ∃ (n37 : Int) (n38 : Int) (n39 : Int), Q_PlainOf_j2 n30 n37 n38 n39 = some z4 ∧ σ' = ⟨93, [(0, .list 5 (p0x0.map Fix.av)), (1, I p1x0), (7, .sl 1 b13 0 l14.length), (8, I n37), (9, I n18), (10, I v20), (11, I v21), (12, .ptr b22 0), (13, I n30)], [(b13, .arr 1 (l14.map I)), (b22, .cells [I n38, I n39])]⟩) ?_ ?_
                · refine ATodo.cond rfl (fun hc => ?_) (fun hc => ?_)
                  · exact have h := iteT hc h; tR <| ARun.qv (q_load_ptr_all rfl rfl .p0 rfl) rfl <| rM rfl rfl <| n_store_ptr rfl rfl rfl rfl .p2 rfl rfl <| rA rfl rfl <| rN <| ATodo.stop <| ImpX.lq [1, 1] ⟨n30, v34.Num, v34.Den, h, rfl⟩ rfl rfl
                  · exact have h := iteFb hc h; tK <| ATodo.stop <| ImpX.lq [1, 1] ⟨n27, n28, n29, h, rfl⟩ rfl rfl
                · rintro σ' ⟨n37, n38, n39, h, rfl⟩
                  unfold Q_PlainOf_j2 at h
                  refine ATodo.blk <| tR <| rM rfl rfl <| ARun.qv (q_addw rfl rfl) rfl <| rA rfl rfl <| rN <| ATodo.stop <| ?_
                  obtain rfl := Option.some.inj h
                  exact hJ4 _ _ rfl <| ImpX.lq [0, 0] rfl rfl rfl
              · refine have h := iteF hc h; ATodo.exit rfl <| have h := outL h hA4; ATodo.blk <| tR <| rM rfl rfl <| ARun.qv (q_addw rfl rfl) rfl <| rA rfl rfl <| rN <| ATodo.stop <| ?_
                obtain rfl := Option.some.inj h
                exact hJ3 _ _ rfl <| ImpX.lq [0] rfl rfl rfl
          · refine have h := iteFb hc h; ATodo.exit rfl <| have h := outL h hA3; ?_
            unfold Q_PlainOf_k3 at h
            refine tS <| tSR <| rM rfl rfl <| ARun.qv (q_lss rfl rfl) rfl <| rN <| ATodo.cond_d rfl (fun hc => ?_) (fun hc => ?_)
            · refine have h := iteT hc h; tSR <| rM rfl rfl <| rA rfl rfl <| rN <| ATodo.ret <| have h := outL h hA2; ?_
              obtain rfl := Option.some.inj h
              exact ImpX.here ⟨_, .cons (.tmp _ _ rfl) .nil, _, .cons .p0 .nil, ⟨b13, rfl, rfl⟩⟩
            · refine have h := iteF hc h; tK <| tSR <| rM rfl rfl <| rM rfl rfl <| n_buildSliceL (xs := ([n17] : List Int).map I) rfl rfl rfl rfl rfl rfl <| bndE h fun l40 e9 h => t_append (g := I) rfl rfl rfl rfl rfl rfl rfl rfl (.list _) e9 (fun _ => .p0) rfl fun b41 => rA rfl rfl <| rN <| tR <| rM rfl rfl <| bndE h fun v42 e10 h => t_call0 rfl (slices_Sort_int_int_c (lenOk_f e10)) (CoL.refl _) (.cons .p0 .nil) rfl rfl <| ARun.ghost <| ImpX.eqs (s := 7) (av' := .sl 1 b41 0 v42.length) rfl (congrArg (AV.sl 1 b41 0) (lenOk_l e10)) <| ImpX.here <| ARun.ghost <| ImpX.eqs (s := 90) (av' := .sl 1 b41 0 v42.length) rfl (congrArg (AV.sl 1 b41 0) (lenOk_l e10)) <| ImpX.here <| ARun.ghost <| ImpX.eqs (s := 91) (av' := .sl 1 b41 0 v42.length) rfl (congrArg (AV.sl 1 b41 0) (lenOk_l e10)) <| ImpX.here <| rN <| ATodo.blk <| ATodo.stop <| ?_
              obtain rfl := Option.some.inj h
              exact hJ2 _ _ rfl <| ImpX.lq [0] ⟨b41, rfl⟩ rfl rfl

set_option maxHeartbeats 4000000 in
theorem slices_Equal_int_int_c {p0x0 : List Int} {p1x0 : List Int} {r : Bool} (h : slices_Equal_int_int p0x0 p1x0 = some r) : Pu Try.prog 31 [.list 1 (p0x0.map I), .list 1 (p1x0.map I)] (.bool r) := by
  unfold slices_Equal_int_int at h
  refine ACall.bodyN Try.func31 rfl Try.ntmps31 Try.results31 rfl rfl ?_
  refine tSR <| rA rfl rfl <| rN <| tS <| tSR <| rM rfl rfl <| ARun.qv (t_len rfl) rfl <| rM rfl rfl <| ARun.qv (t_len rfl) rfl <| ARun.qv (q_neq rfl rfl) rfl <| rN <| ATodo.cond_d rfl (fun hc => ?_) (fun hc => ?_)
  · refine have h := iteT hc h; tSR <| rA rfl rfl <| rN <| ATodo.ret <| ?_
    obtain rfl := Option.some.inj h
    exact ImpX.here ⟨_, .cons (.tmp _ _ rfl) .nil, rfl⟩
  · refine have h := iteF hc h; tK <| tS <| tSR <| rM rfl rfl <| ARun.qv (t_len rfl) rfl <| rM rfl rfl <| rN <| ATodo.block <| ATodo.loopI (fun x : Int => slices_Equal_int_int_b1 p0x0 p1x0 x) (fun x σ' => σ' = ⟨26, [(0, .list 1 (p0x0.map I)), (1, .list 1 (p1x0.map I)), (12, I (p0x0.length : Int)), (13, I x)], []⟩) h ?_ ?_
    · exact ImpX.lq [] rfl rfl rfl
    · intro n2 z1 σ' J1 hmk h hJ1 hA1
      obtain rfl := hmk
      replace h : slices_Equal_int_int_b1 p0x0 p1x0 n2 = some z1 := h
      unfold slices_Equal_int_int_b1 at h
      refine tSR <| ARun.qv (q_lss rfl rfl) rfl <| rN <| tS <| ATodo.cond_d rfl (fun hc => ?_) (fun hc => ?_)
      · refine have h := iteT hc h; tK <| tS <| ATodo.block <| tSR <| rM rfl rfl <| rA rfl rfl <| rN <| tS <| ATodo.regionM (id := 6) (A := [0, 0, 3, 7, 0, 0, 48, 112, 255]) 9 mixed rfl (by kernel_rfl) (by kernel_rfl) <| AM.qv (q_move rfl) rfl <| AM.qv (q_move rfl) rfl <| bndE h fun v3 e1 h => AM.qv (t_index rfl rfl rfl e1 rfl rfl) rfl <| AM.qv (q_load_rptr rfl rfl rfl) rfl <| AM.qv (q_move rfl) rfl <| AM.qv (q_move rfl) rfl <| bndE h fun v4 e2 h => AM.qv (t_index rfl rfl rfl e2 rfl rfl) rfl <| AM.qv (q_load_rptr rfl rfl rfl) rfl <| AM.qv (q_neq rfl rfl) rfl <| AM.nil <| rN <| ATodo.cond_d rfl (fun hc => ?_) (fun hc => ?_)
        · refine have h := iteT hc h; tSR <| rA rfl rfl <| rN <| ATodo.ret <| have h := outL h hA1; ?_
          obtain rfl := Option.some.inj h
          exact ImpX.here ⟨_, .cons (.tmp _ _ rfl) .nil, rfl⟩
        · refine have h := iteF hc h; tK <| ATodo.blk <| tR <| ARun.qv (q_addw rfl rfl) rfl <| rM rfl rfl <| rN <| ATodo.stop <| ?_
          obtain rfl := Option.some.inj h
          exact hJ1 _ _ rfl <| ImpX.lq [] rfl rfl rfl
      · refine have h := iteF hc h; ATodo.exit rfl <| have h := outL h hA1; tSR <| rA rfl rfl <| rN <| ATodo.ret <| ?_
        obtain rfl := Option.some.inj h
        exact ImpX.here ⟨_, .cons (.tmp _ _ rfl) .nil, rfl⟩

set_option maxHeartbeats 4000000 in
theorem place_Cell_c {p0x0 : Spot} {p1x0 : Int} {r : Str × Int} (h : place_Cell p0x0 p1x0 = some r) : Pu Try.prog 82 [.agg [I p0x0.X, I p0x0.Y], I p1x0] (.tup [.str r.1, I r.2]) := by
  unfold place_Cell at h
  refine ACall.bodyN Try.func82 rfl Try.ntmps82 Try.results82 rfl rfl ?_
  refine tSR <| n_box rfl rfl rfl rfl fun b1 => rA rfl rfl <| rA rfl rfl <| rN <| tS <| tS <| ATodo.cut (fun σ' => ∃ (c2 : Bool), place_Cell_j1 p0x0 p1x0 c2 = some r ∧ σ' = ⟨47, [(1, I p1x0), (2, .ptr b1 0), (16, .bool c2)], [(b1, .cells [I p0x0.X, I p0x0.Y])]⟩) ?_ ?_
  · refine tR <| ARun.qv (q_load_ptr_all rfl rfl .p0 rfl) rfl <| r_callp rfl (place_isSpot_c rfl) (CoL.refl _) rfl <| ARun.qv (q_not rfl) rfl <| rM rfl rfl <| ARun.guard rfl rfl rfl (fun hc => ?_) (fun hc => ?_)
    · rw [orFb hc] at h
      exact rM rfl rfl <| rY rfl rfl rfl <| r_callp rfl (base_Out_c rfl) (CoL.refl _) rfl <| rE rfl rfl rfl <| rN <| ATodo.stop <| ImpX.lq [0] ⟨(base_Out p1x0 (0 : Int) (15 : Int)), h, rfl⟩ rfl rfl
    · rw [orTb hc] at h
      exact rG rfl rfl rfl rfl <| rT rfl rfl rfl <| rN <| ATodo.stop <| ImpX.lq [0] ⟨true, h, rfl⟩ rfl rfl
  · rintro σ' ⟨c2, h, rfl⟩
    unfold place_Cell_j1 at h
    refine ATodo.cond rfl (fun hc => ?_) (fun hc => ?_)
    · refine have h := iteT hc h; tSR <| rA rfl rfl <| rA rfl rfl <| rN <| ATodo.ret <| ?_
      obtain rfl := Option.some.inj h
      exact ImpX.here ⟨_, .cons (.tmp _ _ rfl) (.cons (.tmp _ _ rfl) .nil), rfl⟩
    · refine have h := iteFb hc h; tK <| tSR <| rA rfl rfl <| rN <| tS <| ATodo.regionM (id := 4) (A := [0, 1, 3, 0, 8, 24, 7, 127, 255]) 9 mixed rfl (by kernel_rfl) (by kernel_rfl) <| AM.qv (n_field_ptr rfl rfl) rfl <| AM.qv (q_load_ptr rfl rfl .p0 rfl) rfl <| AM.qv (q_subw rfl rfl) rfl <| AM.qv (n_field_ptr rfl rfl) rfl <| AM.qv (q_load_ptr rfl rfl .p0 rfl) rfl <| AM.qv (q_subw rfl rfl) rfl <| AM.qv (q_assign rfl) rfl <| AM.qv (q_assign rfl) rfl <| AM.qv (q_assign rfl) rfl <| AM.nil <| rN <| tS <| tSR <| rM rfl rfl <| rM rfl rfl <| rN <| ATodo.block <| ATodo.loopI (fun x : (List Int) × Int × Int => place_Cell_b1 p0x0 p1x0 x.1 x.2.1 x.2.2) (fun x σ' => ∃ (b7 : Bk), σ' = ⟨47, [(6, .sl 1 b7 0 x.1.length), (7, I (w64 (p0x0.X - (-16384 : Int)))), (8, I (w64 (p0x0.Y - (-16384 : Int)))), (9, I x.2.1), (23, I p1x0), (24, I x.2.2)], [(b7, .arr 1 (x.1.map (AV.int .u8)))]⟩) h ?_ ?_
      · exact ImpX.arr (s := 6) 1 rfl fun b11 => ImpX.lq [0] ⟨b11, rfl⟩ rfl rfl
      · intro x z1 σ' J1 hmk h hJ1 hA1
        obtain ⟨l8, n9, n10⟩ := x
        obtain ⟨b7, rfl⟩ := hmk
        replace h : place_Cell_b1 p0x0 p1x0 l8 n9 n10 = some z1 := h
        unfold place_Cell_b1 at h
        refine tSR <| ARun.qv (q_lss rfl rfl) rfl <| rN <| tS <| ATodo.cond_d rfl (fun hc => ?_) (fun hc => ?_)
        · refine have h := iteT hc h; tK <| tS <| ATodo.block <| tSR <| rM rfl rfl <| ARun.qv (t_quo rfl rfl (by decide)) rfl <| rA rfl rfl <| rN <| ATodo.regionM (id := 8) (A := [0, 0, 0, 6, 14, 30, 62, 0, 0, 384, 896, 1920, 3968, 8190, 16382, 32767, 65535]) 15 mixed rfl (by kernel_rfl) (by kernel_rfl) <| AM.qv (q_move rfl) rfl <| AM.qv (q_move rfl) rfl <| AM.qv (q_move rfl) rfl <| bndE h fun n12 e1 h => AM.qv (t_quoS rfl rfl e1) rfl <| AM.qv (q_rem rfl rfl (by decide)) rfl <| AM.qv (q_conv_int rfl) rfl <| AM.qv (q_addw rfl rfl) rfl <| AM.qv (q_move rfl) rfl <| AM.qv (q_move rfl) rfl <| bndE h fun n13 e2 h => AM.qv (t_quoS rfl rfl e2) rfl <| AM.qv (q_rem rfl rfl (by decide)) rfl <| AM.qv (q_conv_int rfl) rfl <| AM.qv (q_mulw rfl rfl) rfl <| AM.qv (q_addw rfl rfl) rfl <| AM.buildSliceL (xs := ([IntKind.u8.wrap ((IntKind.u8.wrap ((48 : Int) + (IntKind.u8.wrap (n12.tmod (2 : Int))))) + (IntKind.u8.wrap ((2 : Int) * (IntKind.u8.wrap (n13.tmod (2 : Int))))))]).map (AV.int .u8)) rfl rfl rfl rfl rfl rfl <| AM.nil <| bndE h fun l14 e3 h => t_append (g := (AV.int .u8)) rfl rfl rfl rfl rfl rfl rfl rfl (.list _) e3 (fun _ => .p0) rfl fun b15 => rA rfl rfl <| rN <| ATodo.blk <| tR <| ARun.qv (q_addw rfl rfl) rfl <| rM rfl rfl <| rN <| ATodo.stop <| ?_
          obtain rfl := Option.some.inj h
          exact hJ1 _ _ rfl <| ImpX.lq [0] ⟨b15, rfl⟩ rfl rfl
        · refine have h := iteF hc h; ATodo.exit rfl <| have h := outL h hA1; tSR <| rM rfl rfl <| ARun.qv (q_conv_bs rfl (CoB.arrT .p0)) rfl <| rA rfl rfl <| rA rfl rfl <| rN <| ATodo.ret <| ?_
          obtain rfl := Option.some.inj h
          exact ImpX.here ⟨_, .cons (.tmp _ _ rfl) (.cons (.tmp _ _ rfl) .nil), rfl⟩

set_option maxHeartbeats 4000000 in
theorem L_placed_c {r : Bool} (h : L_placed = some r) : Pu Try.prog 32 [] (.bool r) := by
  unfold L_placed at h
  refine ACall.bodyN Try.func32 rfl Try.ntmps32 Try.results32 rfl rfl ?_
  refine tSR <| rA rfl rfl <| rN <| tSR <| ARun.qv (n_build rfl rfl rfl rfl rfl) rfl <| bndE h fun v1 e1 h => r_callp rfl (place_Cell_c e1) (CoL.refl _) rfl <| rM rfl rfl <| rX rfl rfl rfl <| rX rfl rfl rfl <| rA rfl rfl <| rA rfl rfl <| rN <| tS <| ATodo.cut (fun σ' => ∃ (c2 : Bool), L_placed_j1 c2 = some r ∧ σ' = ⟨14, [(0, .bool c2)], []⟩) ?_ ?_
  · refine tR <| rM rfl rfl <| ARun.qv (q_eql rfl rfl) rfl <| rM rfl rfl <| ARun.guard_dt rfl rfl rfl (fun hc => ?_) (fun hc => ?_)
    · rw [andTd hc] at h
      exact rM rfl rfl <| rY rfl rfl rfl <| ARun.qv (q_seq rfl rfl) rfl <| rT rfl rfl rfl <| rA rfl rfl <| rN <| ATodo.stop <| ImpX.lq [] ⟨decide (v1.1 = ([51] : Str)), h, rfl⟩ rfl rfl
    · rw [andFd hc] at h
      exact rG rfl rfl rfl rfl <| rE rfl rfl rfl <| rA rfl rfl <| rN <| ATodo.stop <| ImpX.lq [] ⟨false, h, rfl⟩ rfl rfl
  · rintro σ' ⟨c2, h, rfl⟩
    unfold L_placed_j1 at h
    refine ATodo.ret <| ?_
    obtain rfl := Option.some.inj h
    exact ImpX.here ⟨_, .cons (.tmp _ _ rfl) .nil, rfl⟩

set_option maxHeartbeats 4000000 in
theorem L_TracksPlain_c {p0x0 : List Int} {r : Bool} (h : L_TracksPlain p0x0 = some r) : Pu Try.prog 4 [.list 1 (p0x0.map I)] (.bool r) := by
  unfold L_TracksPlain at h
  refine ACall.bodyN Try.func4 rfl Try.ntmps4 Try.results4 rfl rfl ?_
  refine tSR <| rA rfl rfl <| rN <| tSR <| rM rfl rfl <| ARun.qv (n_build rfl rfl rfl rfl rfl) rfl <| n_box rfl rfl rfl rfl fun b1 => rA rfl rfl <| rN <| tSR <| rM rfl rfl <| bndE h fun v2 e1 h => t_call1 rfl (Stream_Track_c e1) (CoL.refl _) (.cons .p0 .nil) (fun _ => rfl) rfl fun b3 => rM rfl rfl <| n_buildSliceL (xs := ([(1 : Int), (2 : Int), (5 : Int), (10000 : Int), (0 : Int), (10001 : Int)]).map I) rfl rfl rfl rfl rfl rfl <| bndE h fun v4 e2 h => t_call0 rfl (Stream_Pick_c e2) (CoL.refl _) (.cons .p0 .nil) rfl rfl <| rM rfl rfl <| n_buildSliceL (xs := ([(0 : Int), (1 : Int), (2 : Int), (5 : Int), (10000 : Int), (-1 : Int), (10001 : Int)]).map I) rfl rfl rfl rfl rfl rfl <| bndE h fun v5 e3 h => t_call0 rfl (Stream_Pick_c e3) (CoL.refl _) (.cons .p0 .nil) rfl rfl <| rA rfl rfl <| rA rfl rfl <| rA rfl rfl <| rN <| tS <| tS <| ATodo.cut (fun σ' => ∃ (c6 : Bool), L_TracksPlain_j1 v2 v4 v5 c6 = some r ∧ σ' = ⟨105, [(4, .sl 5 b3 0 v2.1.length), (5, I v4.1), (6, I v5.1), (33, .bool c6)], [(b3, .arr 5 (v2.1.map Fix.av))]⟩) ?_ ?_
  · refine tR <| rM rfl rfl <| ARun.qv (t_len_sl rfl) rfl <| ARun.qv (q_gtr rfl rfl) rfl <| rM rfl rfl <| ARun.guard_dt rfl rfl rfl (fun hc => ?_) (fun hc => ?_)
    · exact have h := iteT hc h; rM rfl rfl <| rY rfl rfl rfl <| bndE h fun v7 e4 h => t_call0 rfl (Stream_Flip_c e4) (CoL.refl _) (.cons .p0 .nil) rfl rfl <| rT rfl rfl rfl <| rN <| ATodo.stop <| ImpX.lq [1] ⟨v7.1, h, rfl⟩ rfl rfl
    · exact have h := iteF hc h; rG rfl rfl rfl rfl <| rE rfl rfl rfl <| rN <| ATodo.stop <| ImpX.lq [1] ⟨false, h, rfl⟩ rfl rfl
  · rintro σ' ⟨c6, h, rfl⟩
    unfold L_TracksPlain_j1 at h
    refine ATodo.cut (fun σ' => ∃ (l8 : List Fix), L_TracksPlain_j2 v4 v5 l8 = some r ∧ σ' = ⟨105, [(4, .sl 5 b3 0 l8.length), (5, I v4.1), (6, I v5.1)], [(b3, .arr 5 (l8.map Fix.av))]⟩) ?_ ?_
    · refine ATodo.cond rfl (fun hc => ?_) (fun hc => ?_)
      · exact have h := iteT hc h; tR <| rM rfl rfl <| rM rfl rfl <| ARun.qv (t_len_sl rfl) rfl <| ARun.qv (q_subw rfl rfl) rfl <| bndE h fun v9 e5 h => ARun.qv (t_index_sl rfl rfl rfl e5) rfl <| ARun.qv (t_field_aptr rfl rfl) rfl <| t_store_aptr1 (g := Fix.av) (el' := (⟨v9.Device, (345686399999 : Int), v9.X, v9.Y, v9.Error⟩ : Fix)) rfl rfl rfl rfl e5 rfl .p0 rfl <| ARun.ghost <| ImpX.eqs (s := 4) (av' := .sl 5 b3 0 (v2.1.set (w64 ((v2.1.length : Int) - (1 : Int))).toNat (⟨v9.Device, (345686399999 : Int), v9.X, v9.Y, v9.Error⟩ : Fix)).length) rfl (by rw [List.length_set]) <| ImpX.here <| ARun.ghost <| ImpX.eqs (s := 34) (av' := .sl 5 b3 0 (v2.1.set (w64 ((v2.1.length : Int) - (1 : Int))).toNat (⟨v9.Device, (345686399999 : Int), v9.X, v9.Y, v9.Error⟩ : Fix)).length) rfl (by rw [List.length_set]) <| ImpX.here <| ARun.ghost <| ImpX.eqs (s := 35) (av' := .sl 5 b3 0 (v2.1.set (w64 ((v2.1.length : Int) - (1 : Int))).toNat (⟨v9.Device, (345686399999 : Int), v9.X, v9.Y, v9.Error⟩ : Fix)).length) rfl (by rw [List.length_set]) <| ImpX.here <| rN <| ATodo.stop <| ImpX.lq [0] ⟨v2.1.set (w64 ((v2.1.length : Int) - (1 : Int))).toNat (⟨v9.Device, (345686399999 : Int), v9.X, v9.Y, v9.Error⟩ : Fix), h, rfl⟩ rfl rfl
      · exact have h := iteFb hc h; tK <| ATodo.stop <| ImpX.lq [0] ⟨v2.1, h, rfl⟩ rfl rfl
    · rintro σ' ⟨l8, h, rfl⟩
      unfold L_TracksPlain_j2 at h
      refine tSR <| rM rfl rfl <| rM rfl rfl <| bndE h fun v10 e6 h => t_callL1 rfl (place_Jumps_c e6) .nil (.cons (CoB.arrT .p0) (.cons (.co (.refl _)) .nil)) (fun _ => rfl) (fun _ => rfl) (fun _ => (.cons (NoS.arrT (fun _ => rfl)) .nil)) rfl fun b11 => rM rfl rfl <| rX rfl rfl rfl <| rX rfl rfl rfl <| rA rfl rfl <| rA rfl rfl <| rN <| tSR <| rM rfl rfl <| rM rfl rfl <| bndE h fun v12 e7 h => t_callL1 rfl (place_Plain_c e7) .nil (.cons (CoB.arrT .p1) (.cons (.co (.refl _)) .nil)) (fun _ => rfl) (fun _ => rfl) (fun _ => (.cons (NoS.arrT (fun _ => rfl)) .nil)) rfl fun b13 => rM rfl rfl <| rX rfl rfl rfl <| rX rfl rfl rfl <| rA rfl rfl <| rA rfl rfl <| rN <| tSR <| rM rfl rfl <| bndE h fun v14 e8 h => r_callpB rfl (Q_TrackFault_c e8) (.cons (CoB.arrT .p2) .nil) rfl rfl <| rA rfl rfl <| rN <| tS <| ATodo.cut (fun σ' => ∃ (n15 : Int), L_TracksPlain_j3 v4 v5 l8 v10 v12 v14 n15 = some r ∧ σ' = ⟨105, [(4, .sl 5 b3 0 l8.length), (5, I v4.1), (6, I v5.1), (7, .sl 1 b11 0 v10.1.length), (8, I v10.2), (9, .sl 1 b13 0 v12.1.length), (10, I v12.2), (11, I v14), (12, I n15)], [(b3, .arr 5 (l8.map Fix.av)), (b11, .arr 1 (v10.1.map I)), (b13, .arr 1 (v12.1.map I))]⟩) ?_ ?_
      · refine tR <| rM rfl rfl <| rM rfl rfl <| ARun.qv (q_lss rfl rfl) rfl <| rM rfl rfl <| ARun.guard_df rfl rfl rfl (fun hc => ?_) (fun hc => ?_)
        · exact have h := iteF hc h; rM rfl rfl <| rY rfl rfl rfl <| ARun.qv (q_gtr rfl rfl) rfl <| rE rfl rfl rfl <| r_callp rfl (L_when_c rfl) (CoL.refl _) rfl <| n_buildSliceL (xs := ([v14, (L_when (decide ((10000 : Int) < v4.1)) (1 : Int))]).map I) rfl rfl rfl rfl rfl rfl <| bndE h fun v16 e9 h => r_callp rfl (L_errs_c e9) (CoL.refl _) rfl <| rA rfl rfl <| rN <| ATodo.stop <| ImpX.lq [2, 1, 0] ⟨v16, h, rfl⟩ rfl rfl
        · exact have h := iteT hc h; rG rfl rfl rfl rfl <| rT rfl rfl rfl <| r_callp rfl (L_when_c rfl) (CoL.refl _) rfl <| n_buildSliceL (xs := ([v14, (L_when true (1 : Int))]).map I) rfl rfl rfl rfl rfl rfl <| bndE h fun v17 e10 h => r_callp rfl (L_errs_c e10) (CoL.refl _) rfl <| rA rfl rfl <| rN <| ATodo.stop <| ImpX.lq [2, 1, 0] ⟨v17, h, rfl⟩ rfl rfl
      · rintro σ' ⟨n15, h, rfl⟩
        unfold L_TracksPlain_j3 at h
        refine tS <| ATodo.cut (fun σ' => ∃ (n18 : Int), L_TracksPlain_j4 v4 v5 l8 v10 v12 n15 n18 = some r ∧ σ' = ⟨105, [(4, .sl 5 b3 0 l8.length), (5, I v4.1), (6, I v5.1), (7, .sl 1 b11 0 v10.1.length), (8, I v10.2), (9, .sl 1 b13 0 v12.1.length), (10, I v12.2), (12, I n15), (13, I n18)], [(b3, .arr 5 (l8.map Fix.av)), (b11, .arr 1 (v10.1.map I)), (b13, .arr 1 (v12.1.map I))]⟩) ?_ ?_
        · refine tR <| rM rfl rfl <| rM rfl rfl <| ARun.qv (q_lss rfl rfl) rfl <| rM rfl rfl <| ARun.guard_df rfl rfl rfl (fun hc => ?_) (fun hc => ?_)
          · exact have h := iteF hc h; rM rfl rfl <| rY rfl rfl rfl <| ARun.qv (q_gtr rfl rfl) rfl <| rE rfl rfl rfl <| r_callp rfl (L_when_c rfl) (CoL.refl _) rfl <| n_buildSliceL (xs := ([v14, (L_when (decide ((10000 : Int) < v5.1)) (1 : Int))]).map I) rfl rfl rfl rfl rfl rfl <| bndE h fun v19 e11 h => r_callp rfl (L_errs_c e11) (CoL.refl _) rfl <| rA rfl rfl <| rN <| ATodo.stop <| ImpX.lq [0, 0, 0] ⟨v19, h, rfl⟩ rfl rfl
          · exact have h := iteT hc h; rG rfl rfl rfl rfl <| rT rfl rfl rfl <| r_callp rfl (L_when_c rfl) (CoL.refl _) rfl <| n_buildSliceL (xs := ([v14, (L_when true (1 : Int))]).map I) rfl rfl rfl rfl rfl rfl <| bndE h fun v20 e12 h => r_callp rfl (L_errs_c e12) (CoL.refl _) rfl <| rA rfl rfl <| rN <| ATodo.stop <| ImpX.lq [0, 0, 0] ⟨v20, h, rfl⟩ rfl rfl
        · rintro σ' ⟨n18, h, rfl⟩
          unfold L_TracksPlain_j4 at h
          refine tSR <| rA rfl rfl <| rA rfl rfl <| rN <| tS <| tSR <| rM rfl rfl <| ARun.qv (q_eql rfl rfl) rfl <| rN <| ATodo.cut (fun σ' => ∃ (b21 : Bk) (l22 : List Int), L_TracksPlain_j5 v5 l8 v10 v12 n15 n18 l22 = some r ∧ σ' = ⟨105, [(4, .sl 5 b3 0 l8.length), (6, I v5.1), (7, .sl 1 b11 0 v10.1.length), (8, I v10.2), (9, .sl 1 b13 0 v12.1.length), (10, I v12.2), (12, I n15), (13, I n18), (14, .sl 1 b21 0 l22.length), (15, .nil)], [(b3, .arr 5 (l8.map Fix.av)), (b11, .arr 1 (v10.1.map I)), (b13, .arr 1 (v12.1.map I)), (b21, .arr 1 (l22.map I))]⟩) ?_ ?_
          · refine ATodo.cond_d rfl (fun hc => ?_) (fun hc => ?_)
            · exact have h := iteT hc h; tR <| rM rfl rfl <| rM rfl rfl <| bndE h fun v23 e13 h => t_callL1 rfl (Q_JumpsOf_c e13) .nil (.cons (CoB.arrT .p0) (.cons (.co (.refl _)) .nil)) (fun _ => rfl) (fun _ => rfl) (fun _ => (.cons (NoS.arrT (fun _ => rfl)) .nil)) rfl fun b24 => rA rfl rfl <| rN <| ATodo.stop <| ImpX.lq [1, 1, 1, 0] ⟨b24, v23, h, rfl⟩ rfl rfl
            · exact have h := iteF hc h; tK <| ATodo.stop <| ImpX.arr (s := 14) 1 rfl fun b25 => ImpX.lq [1, 1, 1, 0] ⟨b25, [], h, rfl⟩ rfl rfl
          · rintro σ' ⟨b21, l22, h, rfl⟩
            unfold L_TracksPlain_j5 at h
            refine tS <| tSR <| rM rfl rfl <| ARun.qv (q_eql rfl rfl) rfl <| rN <| ATodo.cut (fun σ' => ∃ (b26 : Bk) (l27 : List Int), L_TracksPlain_j6 v10 v12 n15 n18 l22 l27 = some r ∧ σ' = ⟨105, [(7, .sl 1 b11 0 v10.1.length), (8, I v10.2), (9, .sl 1 b13 0 v12.1.length), (10, I v12.2), (12, I n15), (13, I n18), (14, .sl 1 b21 0 l22.length), (15, .sl 1 b26 0 l27.length)], [(b11, .arr 1 (v10.1.map I)), (b13, .arr 1 (v12.1.map I)), (b21, .arr 1 (l22.map I)), (b26, .arr 1 (l27.map I))]⟩) ?_ ?_
            · refine ATodo.cond_d rfl (fun hc => ?_) (fun hc => ?_)
              · exact have h := iteT hc h; tR <| rM rfl rfl <| rM rfl rfl <| bndE h fun v28 e14 h => t_callL1 rfl (Q_PlainOf_c e14) .nil (.cons (CoB.arrT .p0) (.cons (.co (.refl _)) .nil)) (fun _ => rfl) (fun _ => rfl) (fun _ => (.cons (NoS.arrT (fun _ => rfl)) .nil)) rfl fun b29 => rA rfl rfl <| rN <| ATodo.stop <| ImpX.lq [2, 2, 2, 0] ⟨b29, v28, h, rfl⟩ rfl rfl
              · exact have h := iteF hc h; tK <| ATodo.stop <| ImpX.arr (s := 15) 1 rfl fun b30 => ImpX.lq [2, 2, 2, 0] ⟨b30, [], h, rfl⟩ rfl rfl
            · rintro σ' ⟨b26, l27, h, rfl⟩
              unfold L_TracksPlain_j6 at h
              refine tS <| ATodo.cut (fun σ' => ∃ (c31 : Bool), L_TracksPlain_j7 c31 = some r ∧ σ' = ⟨105, [(2, .bool c31)], []⟩) ?_ ?_
              · refine tR <| rM rfl rfl <| rM rfl rfl <| ARun.qv (q_eql rfl rfl) rfl <| rM rfl rfl <| ARun.guard_dt rfl rfl rfl (fun hc => ?_) (fun hc => ?_)
                · refine have h := iteT hc h; rM rfl rfl <| rY rfl rfl rfl <| rM rfl rfl <| rY rfl rfl rfl <| bndE h fun v32 e15 h => r_callpB rfl (slices_Equal_int_int_c e15) (.cons (CoB.arrT .p0) (.cons (CoB.arrT .p2) .nil)) rfl rfl <| rT rfl rfl rfl <| rM rfl rfl <| ARun.guard rfl rfl rfl (fun hc => ?_) (fun hc => ?_)
                  · refine have h := iteT hc h; rM rfl rfl <| rY rfl rfl rfl <| rM rfl rfl <| rY rfl rfl rfl <| ARun.qv (q_eql rfl rfl) rfl <| rT rfl rfl rfl <| rM rfl rfl <| ARun.guard_dt rfl rfl rfl (fun hc => ?_) (fun hc => ?_)
                    · refine have h := iteT hc h; rM rfl rfl <| rY rfl rfl rfl <| rM rfl rfl <| rY rfl rfl rfl <| bndE h fun v33 e16 h => r_callpB rfl (slices_Equal_int_int_c e16) (.cons (CoB.arrT .p1) (.cons (CoB.arrT .p3) .nil)) rfl rfl <| rT rfl rfl rfl <| rM rfl rfl <| ARun.guard rfl rfl rfl (fun hc => ?_) (fun hc => ?_)
                      · exact have h := iteT hc h; bndE h fun v34 e17 h => r_callp rfl (L_placed_c e17) (CoL.refl _) rfl <| rT rfl rfl rfl <| rA rfl rfl <| rN <| ATodo.stop <| ImpX.lq [] ⟨v34, h, rfl⟩ rfl rfl
                      · exact have h := iteFb hc h; rE rfl rfl rfl <| rA rfl rfl <| rN <| ATodo.stop <| ImpX.lq [] ⟨false, h, rfl⟩ rfl rfl
                    · exact have h := iteF hc h; rG rfl rfl rfl rfl <| rG rfl rfl rfl rfl <| rE rfl rfl rfl <| rM rfl rfl <| rG rfl rfl rfl rfl <| rE rfl rfl rfl <| rA rfl rfl <| rN <| ATodo.stop <| ImpX.lq [] ⟨false, h, rfl⟩ rfl rfl
                  · exact have h := iteFb hc h; rG rfl rfl rfl rfl <| rG rfl rfl rfl rfl <| rE rfl rfl rfl <| rM rfl rfl <| rG rfl rfl rfl rfl <| rG rfl rfl rfl rfl <| rG rfl rfl rfl rfl <| rE rfl rfl rfl <| rM rfl rfl <| rG rfl rfl rfl rfl <| rE rfl rfl rfl <| rA rfl rfl <| rN <| ATodo.stop <| ImpX.lq [] ⟨false, h, rfl⟩ rfl rfl
                · exact have h := iteF hc h; rG rfl rfl rfl rfl <| rG rfl rfl rfl rfl <| rE rfl rfl rfl <| rM rfl rfl <| rG rfl rfl rfl rfl <| rG rfl rfl rfl rfl <| rG rfl rfl rfl rfl <| rE rfl rfl rfl <| rM rfl rfl <| rG rfl rfl rfl rfl <| rG rfl rfl rfl rfl <| rG rfl rfl rfl rfl <| rE rfl rfl rfl <| rM rfl rfl <| rG rfl rfl rfl rfl <| rE rfl rfl rfl <| rA rfl rfl <| rN <| ATodo.stop <| ImpX.lq [] ⟨false, h, rfl⟩ rfl rfl
              · rintro σ' ⟨c31, h, rfl⟩
                unfold L_TracksPlain_j7 at h
                refine ATodo.ret <| ?_
                obtain rfl := Option.some.inj h
                exact ImpX.here ⟨_, .cons (.tmp _ _ rfl) .nil, rfl⟩

end Go.Proofs.Ytfplpihogacmaaa
