/- The code computes the plain functions: proofs written by shal.py. -/
import Derived.Test.YtmeliclfmnekkaaGreatDoorCacP
import Derived.Test.YtmeliclfmnekkaaGreatDoorLib
set_option maxRecDepth 100000
set_option linter.unusedVariables false
set_option linter.unusedSimpArgs false
namespace Go.Proofs.YtmeliclfmnekkaaGreatDoor
open Go Go.Eng Go.Proofs Go.Beacon
attribute [local irreducible] ARun ATodo AQ QV ACall ImpX AWp AM
instance eqg27 : EqGd Tryz.prog 27 := ⟨by kernel_rfl⟩
instance eqt27 : EqTy Tryz.prog 27 2 Version.av := ⟨fun x y w S v u hv hu => by
  obtain ⟨vs, rfl, hl, ha⟩ := At.agg_inv hv
  obtain ⟨us, rfl, hl', ha'⟩ := At.agg_inv hu
  obtain ⟨v0, p0, q0⟩ := AtA.get hl ha (off := 0) rfl
  obtain ⟨u0, p0', q0'⟩ := AtA.get hl' ha' (off := 0) rfl
  obtain ⟨v1, p1, q1⟩ := AtA.get hl ha (off := 1) rfl
  obtain ⟨u1, p1', q1'⟩ := AtA.get hl' ha' (off := 1) rfl
  obtain ⟨v2, p2, q2⟩ := AtA.get hl ha (off := 2) rfl
  obtain ⟨u2, p2', q2'⟩ := AtA.get hl' ha' (off := 2) rfl
  refine EqR.cast (EqR.struct Tryz.underlying27 (by kernel_rfl) (.cons (by decide) (part_one rfl p0) (part_one rfl p0') (EqR.up (EqTy.h (g := I) x.Major y.Major w S _ _ q0 q0') 0)  (.cons (by decide) (part_one rfl p1) (part_one rfl p1') (EqR.up (EqTy.h (g := I) x.Minor y.Minor w S _ _ q1 q1') 0)  (.cons (by decide) (part_one rfl p2) (part_one rfl p2') (EqR.up (EqTy.h (g := I) x.Patch y.Patch w S _ _ q2 q2') 0) .nil)))) ?_
  obtain ⟨_, _, _⟩ := x
  obtain ⟨_, _, _⟩ := y
  rw [Bool.eq_iff_iff]; simp [and_assoc]⟩
instance eqg43 : EqGd Tryz.prog 43 := ⟨by kernel_rfl⟩
instance eqt43 : EqTy Tryz.prog 43 3 MarkS.av := ⟨fun x y w S v u hv hu => by
  obtain ⟨vs, rfl, hl, ha⟩ := At.agg_inv hv
  obtain ⟨us, rfl, hl', ha'⟩ := At.agg_inv hu
  obtain ⟨v0, p0, q0⟩ := AtA.get hl ha (off := 0) rfl
  obtain ⟨u0, p0', q0'⟩ := AtA.get hl' ha' (off := 0) rfl
  obtain ⟨v1, p1, q1⟩ := AtA.get hl ha (off := 1) rfl
  obtain ⟨u1, p1', q1'⟩ := AtA.get hl' ha' (off := 1) rfl
  obtain ⟨v2, p2, q2⟩ := AtA.get hl ha (off := 2) rfl
  obtain ⟨u2, p2', q2'⟩ := AtA.get hl' ha' (off := 2) rfl
  refine EqR.cast (EqR.struct Tryz.underlying43 (by kernel_rfl) (.cons (by decide) (part_one rfl p0) (part_one rfl p0') (EqR.up (EqTy.h (g := I) x.At y.At w S _ _ q0 q0') 1)  (.cons (by decide) (part_one rfl p1) (part_one rfl p1') (EqR.up (EqTy.h (g := AV.str) x.Device y.Device w S _ _ q1 q1') 1)  (.cons (by decide) (part_one rfl p2) (part_one rfl p2') (EqR.up (EqTy.h (g := I) x.Kind y.Kind w S _ _ q2 q2') 1)  (.cons (by decide) (part_agg rfl rfl) (part_agg rfl rfl) (EqR.up (EqTy.h (g := Version.av) x.Version y.Version w S _ _ (AtA.sub hl ha 3 3 (Nat.le_of_ble_eq_true rfl)) (AtA.sub hl' ha' 3 3 (Nat.le_of_ble_eq_true rfl))) 0) .nil))))) ?_
  obtain ⟨_, _, _, _⟩ := x
  obtain ⟨_, _, _, _⟩ := y
  rw [Bool.eq_iff_iff]; simp [and_assoc]⟩
set_option maxHeartbeats 4000000 in
theorem Below_c [GI : GTab] {p0x0 : Int} {p1x0 : Int} {r : Int} (h : Below p0x0 p1x0 = some r) : Pu Tryz.prog 51 [I p0x0, I p1x0] (I r) := by
  unfold Below at h
  refine ACall.bodyN Tryz.func51 rfl Tryz.ntmps51 Tryz.results51 rfl rfl ?_
  refine tSR <| rA rfl rfl <| rN <| tS <| tSR <| rM rfl rfl <| ARun.qv (q_lss rfl rfl) rfl <| rN <| ATodo.cond_d rfl (fun hc => ?_) (fun hc => ?_)
  · refine have h := iteT hc h; tSR <| rA rfl rfl <| rN <| ATodo.ret <| ?_
    obtain rfl := Option.some.inj h
    exact ImpX.here ⟨_, .cons (.tmp _ _ rfl) .nil, rfl⟩
  · refine have h := iteF hc h; tK <| tSR <| rM rfl rfl <| rM rfl rfl <| bndE h fun n1 e1 h => ARun.qv (t_remS rfl rfl e1) rfl <| rA rfl rfl <| rN <| tS <| tSR <| rM rfl rfl <| ARun.qv (q_lss rfl rfl) rfl <| rN <| ATodo.cut (fun σ' => ∃ (n2 : Int), Below_j1 n2 = some r ∧ σ' = ⟨16, [(0, I n2)], []⟩) ?_ ?_
    · refine ATodo.cond_d rfl (fun hc => ?_) (fun hc => ?_)
      · exact have h := iteT hc h; tR <| rM rfl rfl <| rM rfl rfl <| ARun.qv (q_addw rfl rfl) rfl <| rA rfl rfl <| rN <| ATodo.stop <| ImpX.lq [] ⟨w64 (n1 + p1x0), h, rfl⟩ rfl rfl
      · exact have h := iteF hc h; tK <| ATodo.stop <| ImpX.lq [] ⟨n1, h, rfl⟩ rfl rfl
    · rintro σ' ⟨n2, h, rfl⟩
      unfold Below_j1 at h
      refine tSR <| rM rfl rfl <| rA rfl rfl <| rN <| ATodo.ret <| ?_
      obtain rfl := Option.some.inj h
      exact ImpX.here ⟨_, .cons (.tmp _ _ rfl) .nil, rfl⟩

set_option maxHeartbeats 4000000 in
theorem Stream_Next_c [GI : GTab] {b_0 : Bk} {p0x0 : Fleetmake_Stream} {p1x0 : Int} {r : Int × Fleetmake_Stream} (h : Stream_Next p0x0 p1x0 = some r) : ACall Tryz.prog 13 [.ptr b_0 0, I p1x0] [(b_0, .cells [.list 1 (p0x0.L.map I), I p0x0.at_])] (T0 ([(b_0, .cells [.list 1 (r.2.L.map I), I r.2.at_])]) (I r.1)) := by
  unfold Stream_Next at h
  refine ACall.lessH ?_
  refine ACall.bodyN Tryz.func13 rfl Tryz.ntmps13 Tryz.results13 rfl rfl ?_
  refine tSR <| rA rfl rfl <| rN <| tSR <| rM rfl rfl <| ARun.qv (q_nilCheck_ptr rfl) rfl <| rF rfl rfl rfl <| rL rfl rfl .p0 rfl rfl <| ARun.qv (q_addw rfl rfl) rfl <| ARun.qv (q_nilCheck_ptr rfl) rfl <| rF rfl rfl rfl <| n_store_ptr rfl rfl rfl rfl .p0 rfl rfl <| rN <| tS <| tSR <| rM rfl rfl <| ARun.qv (q_nilCheck_ptr rfl) rfl <| rF rfl rfl rfl <| rL rfl rfl .p0 rfl rfl <| ARun.qv (t_len rfl) rfl <| ARun.qv (q_eql rfl rfl) rfl <| rN <| ATodo.cond_d rfl (fun hc => ?_) (fun hc => ?_)
  · refine have h := iteT hc h; tSR <| rM rfl rfl <| ARun.qv (q_nilCheck_ptr rfl) rfl <| rF rfl rfl rfl <| rL rfl rfl .p0 rfl rfl <| ARun.qv (q_mulw rfl rfl) rfl <| rM rfl rfl <| bndE h fun v1 e1 h => r_callp rfl (Below_c e1) (CoL.refl _) rfl <| rA rfl rfl <| rN <| ATodo.ret <| ?_
    obtain rfl := Option.some.inj h
    exact ImpX.here ⟨_, .cons (.tmp _ _ rfl) .nil, _, .cons .p0 .nil, ⟨rfl, rfl⟩⟩
  · refine have h := iteF hc h; tK <| tS <| ATodo.regionM (id := 4) (A := [0, 1, 3, 7, 15, 0, 32, 96, 224, 480, 1023, 2047]) 12 mixed rfl (by kernel_rfl) (by kernel_rfl) <| AM.qv (q_move rfl) rfl <| AM.qv (q_nilCheck_ptr rfl) rfl <| AM.qv (n_field_ptr rfl rfl) rfl <| AM.qv (q_load_ptr rfl rfl .p0 rfl) rfl <| AM.qv (q_subw rfl rfl) rfl <| AM.qv (q_move rfl) rfl <| AM.qv (q_nilCheck_ptr rfl) rfl <| AM.qv (n_field_ptr rfl rfl) rfl <| AM.qv (q_load_ptr rfl rfl .p0 rfl) rfl <| AM.qv (t_len rfl) rfl <| bndE h fun n2 e2 h => AM.qv (t_remS rfl rfl e2) rfl <| AM.qv (q_assign rfl) rfl <| AM.nil <| rN <| tS <| ATodo.regionM (id := 5) (A := [0, 1, 3, 7, 15, 0, 32, 96, 224, 480, 1023, 2047]) 12 mixed rfl (by kernel_rfl) (by kernel_rfl) <| AM.qv (q_move rfl) rfl <| AM.qv (q_nilCheck_ptr rfl) rfl <| AM.qv (n_field_ptr rfl rfl) rfl <| AM.qv (q_load_ptr rfl rfl .p0 rfl) rfl <| AM.qv (q_subw rfl rfl) rfl <| AM.qv (q_move rfl) rfl <| AM.qv (q_nilCheck_ptr rfl) rfl <| AM.qv (n_field_ptr rfl rfl) rfl <| AM.qv (q_load_ptr rfl rfl .p0 rfl) rfl <| AM.qv (t_len rfl) rfl <| bndE h fun n3 e3 h => AM.qv (t_quoS rfl rfl e3) rfl <| AM.qv (q_assign rfl) rfl <| AM.nil <| rN <| tSR <| rM rfl rfl <| ARun.qv (q_nilCheck_ptr rfl) rfl <| rF rfl rfl rfl <| rL rfl rfl .p0 rfl rfl <| rM rfl rfl <| bndE h fun v4 e4 h => ARun.qv (t_index rfl rfl rfl e4 rfl rfl) rfl <| ARun.qv (q_load_rptr rfl rfl rfl) rfl <| bndE h fun v5 e5 h => r_callp rfl (Below_c e5) (CoL.refl _) rfl <| rM rfl rfl <| rM rfl rfl <| ARun.qv (q_addw rfl rfl) rfl <| ARun.qv (q_mulw rfl rfl) rfl <| ARun.qv (q_addw rfl rfl) rfl <| rM rfl rfl <| bndE h fun v6 e6 h => r_callp rfl (Below_c e6) (CoL.refl _) rfl <| rA rfl rfl <| rN <| ATodo.ret <| ?_
    obtain rfl := Option.some.inj h
    exact ImpX.here ⟨_, .cons (.tmp _ _ rfl) .nil, _, .cons .p0 .nil, ⟨rfl, rfl⟩⟩

set_option maxHeartbeats 4000000 in
theorem Stream_Some_c [GI : GTab] {b_0 : Bk} {p0x0 : Fleetmake_Stream} {p1x0 : List Str} {r : Str × Fleetmake_Stream} (h : Stream_Some p0x0 p1x0 = some r) : ACall Tryz.prog 8 [.ptr b_0 0, .list 1 (p1x0.map AV.str)] [(b_0, .cells [.list 1 (p0x0.L.map I), I p0x0.at_])] (T0 ([(b_0, .cells [.list 1 (r.2.L.map I), I r.2.at_])]) (.str r.1)) := by
  unfold Stream_Some at h
  refine ACall.lessH ?_
  refine ACall.bodyN Tryz.func8 rfl Tryz.ntmps8 Tryz.results8 rfl rfl ?_
  refine tSR <| rA rfl rfl <| rN <| tSR <| rM rfl rfl <| rM rfl rfl <| rM rfl rfl <| ARun.qv (t_len rfl) rfl <| bndE h fun v1 e1 h => t_call0 rfl (Stream_Next_c e1) (CoL.refl _) (.cons .p0 .nil) rfl rfl <| bndE h fun v2 e2 h => ARun.qv (t_index rfl rfl rfl e2 rfl rfl) rfl <| ARun.qv (q_load_rptr rfl rfl rfl) rfl <| rA rfl rfl <| rN <| ATodo.ret <| ?_
  obtain rfl := Option.some.inj h
  exact ImpX.here ⟨_, .cons (.tmp _ _ rfl) .nil, _, .cons .p0 .nil, ⟨rfl, rfl⟩⟩

set_option maxHeartbeats 4000000 in
theorem Stream_Pick_c [GI : GTab] {b_0 : Bk} {p0x0 : Fleetmake_Stream} {p1x0 : List Int} {r : Int × Fleetmake_Stream} (h : Stream_Pick p0x0 p1x0 = some r) : ACall Tryz.prog 34 [.ptr b_0 0, .list 1 (p1x0.map I)] [(b_0, .cells [.list 1 (p0x0.L.map I), I p0x0.at_])] (T0 ([(b_0, .cells [.list 1 (r.2.L.map I), I r.2.at_])]) (I r.1)) := by
  unfold Stream_Pick at h
  refine ACall.lessH ?_
  refine ACall.bodyN Tryz.func34 rfl Tryz.ntmps34 Tryz.results34 rfl rfl ?_
  refine tSR <| rA rfl rfl <| rN <| tSR <| rM rfl rfl <| rM rfl rfl <| rM rfl rfl <| ARun.qv (t_len rfl) rfl <| bndE h fun v1 e1 h => t_call0 rfl (Stream_Next_c e1) (CoL.refl _) (.cons .p0 .nil) rfl rfl <| bndE h fun v2 e2 h => ARun.qv (t_index rfl rfl rfl e2 rfl rfl) rfl <| ARun.qv (q_load_rptr rfl rfl rfl) rfl <| rA rfl rfl <| rN <| ATodo.ret <| ?_
  obtain rfl := Option.some.inj h
  exact ImpX.here ⟨_, .cons (.tmp _ _ rfl) .nil, _, .cons .p0 .nil, ⟨rfl, rfl⟩⟩

set_option maxHeartbeats 4000000 in
theorem whole_c [GI : GTab] {p0x0 : Int} {r : Version} (h : whole p0x0 = r) : Pu Tryz.prog 46 [I p0x0] (.agg [I r.Major, I r.Minor, I r.Patch]) := by
  unfold whole at h
  refine ACall.bodyN Tryz.func46 rfl Tryz.ntmps46 Tryz.results46 rfl rfl ?_
  refine tSR <| n_alloc rfl rfl rfl rfl fun b1 => rN <| tSR <| rM rfl rfl <| ARun.qv (n_build rfl rfl rfl rfl rfl) rfl <| n_store_ptr rfl rfl rfl rfl .p0 rfl rfl <| rN <| ATodo.ret <| ?_
  obtain rfl := h
  exact ImpX.here ⟨_, .cons (.all _ _ _ _ _ _ rfl .p0 TUnder.h TInfo.h rfl rfl) .nil, rfl⟩

set_option maxHeartbeats 4000000 in
theorem Stream_Flip_c [GI : GTab] {b_0 : Bk} {p0x0 : Fleetmake_Stream} {p1x0 : Int} {r : Bool × Fleetmake_Stream} (h : Stream_Flip p0x0 p1x0 = some r) : ACall Tryz.prog 11 [.ptr b_0 0, I p1x0] [(b_0, .cells [.list 1 (p0x0.L.map I), I p0x0.at_])] (T0 ([(b_0, .cells [.list 1 (r.2.L.map I), I r.2.at_])]) (.bool r.1)) := by
  unfold Stream_Flip at h
  refine ACall.lessH ?_
  refine ACall.bodyN Tryz.func11 rfl Tryz.ntmps11 Tryz.results11 rfl rfl ?_
  refine tSR <| rA rfl rfl <| rN <| tSR <| rM rfl rfl <| rM rfl rfl <| bndE h fun v1 e1 h => t_call0 rfl (Stream_Next_c e1) (CoL.refl _) (.cons .p0 .nil) rfl rfl <| ARun.qv (q_eql rfl rfl) rfl <| rA rfl rfl <| rN <| ATodo.ret <| ?_
  obtain rfl := Option.some.inj h
  exact ImpX.here ⟨_, .cons (.tmp _ _ rfl) .nil, _, .cons .p0 .nil, ⟨rfl, rfl⟩⟩

set_option maxHeartbeats 4000000 in
theorem Stream_RightCampaign_c [GI : GTab] {b_0 : Bk} {p0x0 : Fleetmake_Stream} {r : Campaign × Fleetmake_Stream} (h : Stream_RightCampaign p0x0 = some r) : ACall Tryz.prog 42 [.ptr b_0 0] [(b_0, .cells [.list 1 (p0x0.L.map I), I p0x0.at_])] (T1 (fun d_0x5 => [(b_0, .cells [.list 1 (r.2.L.map I), I r.2.at_]), (d_0x5, .arr 4 (r.1.Waves.map Wave.av))]) (fun d_0x5 => .agg [.str r.1.Key, I r.1.Target.Major, I r.1.Target.Minor, I r.1.Target.Patch, I r.1.At, .sl 4 d_0x5 0 r.1.Waves.length, I r.1.Hours.From, I r.1.Hours.To, I r.1.Room])) := by
  unfold Stream_RightCampaign at h
  refine ACall.lessH ?_
  refine ACall.bodyN Tryz.func42 rfl Tryz.ntmps42 Tryz.results42 rfl rfl ?_
  refine tSR <| n_alloc rfl rfl rfl rfl fun b1 => rN <| tSR <| rM rfl rfl <| n_buildSliceL (xs := ([([99] : Str), ([107] : Str), ([122, 57] : Str)]).map AV.str) rfl rfl rfl rfl rfl rfl <| bndE h fun v2 e1 h => t_call0 rfl (Stream_Some_c e1) (CoL.refl _) (.cons .p1 .nil) rfl rfl <| rM rfl rfl <| n_buildSliceL (xs := ([(2 : Int), (3 : Int), (4 : Int)]).map I) rfl rfl rfl rfl rfl rfl <| bndE h fun v3 e2 h => t_call0 rfl (Stream_Pick_c e2) (CoL.refl _) (.cons .p0 .nil) rfl rfl <| r_callp rfl (whole_c rfl) (CoL.refl _) rfl <| rM rfl rfl <| n_buildSliceL (xs := ([(0 : Int), (10 : Int), (100 : Int)]).map I) rfl rfl rfl rfl rfl rfl <| bndE h fun v4 e3 h => t_call0 rfl (Stream_Pick_c e3) (CoL.refl _) (.cons .p0 .nil) rfl rfl <| rM rfl rfl <| n_buildSliceL (xs := ([(1 : Int), (2 : Int), (5 : Int)]).map I) rfl rfl rfl rfl rfl rfl <| bndE h fun v5 e4 h => t_call0 rfl (Stream_Pick_c e4) (CoL.refl _) (.cons .p0 .nil) rfl rfl <| ARun.qv (n_build rfl rfl rfl rfl rfl) rfl <| n_alloc rfl rfl rfl rfl fun b6 => n_store_ptr rfl rfl rfl rfl .p0 rfl rfl <| rN <| tSR <| n_buildSliceL (xs := ([(1000 : Int)]).map I) rfl rfl rfl rfl rfl rfl <| n_buildSliceL (xs := ([(500 : Int), (500 : Int)]).map I) rfl rfl rfl rfl rfl rfl <| n_buildSliceL (xs := ([(200 : Int), (300 : Int), (500 : Int)]).map I) rfl rfl rfl rfl rfl rfl <| n_buildSliceL (xs := ([(100 : Int), (900 : Int)]).map I) rfl rfl rfl rfl rfl rfl <| n_buildSliceL (xs := ([[(1000 : Int)], [(500 : Int), (500 : Int)], [(200 : Int), (300 : Int), (500 : Int)], [(100 : Int), (900 : Int)]]).map (encL 1 I)) rfl rfl rfl rfl rfl rfl <| rM rfl rfl <| bndE h fun v7 e5 h => t_call0 rfl (Stream_Next_c e5) (CoL.refl _) (.cons .p1 .nil) rfl rfl <| bndE h fun v8 e6 h => ARun.qv (t_index rfl rfl rfl e6 rfl rfl) rfl <| ARun.qv (q_load_rptr rfl rfl rfl) rfl <| rA rfl rfl <| rN <| tS <| tSR <| rM rfl rfl <| ARun.qv (t_len rfl) rfl <| rM rfl rfl <| rN <| ATodo.block <| ATodo.loopI (fun x : (List Int) × Int × (List Wave) × Int => Stream_RightCampaign_b1 v2 v3 v4 v5 v8 x.1 x.2.1 x.2.2.1 x.2.2.2) (fun x σ' => ∃ (b16 : Bk), σ' = ⟨64, [(0, .ptr b_0 0), (2, .ptr b1 0), (3, .ptr b6 0), (30, .list 1 (v8.map I)), (31, I (v8.length : Int)), (32, I x.2.2.2)], [(b_0, .cells [.list 1 (x.1.map I), I x.2.1]), (b1, .cells [.str [], I (0 : Int), I (0 : Int), I (0 : Int), I (0 : Int), .nil, I (0 : Int), I (0 : Int), I (0 : Int)]), (b6, .cells [.str v2.1, I ((whole v3.1).Major), I ((whole v3.1).Minor), I ((whole v3.1).Patch), I v4.1, .sl 4 b16 0 x.2.2.1.length, I (0 : Int), I (0 : Int), I v5.1]), (b16, .arr 4 (x.2.2.1.map Wave.av))]⟩) h ?_ ?_
  · exact ImpX.arrBox (j := 5) 4 (fun _ => .p1) rfl (fun _ => rfl) (fun _ => rfl) fun b19 => ImpX.lq [1, 2, 1, 0] ⟨b19, rfl⟩ rfl rfl
  · intro x z1 σ' J1 hmk h hJ1 hA1
    obtain ⟨l14, n15, l17, n18⟩ := x
    obtain ⟨b16, rfl⟩ := hmk
    replace h : Stream_RightCampaign_b1 v2 v3 v4 v5 v8 l14 n15 l17 n18 = some z1 := h
    unfold Stream_RightCampaign_b1 at h
    refine tSR <| ARun.qv (q_lss rfl rfl) rfl <| rN <| tS <| ATodo.cond_d rfl (fun hc => ?_) (fun hc => ?_)
    · refine have h := iteT hc h; tK <| tS <| ATodo.block <| tSR <| bndE h fun v20 e7 h => ARun.qv (t_index rfl rfl rfl e7 rfl rfl) rfl <| ARun.qv (q_load_rptr rfl rfl rfl) rfl <| rA rfl rfl <| rN <| bndE h fun v21 e8 h => bndE h fun v22 e9 h => bndE h fun v23 e10 h => ATodo.regionT (id := 6) (A := [0, 1, 0, 0, 0, 24, 0, 0, 248, 0, 0, 2040, 4092, 8188, 16383, 32767, 65535]) (H0 := [(b_0, .cells [.list 1 (l14.map I), I n15])]) (HH := fun β => [(b_0, .cells [.list 1 (v23.2.L.map I), I v23.2.at_]), (b1, .cells [.str [], I (0 : Int), I (0 : Int), I (0 : Int), I (0 : Int), .nil, I (0 : Int), I (0 : Int), I (0 : Int)]), (b6, .cells [.str v2.1, I ((whole v3.1).Major), I ((whole v3.1).Minor), I ((whole v3.1).Patch), I v4.1, .sl 4 b16 0 l17.length, I (0 : Int), I (0 : Int), I v5.1]), (b16, .arr 4 (l17.map Wave.av))]) 14 mixed rfl (by kernel_rfl) (by kernel_rfl) [⟨none, some 5, [], fun _ => (b_0, .cells [.list 1 (l14.map I), I n15]), none⟩, ⟨some 5, some 8, [], fun _ => (b_0, .cells [.list 1 (v21.2.L.map I), I v21.2.at_]), none⟩, ⟨some 8, some 11, [], fun _ => (b_0, .cells [.list 1 (v22.2.L.map I), I v22.2.at_]), none⟩, ⟨some 11, none, [], fun _ => (b_0, .cells [.list 1 (v23.2.L.map I), I v23.2.at_]), none⟩] [] rfl (by kernel_rfl) rfl (.cons .p0 .nil) (fun _ => rfl) <| AT.am 5 rfl rfl <| AM.qv (n_field_ptr rfl rfl) rfl <| AM.qv (q_load_ptr rfl rfl .p1 rfl) rfl <| AM.qv (q_move rfl) rfl <| AM.qv (q_move rfl) rfl <| AM.buildSliceL (xs := ([(0 : Int), (0 : Int), (10 : Int), (30 : Int)]).map I) rfl rfl rfl rfl rfl rfl <| AM.nil <| AT.runS (av := I v21.1) (Ti := [(b_0, .cells [.list 1 (l14.map I), I n15])]) (Pi := [(b_0, .cells [.list 1 (v21.2.L.map I), I v21.2.at_])]) (fun _ => rfl) (fun _ => rfl) (fun _ => rfl) rfl rfl rfl ?_ ?_
      · exact t_call0 rfl (Stream_Pick_c e8) (CoL.refl _) (.cons .p0 .nil) rfl rfl <| ARun.nil ⟨_, rfl, rfl⟩
      refine AT.am 2 rfl rfl <| AM.qv (q_move rfl) rfl <| AM.buildSliceL (xs := ([(1 : Int), (1 : Int), (2 : Int), (3 : Int)]).map I) rfl rfl rfl rfl rfl rfl <| AM.nil <| AT.runS (av := I v22.1) (Ti := [(b_0, .cells [.list 1 (v21.2.L.map I), I v21.2.at_])]) (Pi := [(b_0, .cells [.list 1 (v22.2.L.map I), I v22.2.at_])]) (fun _ => rfl) (fun _ => rfl) (fun _ => rfl) rfl rfl rfl ?_ ?_
      · exact t_call0 rfl (Stream_Pick_c e9) (CoL.refl _) (.cons .p0 .nil) rfl rfl <| ARun.nil ⟨_, rfl, rfl⟩
      refine AT.am 2 rfl rfl <| AM.qv (q_move rfl) rfl <| AM.buildSliceL (xs := ([(0 : Int), (300 : Int), (500 : Int), (1000 : Int)]).map I) rfl rfl rfl rfl rfl rfl <| AM.nil <| AT.runS (av := I v23.1) (Ti := [(b_0, .cells [.list 1 (v22.2.L.map I), I v22.2.at_])]) (Pi := [(b_0, .cells [.list 1 (v23.2.L.map I), I v23.2.at_])]) (fun _ => rfl) (fun _ => rfl) (fun _ => rfl) rfl rfl rfl ?_ ?_
      · exact t_call0 rfl (Stream_Pick_c e10) (CoL.refl _) (.cons .p0 .nil) rfl rfl <| ARun.nil ⟨_, rfl, rfl⟩
      refine AT.am 2 rfl rfl <| AM.qv (n_build rfl rfl rfl rfl rfl) rfl <| AM.buildSliceL (xs := ([(⟨v20, v21.1, v22.1, v23.1⟩ : Wave)]).map Wave.av) rfl rfl rfl rfl rfl rfl <| AM.nil <| AT.nilN (fun _ => rfl) fun β => bndE h fun l24 e11 h => t_append (g := Wave.av) rfl rfl rfl rfl rfl rfl rfl rfl (.list _) e11 (fun _ => .p3) rfl fun b25 => rF rfl rfl rfl <| n_store_ptr rfl rfl rfl rfl .p2 rfl rfl <| rN <| ATodo.blk <| tR <| ARun.qv (q_addw rfl rfl) rfl <| rM rfl rfl <| rN <| ATodo.stop <| ?_
      obtain rfl := Option.some.inj h
      exact hJ1 _ _ rfl <| ImpX.lq [0, 0, 0, 0] ⟨b25, rfl⟩ rfl rfl
    · refine have h := iteF hc h; ATodo.exit rfl <| have h := outL h hA1; ?_
      unfold Stream_RightCampaign_k2 at h
      refine tS <| tSR <| rM rfl rfl <| bndE h fun v26 e12 h => t_call0 rfl (Stream_Flip_c e12) (CoL.refl _) (.cons .p0 .nil) rfl rfl <| rN <| ATodo.cut (fun σ' => ∃ (l27 : List Int) (n28 : Int) (n29 : Int) (n30 : Int), Stream_RightCampaign_j1 v2 v3 v4 v5 l17 l27 n28 n29 n30 = some r ∧ σ' = ⟨64, [(2, .ptr b1 0), (3, .ptr b6 0)], [(b_0, .cells [.list 1 (l27.map I), I n28]), (b1, .cells [.str [], I (0 : Int), I (0 : Int), I (0 : Int), I (0 : Int), .nil, I (0 : Int), I (0 : Int), I (0 : Int)]), (b6, .cells [.str v2.1, I ((whole v3.1).Major), I ((whole v3.1).Minor), I ((whole v3.1).Patch), I v4.1, .sl 4 b16 0 l17.length, I n29, I n30, I v5.1]), (b16, .arr 4 (l17.map Wave.av))]⟩) ?_ ?_
      · refine ATodo.cond rfl (fun hc => ?_) (fun hc => ?_)
        · exact have h := iteT hc h; tR <| rM rfl rfl <| n_buildSliceL (xs := ([(0 : Int), (50 : Int), (3600000 : Int)]).map I) rfl rfl rfl rfl rfl rfl <| bndE h fun v31 e13 h => t_call0 rfl (Stream_Pick_c e13) (CoL.refl _) (.cons .p0 .nil) rfl rfl <| rM rfl rfl <| n_buildSliceL (xs := ([(0 : Int), (40 : Int), (200 : Int), (86400000 : Int)]).map I) rfl rfl rfl rfl rfl rfl <| bndE h fun v32 e14 h => t_call0 rfl (Stream_Pick_c e14) (CoL.refl _) (.cons .p0 .nil) rfl rfl <| ARun.qv (n_build rfl rfl rfl rfl rfl) rfl <| rF rfl rfl rfl <| n_store_ptr rfl rfl rfl rfl .p2 rfl rfl <| rN <| ATodo.stop <| ImpX.lq [0, 0, 0, 0] ⟨v32.2.L, v32.2.at_, v31.1, v32.1, h, rfl⟩ rfl rfl
        · exact have h := iteFb hc h; tK <| ATodo.stop <| ImpX.lq [0, 0, 0, 0] ⟨v26.2.L, v26.2.at_, (0 : Int), (0 : Int), h, rfl⟩ rfl rfl
      · rintro σ' ⟨l27, n28, n29, n30, h, rfl⟩
        unfold Stream_RightCampaign_j1 at h
        refine tSR <| ARun.qv (q_load_ptr_all rfl rfl .p2 rfl) rfl <| n_store_ptr rfl rfl rfl rfl .p1 rfl rfl <| rN <| ATodo.ret <| ?_
        obtain rfl := Option.some.inj h
        exact ImpX.here ⟨_, .cons (.all _ _ _ _ _ _ rfl .p1 TUnder.h TInfo.h rfl rfl) .nil, _, .cons .p0 (.cons .p2 .nil), ⟨b16, rfl, rfl⟩⟩

set_option maxHeartbeats 4000000 in
theorem Stream_Range_c [GI : GTab] {b_0 : Bk} {p0x0 : Fleetmake_Stream} {p1x0 : Int} {p2x0 : Int} {r : Int × Fleetmake_Stream} (h : Stream_Range p0x0 p1x0 p2x0 = some r) : ACall Tryz.prog 10 [.ptr b_0 0, I p1x0, I p2x0] [(b_0, .cells [.list 1 (p0x0.L.map I), I p0x0.at_])] (T0 ([(b_0, .cells [.list 1 (r.2.L.map I), I r.2.at_])]) (I r.1)) := by
  unfold Stream_Range at h
  refine ACall.lessH ?_
  refine ACall.bodyN Tryz.func10 rfl Tryz.ntmps10 Tryz.results10 rfl rfl ?_
  refine tSR <| rA rfl rfl <| rN <| tS <| tSR <| rM rfl rfl <| rM rfl rfl <| ARun.qv (q_lss rfl rfl) rfl <| rN <| ATodo.cond_d rfl (fun hc => ?_) (fun hc => ?_)
  · refine have h := iteT hc h; tSR <| rM rfl rfl <| rA rfl rfl <| rN <| ATodo.ret <| ?_
    obtain rfl := Option.some.inj h
    exact ImpX.here ⟨_, .cons (.tmp _ _ rfl) .nil, _, .cons .p0 .nil, ⟨rfl, rfl⟩⟩
  · refine have h := iteF hc h; tK <| tSR <| rM rfl rfl <| rM rfl rfl <| rM rfl rfl <| rM rfl rfl <| ARun.qv (q_subw rfl rfl) rfl <| ARun.qv (q_addw rfl rfl) rfl <| bndE h fun v1 e1 h => t_call0 rfl (Stream_Next_c e1) (CoL.refl _) (.cons .p0 .nil) rfl rfl <| ARun.qv (q_addw rfl rfl) rfl <| rA rfl rfl <| rN <| ATodo.ret <| ?_
    obtain rfl := Option.some.inj h
    exact ImpX.here ⟨_, .cons (.tmp _ _ rfl) .nil, _, .cons .p0 .nil, ⟨rfl, rfl⟩⟩

set_option maxHeartbeats 4000000 in
theorem Stream_RightVersion_c [GI : GTab] {b_0 : Bk} {p0x0 : Fleetmake_Stream} {r : Version × Fleetmake_Stream} (h : Stream_RightVersion p0x0 = some r) : ACall Tryz.prog 105 [.ptr b_0 0] [(b_0, .cells [.list 1 (p0x0.L.map I), I p0x0.at_])] (T0 ([(b_0, .cells [.list 1 (r.2.L.map I), I r.2.at_])]) (.agg [I r.1.Major, I r.1.Minor, I r.1.Patch])) := by
  unfold Stream_RightVersion at h
  refine ACall.lessH ?_
  refine ACall.bodyN Tryz.func105 rfl Tryz.ntmps105 Tryz.results105 rfl rfl ?_
  refine tSR <| n_alloc rfl rfl rfl rfl fun b1 => rN <| tSR <| rM rfl rfl <| bndE h fun v2 e1 h => t_call0 rfl (Stream_Range_c e1) (CoL.refl _) (.cons .p1 .nil) rfl rfl <| rM rfl rfl <| n_buildSliceL (xs := ([(0 : Int), (0 : Int), (1 : Int), (5 : Int), (9999 : Int)]).map I) rfl rfl rfl rfl rfl rfl <| bndE h fun v3 e2 h => t_call0 rfl (Stream_Pick_c e2) (CoL.refl _) (.cons .p0 .nil) rfl rfl <| rM rfl rfl <| n_buildSliceL (xs := ([(0 : Int), (0 : Int), (0 : Int), (3 : Int), (9999 : Int)]).map I) rfl rfl rfl rfl rfl rfl <| bndE h fun v4 e3 h => t_call0 rfl (Stream_Pick_c e3) (CoL.refl _) (.cons .p0 .nil) rfl rfl <| ARun.qv (n_build rfl rfl rfl rfl rfl) rfl <| n_store_ptr rfl rfl rfl rfl .p1 rfl rfl <| rN <| ATodo.ret <| ?_
  obtain rfl := Option.some.inj h
  exact ImpX.here ⟨_, .cons (.all _ _ _ _ _ _ rfl .p1 TUnder.h TInfo.h rfl rfl) .nil, _, .cons .p0 .nil, ⟨rfl, rfl⟩⟩

set_option maxHeartbeats 4000000 in
theorem Stream_Odd_c [GI : GTab] {b_0 : Bk} {p0x0 : Fleetmake_Stream} {p1x0 : Int} {p2x0 : Int} {r : Int × Fleetmake_Stream} (h : Stream_Odd p0x0 p1x0 p2x0 = some r) : ACall Tryz.prog 44 [.ptr b_0 0, I p1x0, I p2x0] [(b_0, .cells [.list 1 (p0x0.L.map I), I p0x0.at_])] (T0 ([(b_0, .cells [.list 1 (r.2.L.map I), I r.2.at_])]) (I r.1)) := by
  unfold Stream_Odd at h
  refine ACall.lessH ?_
  refine ACall.bodyN Tryz.func44 rfl Tryz.ntmps44 Tryz.results44 rfl rfl ?_
  refine tSR <| rA rfl rfl <| rN <| tS <| tSR <| rM rfl rfl <| bndE h fun v1 e1 h => t_call0 rfl (Stream_Flip_c e1) (CoL.refl _) (.cons .p0 .nil) rfl rfl <| rN <| ATodo.cond rfl (fun hc => ?_) (fun hc => ?_)
  · refine have h := iteT hc h; tSR <| rM rfl rfl <| rM rfl rfl <| ARun.qv (q_subw rfl rfl) rfl <| rM rfl rfl <| ARun.qv (q_addw rfl rfl) rfl <| rM rfl rfl <| rM rfl rfl <| n_buildSliceL (xs := ([w64 (p1x0 - (1 : Int)), w64 (p2x0 + (1 : Int)), p1x0, p2x0, (-1099511627776 : Int), (1099511627776 : Int)]).map I) rfl rfl rfl rfl rfl rfl <| bndE h fun v2 e2 h => t_call0 rfl (Stream_Pick_c e2) (CoL.refl _) (.cons .p0 .nil) rfl rfl <| rA rfl rfl <| rN <| ATodo.ret <| ?_
    obtain rfl := Option.some.inj h
    exact ImpX.here ⟨_, .cons (.tmp _ _ rfl) .nil, _, .cons .p0 .nil, ⟨rfl, rfl⟩⟩
  · refine have h := iteFb hc h; tK <| tSR <| rM rfl rfl <| rM rfl rfl <| rM rfl rfl <| bndE h fun v3 e3 h => t_call0 rfl (Stream_Range_c e3) (CoL.refl _) (.cons .p0 .nil) rfl rfl <| rA rfl rfl <| rN <| ATodo.ret <| ?_
    obtain rfl := Option.some.inj h
    exact ImpX.here ⟨_, .cons (.tmp _ _ rfl) .nil, _, .cons .p0 .nil, ⟨rfl, rfl⟩⟩

set_option maxHeartbeats 4000000 in
theorem Stream_Version_c [GI : GTab] {b_0 : Bk} {p0x0 : Fleetmake_Stream} {r : Version × Fleetmake_Stream} (h : Stream_Version p0x0 = some r) : ACall Tryz.prog 43 [.ptr b_0 0] [(b_0, .cells [.list 1 (p0x0.L.map I), I p0x0.at_])] (T0 ([(b_0, .cells [.list 1 (r.2.L.map I), I r.2.at_])]) (.agg [I r.1.Major, I r.1.Minor, I r.1.Patch])) := by
  unfold Stream_Version at h
  refine ACall.lessH ?_
  refine ACall.bodyN Tryz.func43 rfl Tryz.ntmps43 Tryz.results43 rfl rfl ?_
  refine tSR <| n_alloc rfl rfl rfl rfl fun b1 => rN <| tSR <| rM rfl rfl <| bndE h fun v2 e1 h => t_call0 rfl (Stream_RightVersion_c e1) (CoL.refl _) (.cons .p1 .nil) rfl rfl <| n_alloc rfl rfl rfl rfl fun b3 => n_store_ptr rfl rfl rfl rfl .p0 rfl rfl <| rN <| tS <| tSR <| rM rfl rfl <| bndE h fun v4 e2 h => t_call0 rfl (Stream_Flip_c e2) (CoL.refl _) (.cons .p1 .nil) rfl rfl <| rN <| ATodo.cut (fun σ' => ∃ (l5 : List Int) (n6 : Int) (n7 : Int) (n8 : Int), Stream_Version_j1 v2 l5 n6 n7 n8 = some r ∧ σ' = ⟨15, [(2, .ptr b1 0), (3, .ptr b3 0)], [(b_0, .cells [.list 1 (l5.map I), I n6]), (b1, .cells [I (0 : Int), I (0 : Int), I (0 : Int)]), (b3, .cells [I v2.1.Major, I n7, I n8])]⟩) ?_ ?_
  · refine ATodo.cond rfl (fun hc => ?_) (fun hc => ?_)
    · exact have h := iteT hc h; tSR <| rM rfl rfl <| bndE h fun v9 e3 h => t_call0 rfl (Stream_Odd_c e3) (CoL.refl _) (.cons .p0 .nil) rfl rfl <| rF rfl rfl rfl <| n_store_ptr rfl rfl rfl rfl .p1 rfl rfl <| rN <| tR <| rM rfl rfl <| bndE h fun v10 e4 h => t_call0 rfl (Stream_Odd_c e4) (CoL.refl _) (.cons .p0 .nil) rfl rfl <| rF rfl rfl rfl <| n_store_ptr rfl rfl rfl rfl .p1 rfl rfl <| rN <| ATodo.stop <| ImpX.lq [0, 1, 0] ⟨v10.2.L, v10.2.at_, v10.1, v9.1, h, rfl⟩ rfl rfl
    · exact have h := iteFb hc h; tK <| ATodo.stop <| ImpX.lq [0, 1, 0] ⟨v4.2.L, v4.2.at_, v2.1.Minor, v2.1.Patch, h, rfl⟩ rfl rfl
  · rintro σ' ⟨l5, n6, n7, n8, h, rfl⟩
    unfold Stream_Version_j1 at h
    refine tSR <| ARun.qv (q_load_ptr_all rfl rfl .p2 rfl) rfl <| n_store_ptr rfl rfl rfl rfl .p1 rfl rfl <| rN <| ATodo.ret <| ?_
    obtain rfl := Option.some.inj h
    exact ImpX.here ⟨_, .cons (.all _ _ _ _ _ _ rfl .p1 TUnder.h TInfo.h rfl rfl) .nil, _, .cons .p0 .nil, ⟨rfl, rfl⟩⟩

set_option maxHeartbeats 4000000 in
theorem Stream_Campaign_c [GI : GTab] {b_0 : Bk} {p0x0 : Fleetmake_Stream} {r : Campaign × Fleetmake_Stream} (h : Stream_Campaign p0x0 = some r) : ACall Tryz.prog 6 [.ptr b_0 0] [(b_0, .cells [.list 1 (p0x0.L.map I), I p0x0.at_])] (T0 ([(b_0, .cells [.list 1 (r.2.L.map I), I r.2.at_])]) (.agg [.str r.1.Key, I r.1.Target.Major, I r.1.Target.Minor, I r.1.Target.Patch, I r.1.At, .list 4 (r.1.Waves.map Wave.av), I r.1.Hours.From, I r.1.Hours.To, I r.1.Room])) := by
  unfold Stream_Campaign at h
  refine ACall.lessH ?_
  refine ACall.bodyN Tryz.func6 rfl Tryz.ntmps6 Tryz.results6 rfl rfl ?_
  refine tSR <| n_alloc rfl rfl rfl rfl fun b1 => rN <| tSR <| rM rfl rfl <| bndE h fun v2 e1 h => t_call1 rfl (Stream_RightCampaign_c e1) (CoL.refl _) (.cons .p1 .nil) (fun _ => rfl) rfl fun b3 => n_alloc rfl rfl rfl rfl fun b4 => n_store_ptr rfl rfl rfl rfl .p0 rfl rfl <| rN <| tS <| tSR <| rM rfl rfl <| bndE h fun v5 e2 h => t_call0 rfl (Stream_Flip_c e2) (CoL.refl _) (.cons .p1 .nil) rfl rfl <| rN <| ATodo.cut (fun σ' => ∃ (b13 : Bk) (l6 : List Int) (n7 : Int) (q8 : Str) (n9 : Int) (n10 : Int) (n11 : Int) (n12 : Int) (l14 : List Wave) (n15 : Int) (n16 : Int) (n17 : Int), Stream_Campaign_j1 l6 n7 q8 n9 n10 n11 n12 l14 n15 n16 n17 = some r ∧ σ' = ⟨54, [(2, .ptr b1 0), (3, .ptr b4 0)], [(b_0, .cells [.list 1 (l6.map I), I n7]), (b1, .cells [.str [], I (0 : Int), I (0 : Int), I (0 : Int), I (0 : Int), .nil, I (0 : Int), I (0 : Int), I (0 : Int)]), (b4, .cells [.str q8, I n9, I n10, I n11, I n12, .sl 4 b13 0 l14.length, I n15, I n16, I n17]), (b13, .arr 4 (l14.map Wave.av))]⟩) ?_ ?_
  · refine ATodo.cond rfl (fun hc => ?_) (fun hc => ?_)
    · refine have h := iteT hc h; tSR <| rM rfl rfl <| bndE h fun v18 e3 h => t_call0 rfl (Stream_Next_c e3) (CoL.refl _) (.cons .p0 .nil) rfl rfl <| rN <| ATodo.block <| tSR <| ARun.qv (q_eql rfl rfl) rfl <| rA rfl rfl <| rN <| ATodo.cut (fun σ' => ∃ (b26 : Bk) (l19 : List Int) (n20 : Int) (q21 : Str) (n22 : Int) (n23 : Int) (n24 : Int) (n25 : Int) (l27 : List Wave) (n28 : Int) (n29 : Int) (n30 : Int), Stream_Campaign_j2 l19 n20 q21 n22 n23 n24 n25 l27 n28 n29 n30 = some r ∧ σ' = ⟨54, [(2, .ptr b1 0), (3, .ptr b4 0)], [(b_0, .cells [.list 1 (l19.map I), I n20]), (b1, .cells [.str [], I (0 : Int), I (0 : Int), I (0 : Int), I (0 : Int), .nil, I (0 : Int), I (0 : Int), I (0 : Int)]), (b4, .cells [.str q21, I n22, I n23, I n24, I n25, .sl 4 b26 0 l27.length, I n28, I n29, I n30]), (b26, .arr 4 (l27.map Wave.av))]⟩) ?_ ?_
      · refine ATodo.cond_d rfl (fun hc => ?_) (fun hc => ?_)
        · exact have h := iteT hc h; tR <| rM rfl rfl <| n_buildSliceL (xs := ([([] : Str), ([65] : Str)]).map AV.str) rfl rfl rfl rfl rfl rfl <| bndE h fun v31 e4 h => t_call0 rfl (Stream_Some_c e4) (CoL.refl _) (.cons .p0 .nil) rfl rfl <| rF rfl rfl rfl <| n_store_ptr rfl rfl rfl rfl .p1 rfl rfl <| rN <| ATodo.stop <| ImpX.lq [0, 2, 0, 0] ⟨b3, v31.2.L, v31.2.at_, v31.1, v2.1.Target.Major, v2.1.Target.Minor, v2.1.Target.Patch, v2.1.At, v2.1.Waves, v2.1.Hours.From, v2.1.Hours.To, v2.1.Room, h, rfl⟩ rfl rfl
        · refine have h := iteF hc h; tSR <| ARun.qv (q_eql rfl rfl) rfl <| rA rfl rfl <| rN <| ATodo.cut (fun σ' => ∃ (b38 : Bk) (l32 : List Int) (n33 : Int) (n34 : Int) (n35 : Int) (n36 : Int) (n37 : Int) (l39 : List Wave) (n40 : Int) (n41 : Int) (n42 : Int), Stream_Campaign_j3 v2 l32 n33 n34 n35 n36 n37 l39 n40 n41 n42 = some r ∧ σ' = ⟨54, [(2, .ptr b1 0), (3, .ptr b4 0)], [(b_0, .cells [.list 1 (l32.map I), I n33]), (b1, .cells [.str [], I (0 : Int), I (0 : Int), I (0 : Int), I (0 : Int), .nil, I (0 : Int), I (0 : Int), I (0 : Int)]), (b4, .cells [.str v2.1.Key, I n34, I n35, I n36, I n37, .sl 4 b38 0 l39.length, I n40, I n41, I n42]), (b38, .arr 4 (l39.map Wave.av))]⟩) ?_ ?_
          · refine ATodo.cond_d rfl (fun hc => ?_) (fun hc => ?_)
            · exact have h := iteT hc h; tR <| rM rfl rfl <| bndE h fun v43 e5 h => t_call0 rfl (Stream_Version_c e5) (CoL.refl _) (.cons .p0 .nil) rfl rfl <| rF rfl rfl rfl <| n_store_ptr rfl rfl rfl rfl .p1 rfl rfl <| rN <| ATodo.stop <| ImpX.lq [0, 2, 0, 0] ⟨b3, v43.2.L, v43.2.at_, v43.1.Major, v43.1.Minor, v43.1.Patch, v2.1.At, v2.1.Waves, v2.1.Hours.From, v2.1.Hours.To, v2.1.Room, h, rfl⟩ rfl rfl
            · refine have h := iteF hc h; tSR <| ARun.qv (q_eql rfl rfl) rfl <| rA rfl rfl <| rN <| ATodo.cut (fun σ' => ∃ (b47 : Bk) (l44 : List Int) (n45 : Int) (n46 : Int) (l48 : List Wave) (n49 : Int) (n50 : Int) (n51 : Int), Stream_Campaign_j4 v2 l44 n45 n46 l48 n49 n50 n51 = some r ∧ σ' = ⟨54, [(2, .ptr b1 0), (3, .ptr b4 0)], [(b_0, .cells [.list 1 (l44.map I), I n45]), (b1, .cells [.str [], I (0 : Int), I (0 : Int), I (0 : Int), I (0 : Int), .nil, I (0 : Int), I (0 : Int), I (0 : Int)]), (b4, .cells [.str v2.1.Key, I v2.1.Target.Major, I v2.1.Target.Minor, I v2.1.Target.Patch, I n46, .sl 4 b47 0 l48.length, I n49, I n50, I n51]), (b47, .arr 4 (l48.map Wave.av))]⟩) ?_ ?_
              · refine ATodo.cond_d rfl (fun hc => ?_) (fun hc => ?_)
                · exact have h := iteT hc h; tR <| rM rfl rfl <| bndE h fun v52 e6 h => t_call0 rfl (Stream_Odd_c e6) (CoL.refl _) (.cons .p0 .nil) rfl rfl <| rF rfl rfl rfl <| n_store_ptr rfl rfl rfl rfl .p1 rfl rfl <| rN <| ATodo.stop <| ImpX.lq [0, 2, 0, 0] ⟨b3, v52.2.L, v52.2.at_, v52.1, v2.1.Waves, v2.1.Hours.From, v2.1.Hours.To, v2.1.Room, h, rfl⟩ rfl rfl
                · refine have h := iteF hc h; tSR <| ARun.qv (q_eql rfl rfl) rfl <| rA rfl rfl <| rN <| ATodo.cut (fun σ' => ∃ (b55 : Bk) (l53 : List Int) (n54 : Int) (l56 : List Wave) (n57 : Int) (n58 : Int) (n59 : Int), Stream_Campaign_j5 v2 l53 n54 l56 n57 n58 n59 = some r ∧ σ' = ⟨54, [(2, .ptr b1 0), (3, .ptr b4 0)], [(b_0, .cells [.list 1 (l53.map I), I n54]), (b1, .cells [.str [], I (0 : Int), I (0 : Int), I (0 : Int), I (0 : Int), .nil, I (0 : Int), I (0 : Int), I (0 : Int)]), (b4, .cells [.str v2.1.Key, I v2.1.Target.Major, I v2.1.Target.Minor, I v2.1.Target.Patch, I v2.1.At, .sl 4 b55 0 l56.length, I n57, I n58, I n59]), (b55, .arr 4 (l56.map Wave.av))]⟩) ?_ ?_
                  · refine ATodo.cond_d rfl (fun hc => ?_) (fun hc => ?_)
                    · refine have h := iteT hc h; bndE h fun v60 e7 h => bndE h fun v61 e8 h => bndE h fun v62 e9 h => bndE h fun v63 e10 h => ATodo.regionT (id := 12) (A := [0, 1, 0, 4, 0, 28, 0, 124, 0, 508, 1020, 2044, 4095, 8191, 16383]) (H0 := [(b_0, .cells [.list 1 (v18.2.L.map I), I v18.2.at_])]) (HH := fun β => [(b_0, .cells [.list 1 (v63.2.L.map I), I v63.2.at_]), (b4, .cells [.str v2.1.Key, I v2.1.Target.Major, I v2.1.Target.Minor, I v2.1.Target.Patch, I v2.1.At, .sl 4 b3 0 v2.1.Waves.length, I v2.1.Hours.From, I v2.1.Hours.To, I v2.1.Room]), (b3, .arr 4 (v2.1.Waves.map Wave.av)), (b1, .cells [.str [], I (0 : Int), I (0 : Int), I (0 : Int), I (0 : Int), .nil, I (0 : Int), I (0 : Int), I (0 : Int)])]) 12 mixed rfl (by kernel_rfl) (by kernel_rfl) [⟨none, some 3, [], fun _ => (b_0, .cells [.list 1 (v18.2.L.map I), I v18.2.at_]), none⟩, ⟨some 3, some 5, [], fun _ => (b_0, .cells [.list 1 (v60.2.L.map I), I v60.2.at_]), none⟩, ⟨some 5, some 7, [], fun _ => (b_0, .cells [.list 1 (v61.2.L.map I), I v61.2.at_]), none⟩, ⟨some 7, some 9, [], fun _ => (b_0, .cells [.list 1 (v62.2.L.map I), I v62.2.at_]), none⟩, ⟨some 9, none, [], fun _ => (b_0, .cells [.list 1 (v63.2.L.map I), I v63.2.at_]), none⟩] [] rfl (by kernel_rfl) rfl (.cons .p0 .nil) (fun _ => rfl) <| AT.am 3 rfl rfl <| AM.qv (n_field_ptr rfl rfl) rfl <| AM.qv (q_load_ptr rfl rfl .p0 rfl) rfl <| AM.qv (q_move rfl) rfl <| AM.nil <| AT.runS (av := I v60.1) (Ti := [(b_0, .cells [.list 1 (v18.2.L.map I), I v18.2.at_])]) (Pi := [(b_0, .cells [.list 1 (v60.2.L.map I), I v60.2.at_])]) (fun _ => rfl) (fun _ => rfl) (fun _ => rfl) rfl rfl rfl ?_ ?_
                      · exact t_call0 rfl (Stream_Odd_c e7) (CoL.refl _) (.cons .p0 .nil) rfl rfl <| ARun.nil ⟨_, rfl, rfl⟩
                      refine AT.am 1 rfl rfl <| AM.qv (q_move rfl) rfl <| AM.nil <| AT.runS (av := I v61.1) (Ti := [(b_0, .cells [.list 1 (v60.2.L.map I), I v60.2.at_])]) (Pi := [(b_0, .cells [.list 1 (v61.2.L.map I), I v61.2.at_])]) (fun _ => rfl) (fun _ => rfl) (fun _ => rfl) rfl rfl rfl ?_ ?_
                      · exact t_call0 rfl (Stream_Odd_c e8) (CoL.refl _) (.cons .p0 .nil) rfl rfl <| ARun.nil ⟨_, rfl, rfl⟩
                      refine AT.am 1 rfl rfl <| AM.qv (q_move rfl) rfl <| AM.nil <| AT.runS (av := I v62.1) (Ti := [(b_0, .cells [.list 1 (v61.2.L.map I), I v61.2.at_])]) (Pi := [(b_0, .cells [.list 1 (v62.2.L.map I), I v62.2.at_])]) (fun _ => rfl) (fun _ => rfl) (fun _ => rfl) rfl rfl rfl ?_ ?_
                      · exact t_call0 rfl (Stream_Odd_c e9) (CoL.refl _) (.cons .p0 .nil) rfl rfl <| ARun.nil ⟨_, rfl, rfl⟩
                      refine AT.am 1 rfl rfl <| AM.qv (q_move rfl) rfl <| AM.nil <| AT.runS (av := I v63.1) (Ti := [(b_0, .cells [.list 1 (v62.2.L.map I), I v62.2.at_])]) (Pi := [(b_0, .cells [.list 1 (v63.2.L.map I), I v63.2.at_])]) (fun _ => rfl) (fun _ => rfl) (fun _ => rfl) rfl rfl rfl ?_ ?_
                      · exact t_call0 rfl (Stream_Odd_c e10) (CoL.refl _) (.cons .p0 .nil) rfl rfl <| ARun.nil ⟨_, rfl, rfl⟩
                      exact AT.am 2 rfl rfl <| AM.qv (n_build rfl rfl rfl rfl rfl) rfl <| AM.buildSliceL (xs := ([(⟨v60.1, v61.1, v62.1, v63.1⟩ : Wave)]).map Wave.av) rfl rfl rfl rfl rfl rfl <| AM.nil <| AT.nilN (fun _ => rfl) fun β => bndE h fun l64 e11 h => t_append (g := Wave.av) rfl rfl rfl rfl rfl rfl rfl rfl (.list _) e11 (fun _ => .p2) rfl fun b65 => rF rfl rfl rfl <| n_store_ptr rfl rfl rfl rfl .p1 rfl rfl <| rN <| ATodo.stop <| ImpX.lq [0, 2, 0, 0] ⟨b65, v63.2.L, v63.2.at_, l64, v2.1.Hours.From, v2.1.Hours.To, v2.1.Room, h, rfl⟩ rfl rfl
                    · refine have h := iteF hc h; tSR <| ARun.qv (q_eql rfl rfl) rfl <| rA rfl rfl <| rN <| ATodo.cut (fun σ' => ∃ (l66 : List Int) (n67 : Int) (n68 : Int) (n69 : Int) (n70 : Int), Stream_Campaign_j6 v2 l66 n67 n68 n69 n70 = some r ∧ σ' = ⟨54, [(2, .ptr b1 0), (3, .ptr b4 0)], [(b_0, .cells [.list 1 (l66.map I), I n67]), (b1, .cells [.str [], I (0 : Int), I (0 : Int), I (0 : Int), I (0 : Int), .nil, I (0 : Int), I (0 : Int), I (0 : Int)]), (b4, .cells [.str v2.1.Key, I v2.1.Target.Major, I v2.1.Target.Minor, I v2.1.Target.Patch, I v2.1.At, .sl 4 b3 0 v2.1.Waves.length, I n68, I n69, I n70]), (b3, .arr 4 (v2.1.Waves.map Wave.av))]⟩) ?_ ?_
                      · refine ATodo.cond_d rfl (fun hc => ?_) (fun hc => ?_)
                        · exact have h := iteT hc h; tR <| rM rfl rfl <| bndE h fun v71 e12 h => t_call0 rfl (Stream_Odd_c e12) (CoL.refl _) (.cons .p0 .nil) rfl rfl <| rM rfl rfl <| bndE h fun v72 e13 h => t_call0 rfl (Stream_Odd_c e13) (CoL.refl _) (.cons .p0 .nil) rfl rfl <| ARun.qv (n_build rfl rfl rfl rfl rfl) rfl <| rF rfl rfl rfl <| n_store_ptr rfl rfl rfl rfl .p1 rfl rfl <| rN <| ATodo.stop <| ImpX.lq [0, 2, 0, 0] ⟨v72.2.L, v72.2.at_, v71.1, v72.1, v2.1.Room, h, rfl⟩ rfl rfl
                        · exact have h := iteF hc h; tR <| rM rfl rfl <| bndE h fun v73 e14 h => t_call0 rfl (Stream_Odd_c e14) (CoL.refl _) (.cons .p0 .nil) rfl rfl <| rF rfl rfl rfl <| n_store_ptr rfl rfl rfl rfl .p1 rfl rfl <| rN <| ATodo.stop <| ImpX.lq [0, 2, 0, 0] ⟨v73.2.L, v73.2.at_, v2.1.Hours.From, v2.1.Hours.To, v73.1, h, rfl⟩ rfl rfl
                      · rintro σ' ⟨l66, n67, n68, n69, n70, h, rfl⟩
                        unfold Stream_Campaign_j6 at h
                        exact ATodo.stop <| ImpX.lq [0, 0, 0, 0] ⟨b3, l66, n67, v2.1.Waves, n68, n69, n70, h, rfl⟩ rfl rfl
                  · rintro σ' ⟨b55, l53, n54, l56, n57, n58, n59, h, rfl⟩
                    unfold Stream_Campaign_j5 at h
                    exact ATodo.stop <| ImpX.lq [0, 0, 0, 0] ⟨b55, l53, n54, v2.1.At, l56, n57, n58, n59, h, rfl⟩ rfl rfl
              · rintro σ' ⟨b47, l44, n45, n46, l48, n49, n50, n51, h, rfl⟩
                unfold Stream_Campaign_j4 at h
                exact ATodo.stop <| ImpX.lq [0, 0, 0, 0] ⟨b47, l44, n45, v2.1.Target.Major, v2.1.Target.Minor, v2.1.Target.Patch, n46, l48, n49, n50, n51, h, rfl⟩ rfl rfl
          · rintro σ' ⟨b38, l32, n33, n34, n35, n36, n37, l39, n40, n41, n42, h, rfl⟩
            unfold Stream_Campaign_j3 at h
            exact ATodo.stop <| ImpX.lq [0, 0, 0, 0] ⟨b38, l32, n33, v2.1.Key, n34, n35, n36, n37, l39, n40, n41, n42, h, rfl⟩ rfl rfl
      · rintro σ' ⟨b26, l19, n20, q21, n22, n23, n24, n25, l27, n28, n29, n30, h, rfl⟩
        unfold Stream_Campaign_j2 at h
        exact ATodo.blk <| ATodo.stop <| ImpX.lq [0, 0, 0, 0] ⟨b26, l19, n20, q21, n22, n23, n24, n25, l27, n28, n29, n30, h, rfl⟩ rfl rfl
    · exact have h := iteFb hc h; tK <| ATodo.stop <| ImpX.lq [0, 2, 0, 0] ⟨b3, v5.2.L, v5.2.at_, v2.1.Key, v2.1.Target.Major, v2.1.Target.Minor, v2.1.Target.Patch, v2.1.At, v2.1.Waves, v2.1.Hours.From, v2.1.Hours.To, v2.1.Room, h, rfl⟩ rfl rfl
  · rintro σ' ⟨b13, l6, n7, q8, n9, n10, n11, n12, l14, n15, n16, n17, h, rfl⟩
    unfold Stream_Campaign_j1 at h
    refine tSR <| ARun.qv (q_load_ptr_all rfl rfl .p2 rfl) rfl <| n_store_ptr rfl rfl rfl rfl .p1 rfl rfl <| rN <| ATodo.ret <| ?_
    obtain rfl := Option.some.inj h
    exact ImpX.freeze .p3 <| ImpX.coBox (j := 5) .p1 rfl (Co.froT .p3) rfl rfl <| ImpX.here ⟨_, .cons (.all _ _ _ _ _ _ rfl .p1 TUnder.h TInfo.h rfl rfl) .nil, _, .cons .p0 .nil, ⟨rfl, rfl⟩⟩

set_option maxHeartbeats 4000000 in
theorem Stream_RightFleet_c [GI : GTab] {b_0 : Bk} {p0x0 : Fleetmake_Stream} {p1x0 : Int} {r : (List DeviceS) × Fleetmake_Stream} (h : Stream_RightFleet p0x0 p1x0 = some r) : ACall Tryz.prog 45 [.ptr b_0 0, I p1x0] [(b_0, .cells [.list 1 (p0x0.L.map I), I p0x0.at_])] (T1 (fun d_0 => [(b_0, .cells [.list 1 (r.2.L.map I), I r.2.at_]), (d_0, .arr 7 (r.1.map DeviceS.av))]) (fun d_0 => .sl 7 d_0 0 r.1.length)) := by
  unfold Stream_RightFleet at h
  refine ACall.lessH ?_
  refine ACall.bodyN Tryz.func45 rfl Tryz.ntmps45 Tryz.results45 rfl rfl ?_
  refine tSR <| rA rfl rfl <| rN <| tSR <| rA rfl rfl <| rN <| tS <| tSR <| n_buildSliceL (xs := ([([100, 49] : Str), ([100, 50] : Str), ([100, 51] : Str), ([100, 52] : Str), ([100, 53] : Str), ([100, 54] : Str)]).map AV.str) rfl rfl rfl rfl rfl rfl <| rM rfl rfl <| bndE h fun l1 e1 h => ARun.qv (t_slice_list rfl rfl .none (.some _ _ _ rfl) rfl rfl e1) rfl <| ARun.qv (t_len rfl) rfl <| rM rfl rfl <| rN <| ATodo.block <| ATodo.loopI (fun x : (List Int) × Int × (List DeviceS) × Int => Stream_RightFleet_b1 l1 x.1 x.2.1 x.2.2.1 x.2.2.2) (fun x σ' => ∃ (b9 : Bk), σ' = ⟨36, [(0, .ptr b_0 0), (5, .sl 7 b9 0 x.2.2.1.length), (10, .list 1 (l1.map AV.str)), (11, I (l1.length : Int)), (12, I x.2.2.2)], [(b_0, .cells [.list 1 (x.1.map I), I x.2.1]), (b9, .arr 7 (x.2.2.1.map DeviceS.av))]⟩) h ?_ ?_
  · exact ImpX.arr (s := 5) 7 rfl fun b12 => ImpX.lq [1, 0] ⟨b12, rfl⟩ rfl rfl
  · intro x z1 σ' J1 hmk h hJ1 hA1
    obtain ⟨l7, n8, l10, n11⟩ := x
    obtain ⟨b9, rfl⟩ := hmk
    replace h : Stream_RightFleet_b1 l1 l7 n8 l10 n11 = some z1 := h
    unfold Stream_RightFleet_b1 at h
    refine tSR <| ARun.qv (q_lss rfl rfl) rfl <| rN <| tS <| ATodo.cond_d rfl (fun hc => ?_) (fun hc => ?_)
    · refine have h := iteT hc h; tK <| tS <| ATodo.block <| tSR <| bndE h fun v13 e2 h => ARun.qv (t_index rfl rfl rfl e2 rfl rfl) rfl <| ARun.qv (q_load_rptr rfl rfl rfl) rfl <| rA rfl rfl <| rN <| tSR <| rM rfl rfl <| bndE h fun v14 e3 h => t_call0 rfl (Stream_Flip_c e3) (CoL.refl _) (.cons .p0 .nil) rfl rfl <| ARun.qv (q_not rfl) rfl <| rN <| ATodo.cut (fun σ' => ∃ (b17 : Bk) (l15 : List Int) (n16 : Int) (l18 : List DeviceS), Stream_RightFleet_j1 n11 l15 n16 l18 = some z1 ∧ σ' = ⟨36, [(0, .ptr b_0 0), (5, .sl 7 b17 0 l18.length), (10, .list 1 (l1.map AV.str)), (11, I (l1.length : Int)), (12, I n11)], [(b_0, .cells [.list 1 (l15.map I), I n16]), (b17, .arr 7 (l18.map DeviceS.av))]⟩) ?_ ?_
      · refine ATodo.cond rfl (fun hc => ?_) (fun hc => ?_)
        · exact have h := iteT hc h; tR <| rM rfl rfl <| rM rfl rfl <| rM rfl rfl <| n_buildSliceL (xs := ([([109] : Str), ([109] : Str), ([109] : Str), ([110] : Str)]).map AV.str) rfl rfl rfl rfl rfl rfl <| bndE h fun v19 e4 h => t_call0 rfl (Stream_Some_c e4) (CoL.refl _) (.cons .p0 .nil) rfl rfl <| rM rfl rfl <| n_buildSliceL (xs := ([(1 : Int), (1 : Int), (1 : Int), (2 : Int), (3 : Int)]).map I) rfl rfl rfl rfl rfl rfl <| bndE h fun v20 e5 h => t_call0 rfl (Stream_Pick_c e5) (CoL.refl _) (.cons .p0 .nil) rfl rfl <| rM rfl rfl <| n_buildSliceL (xs := ([(0 : Int), (0 : Int), (5 : Int)]).map I) rfl rfl rfl rfl rfl rfl <| bndE h fun v21 e6 h => t_call0 rfl (Stream_Pick_c e6) (CoL.refl _) (.cons .p0 .nil) rfl rfl <| ARun.qv (n_build rfl rfl rfl rfl rfl) rfl <| ARun.qv (n_build rfl rfl rfl rfl rfl) rfl <| n_buildSliceL (xs := [.agg [.str v13, .str v19.1, .str ([116] : Str), I v20.1, I v21.1, I (0 : Int), .nil]]) rfl rfl rfl rfl rfl rfl <| ARun.ghost <| ImpX.cox (s := 32) (av' := .list 7 (([(⟨v13, v19.1, ([116] : Str), (⟨v20.1, v21.1, (0 : Int)⟩ : Version), []⟩ : DeviceS)] : List DeviceS).map DeviceS.av)) rfl (CoX.listL (.cons .r (.cons .r (.cons .r (.cons .r (.cons .r (.cons .r (.cons .n .nil))))))) rfl rfl) <| ImpX.here <| bndE h fun l22 e7 h => t_append (g := DeviceS.av) rfl rfl rfl rfl rfl rfl rfl rfl (.list _) e7 (fun _ => .p1) rfl fun b23 => rA rfl rfl <| rN <| ATodo.stop <| ImpX.lq [0, 0] ⟨b23, v21.2.L, v21.2.at_, l22, h, rfl⟩ rfl rfl
        · exact have h := iteFb hc h; tK <| ATodo.stop <| ImpX.lq [0, 0] ⟨b9, v14.2.L, v14.2.at_, l10, h, rfl⟩ rfl rfl
      · rintro σ' ⟨b17, l15, n16, l18, h, rfl⟩
        unfold Stream_RightFleet_j1 at h
        refine ATodo.blk <| tR <| ARun.qv (q_addw rfl rfl) rfl <| rM rfl rfl <| rN <| ATodo.stop <| ?_
        obtain rfl := Option.some.inj h
        exact hJ1 _ _ rfl <| ImpX.lq [0, 0] ⟨b17, rfl⟩ rfl rfl
    · refine have h := iteF hc h; ATodo.exit rfl <| have h := outL h hA1; tSR <| rM rfl rfl <| rA rfl rfl <| rN <| ATodo.ret <| ?_
      obtain rfl := Option.some.inj h
      exact ImpX.here ⟨_, .cons (.tmp _ _ rfl) .nil, _, .cons .p0 (.cons .p0 .nil), ⟨b9, rfl, rfl⟩⟩

set_option maxHeartbeats 4000000 in
theorem Stream_Fleet_c [GI : GTab] {b_0 : Bk} {p0x0 : Fleetmake_Stream} {p1x0 : Int} {r : (List DeviceS) × Fleetmake_Stream} (h : Stream_Fleet p0x0 p1x0 = some r) : ACall Tryz.prog 7 [.ptr b_0 0, I p1x0] [(b_0, .cells [.list 1 (p0x0.L.map I), I p0x0.at_])] (T1 (fun d_0 => [(b_0, .cells [.list 1 (r.2.L.map I), I r.2.at_]), (d_0, .arr 7 (r.1.map DeviceS.av))]) (fun d_0 => .sl 7 d_0 0 r.1.length)) := by
  unfold Stream_Fleet at h
  refine ACall.lessH ?_
  refine ACall.bodyN Tryz.func7 rfl Tryz.ntmps7 Tryz.results7 rfl rfl ?_
  refine tSR <| rA rfl rfl <| rN <| tSR <| rM rfl rfl <| rM rfl rfl <| bndE h fun v1 e1 h => t_call1 rfl (Stream_RightFleet_c e1) (CoL.refl _) (.cons .p0 .nil) (fun _ => rfl) rfl fun b2 => rA rfl rfl <| rN <| tS <| tS <| ATodo.cut (fun σ' => ∃ (l3 : List Int) (n4 : Int) (c5 : Bool), Stream_Fleet_j1 v1 l3 n4 c5 = some r ∧ σ' = ⟨45, [(0, .ptr b_0 0), (5, .sl 7 b2 0 v1.1.length), (16, .bool c5)], [(b_0, .cells [.list 1 (l3.map I), I n4]), (b2, .arr 7 (v1.1.map DeviceS.av))]⟩) ?_ ?_
  · refine tR <| rM rfl rfl <| ARun.qv (t_len_sl rfl) rfl <| ARun.qv (q_gtr rfl rfl) rfl <| rM rfl rfl <| ARun.guard_dt rfl rfl rfl (fun hc => ?_) (fun hc => ?_)
    · exact have h := iteT hc h; rM rfl rfl <| rY rfl rfl rfl <| bndE h fun v6 e2 h => t_call0 rfl (Stream_Flip_c e2) (CoL.refl _) (.cons .p0 .nil) rfl rfl <| rT rfl rfl rfl <| rN <| ATodo.stop <| ImpX.lq [0, 0] ⟨v6.2.L, v6.2.at_, v6.1, h, rfl⟩ rfl rfl
    · exact have h := iteF hc h; rG rfl rfl rfl rfl <| rE rfl rfl rfl <| rN <| ATodo.stop <| ImpX.lq [0, 0] ⟨v1.2.L, v1.2.at_, false, h, rfl⟩ rfl rfl
  · rintro σ' ⟨l3, n4, c5, h, rfl⟩
    unfold Stream_Fleet_j1 at h
    refine ATodo.cut (fun σ' => ∃ (l7 : List Int) (n8 : Int) (l9 : List DeviceS), Stream_Fleet_j2 l7 n8 l9 = some r ∧ σ' = ⟨45, [(5, .sl 7 b2 0 l9.length)], [(b_0, .cells [.list 1 (l7.map I), I n8]), (b2, .arr 7 (l9.map DeviceS.av))]⟩) ?_ ?_
    · refine ATodo.cond rfl (fun hc => ?_) (fun hc => ?_)
      · exact have h := iteT hc h; tSR <| rM rfl rfl <| rM rfl rfl <| rM rfl rfl <| ARun.qv (t_len_sl rfl) rfl <| bndE h fun v10 e3 h => t_call0 rfl (Stream_Next_c e3) (CoL.refl _) (.cons .p0 .nil) rfl rfl <| bndE h fun v11 e4 h => ARun.qv (t_index_sl rfl rfl rfl e4) rfl <| rA rfl rfl <| rN <| tR <| rM rfl rfl <| rM rfl rfl <| rM rfl rfl <| rM rfl rfl <| rM rfl rfl <| ARun.qv (q_nilCheck_aptr rfl) rfl <| ARun.qv (t_field_aptr rfl rfl) rfl <| ARun.qv (t_load_aptr (g := DeviceS.av) rfl rfl (.inl .p1) e4 rfl) rfl <| n_buildSliceL (xs := ([v11.Key, ([] : Str), ([100, 49] : Str)]).map AV.str) rfl rfl rfl rfl rfl rfl <| bndE h fun v12 e5 h => t_call0 rfl (Stream_Some_c e5) (CoL.refl _) (.cons .p0 .nil) rfl rfl <| rM rfl rfl <| n_buildSliceL (xs := ([([109] : Str), ([] : Str)]).map AV.str) rfl rfl rfl rfl rfl rfl <| bndE h fun v13 e6 h => t_call0 rfl (Stream_Some_c e6) (CoL.refl _) (.cons .p0 .nil) rfl rfl <| rM rfl rfl <| bndE h fun v14 e7 h => t_call0 rfl (Stream_Version_c e7) (CoL.refl _) (.cons .p0 .nil) rfl rfl <| ARun.qv (q_nilCheck_aptr rfl) rfl <| ARun.qv (t_field_aptr rfl rfl) rfl <| t_store_aptr1 (g := DeviceS.av) (el' := (⟨v12.1, v11.Model, v11.Tenant, v11.Firmware, v11.Tags⟩ : DeviceS)) rfl rfl rfl rfl e4 rfl .p1 rfl <| ARun.ghost <| ImpX.eqs (s := 5) (av' := .sl 7 b2 0 (v1.1.set v10.1.toNat (⟨v12.1, v11.Model, v11.Tenant, v11.Firmware, v11.Tags⟩ : DeviceS)).length) rfl (by rw [List.length_set]) <| ImpX.here <| ARun.ghost <| ImpX.eqs (s := 17) (av' := .sl 7 b2 0 (v1.1.set v10.1.toNat (⟨v12.1, v11.Model, v11.Tenant, v11.Firmware, v11.Tags⟩ : DeviceS)).length) rfl (by rw [List.length_set]) <| ImpX.here <| ARun.ghost <| ImpX.eqs (s := 19) (av' := .sl 7 b2 0 (v1.1.set v10.1.toNat (⟨v12.1, v11.Model, v11.Tenant, v11.Firmware, v11.Tags⟩ : DeviceS)).length) rfl (by rw [List.length_set]) <| ImpX.here <| ARun.qv (q_nilCheck_aptr rfl) rfl <| ARun.qv (t_field_aptr rfl rfl) rfl <| t_store_aptr1 (g := DeviceS.av) (el' := (⟨v12.1, v13.1, v11.Tenant, v11.Firmware, v11.Tags⟩ : DeviceS)) rfl rfl rfl rfl (idx_set_self (v := (⟨v12.1, v11.Model, v11.Tenant, v11.Firmware, v11.Tags⟩ : DeviceS)) e4) rfl .p1 rfl <| ARun.ghost <| ImpX.eqs (s := 5) (av' := .sl 7 b2 0 ((v1.1.set v10.1.toNat (⟨v12.1, v11.Model, v11.Tenant, v11.Firmware, v11.Tags⟩ : DeviceS)).set v10.1.toNat (⟨v12.1, v13.1, v11.Tenant, v11.Firmware, v11.Tags⟩ : DeviceS)).length) rfl (by rw [List.length_set]) <| ImpX.here <| ARun.ghost <| ImpX.eqs (s := 17) (av' := .sl 7 b2 0 ((v1.1.set v10.1.toNat (⟨v12.1, v11.Model, v11.Tenant, v11.Firmware, v11.Tags⟩ : DeviceS)).set v10.1.toNat (⟨v12.1, v13.1, v11.Tenant, v11.Firmware, v11.Tags⟩ : DeviceS)).length) rfl (by rw [List.length_set]) <| ImpX.here <| ARun.ghost <| ImpX.eqs (s := 19) (av' := .sl 7 b2 0 ((v1.1.set v10.1.toNat (⟨v12.1, v11.Model, v11.Tenant, v11.Firmware, v11.Tags⟩ : DeviceS)).set v10.1.toNat (⟨v12.1, v13.1, v11.Tenant, v11.Firmware, v11.Tags⟩ : DeviceS)).length) rfl (by rw [List.length_set]) <| ImpX.here <| ARun.qv (q_nilCheck_aptr rfl) rfl <| ARun.qv (t_field_aptr rfl rfl) rfl <| t_store_aptr1 (g := DeviceS.av) (el' := (⟨v12.1, v13.1, v11.Tenant, v14.1, v11.Tags⟩ : DeviceS)) rfl rfl rfl rfl (idx_set_self (v := (⟨v12.1, v13.1, v11.Tenant, v11.Firmware, v11.Tags⟩ : DeviceS)) (idx_set_self (v := (⟨v12.1, v11.Model, v11.Tenant, v11.Firmware, v11.Tags⟩ : DeviceS)) e4)) rfl .p1 rfl <| ARun.ghost <| ImpX.eqs (s := 5) (av' := .sl 7 b2 0 (((v1.1.set v10.1.toNat (⟨v12.1, v11.Model, v11.Tenant, v11.Firmware, v11.Tags⟩ : DeviceS)).set v10.1.toNat (⟨v12.1, v13.1, v11.Tenant, v11.Firmware, v11.Tags⟩ : DeviceS)).set v10.1.toNat (⟨v12.1, v13.1, v11.Tenant, v14.1, v11.Tags⟩ : DeviceS)).length) rfl (by rw [List.length_set]) <| ImpX.here <| ARun.ghost <| ImpX.eqs (s := 17) (av' := .sl 7 b2 0 (((v1.1.set v10.1.toNat (⟨v12.1, v11.Model, v11.Tenant, v11.Firmware, v11.Tags⟩ : DeviceS)).set v10.1.toNat (⟨v12.1, v13.1, v11.Tenant, v11.Firmware, v11.Tags⟩ : DeviceS)).set v10.1.toNat (⟨v12.1, v13.1, v11.Tenant, v14.1, v11.Tags⟩ : DeviceS)).length) rfl (by rw [List.length_set]) <| ImpX.here <| ARun.ghost <| ImpX.eqs (s := 19) (av' := .sl 7 b2 0 (((v1.1.set v10.1.toNat (⟨v12.1, v11.Model, v11.Tenant, v11.Firmware, v11.Tags⟩ : DeviceS)).set v10.1.toNat (⟨v12.1, v13.1, v11.Tenant, v11.Firmware, v11.Tags⟩ : DeviceS)).set v10.1.toNat (⟨v12.1, v13.1, v11.Tenant, v14.1, v11.Tags⟩ : DeviceS)).length) rfl (by rw [List.length_set]) <| ImpX.here <| rN <| ATodo.stop <| ImpX.lq [0, 0] ⟨v14.2.L, v14.2.at_, ((v1.1.set v10.1.toNat (⟨v12.1, v11.Model, v11.Tenant, v11.Firmware, v11.Tags⟩ : DeviceS)).set v10.1.toNat (⟨v12.1, v13.1, v11.Tenant, v11.Firmware, v11.Tags⟩ : DeviceS)).set v10.1.toNat (⟨v12.1, v13.1, v11.Tenant, v14.1, v11.Tags⟩ : DeviceS), h, rfl⟩ rfl rfl
      · exact have h := iteFb hc h; tK <| ATodo.stop <| ImpX.lq [0, 0] ⟨l3, n4, v1.1, h, rfl⟩ rfl rfl
    · rintro σ' ⟨l7, n8, l9, h, rfl⟩
      unfold Stream_Fleet_j2 at h
      refine tSR <| rM rfl rfl <| rA rfl rfl <| rN <| ATodo.ret <| ?_
      obtain rfl := Option.some.inj h
      exact ImpX.here ⟨_, .cons (.tmp _ _ rfl) .nil, _, .cons .p0 (.cons .p0 .nil), ⟨b2, rfl, rfl⟩⟩

set_option maxHeartbeats 4000000 in
theorem Q_sign_c [GI : GTab] {p0x0 : Int} {r : Int} (h : Q_sign p0x0 = r) : Pu Tryz.prog 107 [I p0x0] (I r) := by
  unfold Q_sign at h
  refine ACall.bodyN Tryz.func107 rfl Tryz.ntmps107 Tryz.results107 rfl rfl ?_
  refine tSR <| rA rfl rfl <| rN <| tS <| ATodo.block <| tSR <| rM rfl rfl <| ARun.qv (q_lss rfl rfl) rfl <| rA rfl rfl <| rN <| ATodo.cond_d rfl (fun hc => ?_) (fun hc => ?_)
  · refine have h := iteT hc h; tSR <| rA rfl rfl <| rN <| ATodo.ret <| ?_
    obtain rfl := h
    exact ImpX.here ⟨_, .cons (.tmp _ _ rfl) .nil, rfl⟩
  · refine have h := iteF hc h; tSR <| rM rfl rfl <| ARun.qv (q_gtr rfl rfl) rfl <| rA rfl rfl <| rN <| ATodo.cond_d rfl (fun hc => ?_) (fun hc => ?_)
    · refine have h := iteT hc h; tSR <| rA rfl rfl <| rN <| ATodo.ret <| ?_
      obtain rfl := h
      exact ImpX.here ⟨_, .cons (.tmp _ _ rfl) .nil, rfl⟩
    · refine have h := iteF hc h; tK <| ATodo.blk <| tSR <| rA rfl rfl <| rN <| ATodo.ret <| ?_
      obtain rfl := h
      exact ImpX.here ⟨_, .cons (.tmp _ _ rfl) .nil, rfl⟩

set_option maxHeartbeats 4000000 in
theorem Q_MarkOrder_c [GI : GTab] {p0x0 : MarkS} {p1x0 : MarkS} {r : Int} (h : Q_MarkOrder p0x0 p1x0 = r) : Pu Tryz.prog 48 [.agg [I p0x0.At, .str p0x0.Device, I p0x0.Kind, I p0x0.Version.Major, I p0x0.Version.Minor, I p0x0.Version.Patch], .agg [I p1x0.At, .str p1x0.Device, I p1x0.Kind, I p1x0.Version.Major, I p1x0.Version.Minor, I p1x0.Version.Patch]] (I r) := by
  unfold Q_MarkOrder at h
  refine ACall.bodyN Tryz.func48 rfl Tryz.ntmps48 Tryz.results48 rfl rfl ?_
  refine tSR <| n_box rfl rfl rfl rfl fun b1 => n_box rfl rfl rfl rfl fun b2 => rA rfl rfl <| rN <| tS <| tSR <| rF rfl rfl rfl <| rL rfl rfl .p1 rfl rfl <| rF rfl rfl rfl <| rL rfl rfl .p0 rfl rfl <| ARun.qv (q_neq rfl rfl) rfl <| rN <| ATodo.cond_d rfl (fun hc => ?_) (fun hc => ?_)
  · refine have h := iteT hc h; tSR <| rF rfl rfl rfl <| rL rfl rfl .p1 rfl rfl <| rF rfl rfl rfl <| rL rfl rfl .p0 rfl rfl <| ARun.qv (q_subw rfl rfl) rfl <| r_callp rfl (Q_sign_c rfl) (CoL.refl _) rfl <| rA rfl rfl <| rN <| ATodo.ret <| ?_
    obtain rfl := h
    exact ImpX.here ⟨_, .cons (.tmp _ _ rfl) .nil, rfl⟩
  · refine have h := iteF hc h; tK <| tSR <| rF rfl rfl rfl <| rL rfl rfl .p1 rfl rfl <| rF rfl rfl rfl <| rL rfl rfl .p0 rfl rfl <| r_callp rfl (strings_Compare_c rfl) (CoL.refl _) rfl <| rA rfl rfl <| rN <| ATodo.ret <| ?_
    obtain rfl := h
    exact ImpX.here ⟨_, .cons (.tmp _ _ rfl) .nil, rfl⟩

set_option maxHeartbeats 4000000 in
theorem slices_insertionSortCmpFunc_Mark_c [GI : GTab] {b_0 : Bk} {p0x0 : List MarkS} {p1x0 : Int} {p2x0 : Int} {fnd : MarkS → MarkS → Option Int} {fnd_F : FuncId} [IsFn Tryz.prog fnd_F] {fnd_C : List AV} (fnd_h : ∀ {y0 y1 : _} {u : Int}, fnd y0 y1 = some u → Pu Tryz.prog fnd_F (.agg [I y0.At, .str y0.Device, I y0.Kind, I y0.Version.Major, I y0.Version.Minor, I y0.Version.Patch] :: .agg [I y1.At, .str y1.Device, I y1.Kind, I y1.Version.Major, I y1.Version.Minor, I y1.Version.Patch] ::  fnd_C) (I u)) {r : (List MarkS)} (h : slices_insertionSortCmpFunc_Mark p0x0 p1x0 p2x0 fnd = some r) : ACall Tryz.prog 145 [.sl 6 b_0 0 p0x0.length, I p1x0, I p2x0, .func (.func fnd_F) fnd_C] [(b_0, .arr 6 (p0x0.map MarkS.av))] (T0 ([(b_0, .arr 6 (r.map MarkS.av))]) (.tup [])) := by
  unfold slices_insertionSortCmpFunc_Mark at h
  refine ACall.lessH ?_
  refine ACall.bodyN Tryz.func145 rfl Tryz.ntmps145 Tryz.results145 rfl rfl ?_
  refine tSR <| rM rfl rfl <| ARun.qv (q_addw rfl rfl) rfl <| rA rfl rfl <| rN <| ATodo.block <| ATodo.loopI (fun x : (List MarkS) × Int => slices_insertionSortCmpFunc_Mark_b1 p1x0 p2x0 fnd x.1 x.2) (fun x σ' => σ' = ⟨53, [(0, .sl 6 b_0 0 x.1.length), (1, I p1x0), (2, I p2x0), (3, .func (.func fnd_F) fnd_C), (8, I x.2)], [(b_0, .arr 6 (x.1.map MarkS.av))]⟩) h ?_ ?_
  · exact ImpX.lq [0] rfl rfl rfl
  · intro x z1 σ' J1 hmk h hJ1 hA1
    obtain ⟨l3, n4⟩ := x
    obtain rfl := hmk
    replace h : slices_insertionSortCmpFunc_Mark_b1 p1x0 p2x0 fnd l3 n4 = some z1 := h
    unfold slices_insertionSortCmpFunc_Mark_b1 at h
    refine tS <| tSR <| rM rfl rfl <| rM rfl rfl <| ARun.qv (q_lss rfl rfl) rfl <| rN <| ATodo.cond_d rfl (fun hc => ?_) (fun hc => ?_)
    · refine have h := iteT hc h; tK <| tS <| ATodo.block <| tSR <| rM rfl rfl <| rA rfl rfl <| rN <| ATodo.block <| ATodo.loopI (fun x : (List MarkS) × Int => slices_insertionSortCmpFunc_Mark_b2 p1x0 fnd n4 x.1 x.2) (fun x σ' => σ' = ⟨53, [(0, .sl 6 b_0 0 x.1.length), (1, I p1x0), (2, I p2x0), (3, .func (.func fnd_F) fnd_C), (8, I n4), (9, I x.2)], [(b_0, .arr 6 (x.1.map MarkS.av))]⟩) h ?_ ?_
      · exact ImpX.lq [0] rfl rfl rfl
      · intro x z2 σ' J2 hmk h hJ2 hA2
        obtain ⟨l7, n8⟩ := x
        obtain rfl := hmk
        replace h : slices_insertionSortCmpFunc_Mark_b2 p1x0 fnd n4 l7 n8 = some z2 := h
        unfold slices_insertionSortCmpFunc_Mark_b2 at h
        refine tS <| tS <| ATodo.cut (fun σ' => ∃ (c9 : Bool), slices_insertionSortCmpFunc_Mark_j1 n4 l7 n8 c9 = some z2 ∧ σ' = ⟨53, [(0, .sl 6 b_0 0 l7.length), (1, I p1x0), (2, I p2x0), (3, .func (.func fnd_F) fnd_C), (8, I n4), (9, I n8), (34, .bool c9)], [(b_0, .arr 6 (l7.map MarkS.av))]⟩) ?_ ?_
        · refine ATodo.regionM (id := 4) (A := [0, 0, 3, 7, 15, 15, 15, 111, 239, 15, 15, 1039, 3599, 7695, 16383, 32767, 65535]) 14 mixed rfl (by kernel_rfl) (by kernel_rfl) <| AM.qv (q_move rfl) rfl <| AM.qv (q_move rfl) rfl <| AM.qv (q_gtr rfl rfl) rfl <| AM.qv (q_move rfl) rfl <| AM.guard_dt rfl rfl rfl (fun hc => ?_) (fun hc => ?_)
          · exact have h := iteT hc h; AM.qv (q_move rfl) rfl <| AM.guard_yes rfl rfl rfl <| AM.qv (q_move rfl) rfl <| AM.guard_yes rfl rfl rfl <| AM.qv (q_move rfl) rfl <| AM.guard_yes rfl rfl rfl <| bndE h fun v10 e1 h => AM.qv (t_index_sl rfl rfl rfl e1) rfl <| AM.guard_yes rfl rfl rfl <| AM.qv (t_load_aptr_agg (g := MarkS.av) rfl rfl (.inl .p0) rfl e1 rfl) rfl <| AM.guard_yes rfl rfl rfl <| AM.qv (q_move rfl) rfl <| AM.guard_yes rfl rfl rfl <| AM.qv (q_move rfl) rfl <| AM.guard_yes rfl rfl rfl <| AM.qv (q_subw rfl rfl) rfl <| AM.guard_yes rfl rfl rfl <| bndE h fun v11 e2 h => AM.qv (t_index_sl rfl rfl rfl e2) rfl <| AM.guard_yes rfl rfl rfl <| AM.qv (t_load_aptr_agg (g := MarkS.av) rfl rfl (.inl .p0) rfl e2 rfl) rfl <| AM.nil <| rY rfl rfl rfl <| bndE h fun v12 e3 h => r_callvp rfl rfl (fnd_h e3) (CoL.refl _) rfl <| rY rfl rfl rfl <| ARun.qv (q_lss rfl rfl) rfl <| rT rfl rfl rfl <| rN <| ATodo.stop <| ImpX.lq [0] ⟨decide (v12 < (0 : Int)), h, rfl⟩ rfl rfl
          · exact have h := iteF hc h; AM.guard_no rfl rfl rfl rfl <| AM.guard_no rfl rfl rfl rfl <| AM.guard_no rfl rfl rfl rfl <| AM.guard_no rfl rfl rfl rfl <| AM.guard_no rfl rfl rfl rfl <| AM.guard_no rfl rfl rfl rfl <| AM.guard_no rfl rfl rfl rfl <| AM.guard_no rfl rfl rfl rfl <| AM.guard_no rfl rfl rfl rfl <| AM.nil <| rG rfl rfl rfl rfl <| rG rfl rfl rfl rfl <| rE rfl rfl rfl <| rN <| ATodo.stop <| ImpX.lq [0] ⟨false, h, rfl⟩ rfl rfl
        · rintro σ' ⟨c9, h, rfl⟩
          unfold slices_insertionSortCmpFunc_Mark_j1 at h
          refine ATodo.cond rfl (fun hc => ?_) (fun hc => ?_)
          · refine have h := iteT hc h; tK <| tS <| ATodo.block <| bndE h fun v13 e4 h => bndE h fun v14 e5 h => bndE h fun v15 e6 h => ATodo.regionT (id := 6) (A := [0, 0, 0, 0, 8, 0, 0, 64, 224, 480, 0, 0, 3072, 7168, 16355, 32739, 65535, 131071]) (H0 := [(b_0, .arr 6 (l7.map MarkS.av))]) (HH := fun β => [(b_0, .arr 6 ((l7.set n8.toNat v13).map MarkS.av))]) 16 mixed rfl (by kernel_rfl) (by kernel_rfl) [⟨none, some 15, [9, 13], fun _ => (b_0, .arr 6 (l7.map MarkS.av)), none⟩, ⟨some 15, none, [], fun _ => (b_0, .arr 6 ((l7.set n8.toNat v13).map MarkS.av)), none⟩] [] rfl (by kernel_rfl) rfl (.cons .p0 .nil) (fun _ => rfl) <| AT.am 9 rfl rfl <| AM.qv (q_move rfl) rfl <| AM.qv (q_move rfl) rfl <| AM.qv (q_move rfl) rfl <| AM.qv (q_move rfl) rfl <| AM.qv (q_subw rfl rfl) rfl <| AM.qv (q_move rfl) rfl <| AM.qv (q_move rfl) rfl <| AM.qv (q_subw rfl rfl) rfl <| AM.qv (t_index_sl rfl rfl rfl e4) rfl <| AM.nil <| AT.rd (Rs := [(b_0, .arr 6 (l7.map MarkS.av))]) (fun _ => rfl) rfl (fun _ => rfl) (fun _ => rfl) (t_load_aptr_agg (g := MarkS.av) rfl rfl (.inl .p0) rfl e4 rfl) rfl <| AT.am 3 rfl rfl <| AM.qv (q_move rfl) rfl <| AM.qv (q_move rfl) rfl <| AM.qv (t_index_sl rfl rfl rfl e5) rfl <| AM.nil <| AT.rd (Rs := [(b_0, .arr 6 (l7.map MarkS.av))]) (fun _ => rfl) rfl (fun _ => rfl) (fun _ => rfl) (t_load_aptr_agg (g := MarkS.av) rfl rfl (.inl .p0) rfl e5 rfl) rfl <| AT.am 1 rfl rfl <| AM.qv (t_index_sl rfl rfl rfl e6) rfl <| AM.nil <| AT.run0 (Ti := [(b_0, .arr 6 (l7.map MarkS.av))]) (Pi := [(b_0, .arr 6 ((l7.set n8.toNat v13).map MarkS.av))]) (fun _ => rfl) (fun _ => rfl) (fun _ => rfl) rfl rfl ?_ ?_
            · exact t_store_aptr1 (g := MarkS.av) (el' := v13) rfl rfl rfl rfl e6 rfl .p0 rfl <| ARun.nil ⟨_, rfl⟩
            refine AT.nilN (fun _ => rfl) fun β => ARun.ghost <| ImpX.eqs (s := 0) (av' := .sl 6 b_0 0 (l7.set n8.toNat v13).length) rfl (by simp) <| ImpX.here <| ARun.ghost <| ImpX.eqs (s := 37) (av' := .sl 6 b_0 0 (l7.set n8.toNat v13).length) rfl (by simp) <| ImpX.here <| ARun.ghost <| ImpX.eqs (s := 39) (av' := .sl 6 b_0 0 (l7.set n8.toNat v13).length) rfl (by simp) <| ImpX.here <| ARun.ghost <| ImpX.eqs (s := 42) (av' := .sl 6 b_0 0 (l7.set n8.toNat v13).length) rfl (by simp) <| ImpX.here <| ARun.ghost <| ImpX.eqs (s := 47) (av' := .sl 6 b_0 0 (l7.set n8.toNat v13).length) rfl (by simp) <| ImpX.here <| bndE h fun v16 e7 h => ARun.qv (t_index_sl rfl rfl rfl e7) rfl <| t_store_aptr1 (g := MarkS.av) (el' := v14) rfl rfl rfl rfl e7 rfl .p0 rfl <| ARun.ghost <| ImpX.eqs (s := 0) (av' := .sl 6 b_0 0 ((l7.set n8.toNat v13).set (w64 (n8 - (1 : Int))).toNat v14).length) rfl (by rw [List.length_set]) <| ImpX.here <| ARun.ghost <| ImpX.eqs (s := 37) (av' := .sl 6 b_0 0 ((l7.set n8.toNat v13).set (w64 (n8 - (1 : Int))).toNat v14).length) rfl (by rw [List.length_set]) <| ImpX.here <| ARun.ghost <| ImpX.eqs (s := 39) (av' := .sl 6 b_0 0 ((l7.set n8.toNat v13).set (w64 (n8 - (1 : Int))).toNat v14).length) rfl (by rw [List.length_set]) <| ImpX.here <| ARun.ghost <| ImpX.eqs (s := 42) (av' := .sl 6 b_0 0 ((l7.set n8.toNat v13).set (w64 (n8 - (1 : Int))).toNat v14).length) rfl (by rw [List.length_set]) <| ImpX.here <| ARun.ghost <| ImpX.eqs (s := 47) (av' := .sl 6 b_0 0 ((l7.set n8.toNat v13).set (w64 (n8 - (1 : Int))).toNat v14).length) rfl (by rw [List.length_set]) <| ImpX.here <| rN <| ATodo.blk <| tR <| rM rfl rfl <| ARun.qv (q_subw rfl rfl) rfl <| rA rfl rfl <| rN <| ATodo.stop <| ?_
            obtain rfl := Option.some.inj h
            exact hJ2 _ _ rfl <| ImpX.lq [0] rfl rfl rfl
          · refine have h := iteFb hc h; ATodo.exit rfl <| have h := outL h hA2; ATodo.blk <| tR <| rM rfl rfl <| ARun.qv (q_addw rfl rfl) rfl <| rA rfl rfl <| rN <| ATodo.stop <| ?_
            obtain rfl := Option.some.inj h
            exact hJ1 _ _ rfl <| ImpX.lq [0] rfl rfl rfl
    · refine have h := iteF hc h; ATodo.exit rfl <| have h := outL h hA1; ATodo.nil <| ?_
      obtain rfl := Option.some.inj h
      exact ImpX.here ⟨_, .nil, _, .cons .p0 .nil, ⟨rfl, rfl⟩⟩

set_option maxHeartbeats 4000000 in
theorem slices_swapRangeCmpFunc_Mark_c [GI : GTab] {b_0 : Bk} {p0x0 : List MarkS} {p1x0 : Int} {p2x0 : Int} {p3x0 : Int} {fne : MarkS → MarkS → Option Int} {fne_F : FuncId} [IsFn Tryz.prog fne_F] {fne_C : List AV} (fne_h : ∀ {y0 y1 : _} {u : Int}, fne y0 y1 = some u → Pu Tryz.prog fne_F (.agg [I y0.At, .str y0.Device, I y0.Kind, I y0.Version.Major, I y0.Version.Minor, I y0.Version.Patch] :: .agg [I y1.At, .str y1.Device, I y1.Kind, I y1.Version.Major, I y1.Version.Minor, I y1.Version.Patch] ::  fne_C) (I u)) {r : (List MarkS)} (h : slices_swapRangeCmpFunc_Mark p0x0 p1x0 p2x0 p3x0 fne = some r) : ACall Tryz.prog 215 [.sl 6 b_0 0 p0x0.length, I p1x0, I p2x0, I p3x0, .func (.func fne_F) fne_C] [(b_0, .arr 6 (p0x0.map MarkS.av))] (T0 ([(b_0, .arr 6 (r.map MarkS.av))]) (.tup [])) := by
  unfold slices_swapRangeCmpFunc_Mark at h
  refine ACall.lessH ?_
  refine ACall.bodyN Tryz.func215 rfl Tryz.ntmps215 Tryz.results215 rfl rfl ?_
  refine tSR <| rA rfl rfl <| rN <| ATodo.block <| ATodo.loopI (fun x : (List MarkS) × Int => slices_swapRangeCmpFunc_Mark_b1 p1x0 p2x0 p3x0 x.1 x.2) (fun x σ' => σ' = ⟨38, [(0, .sl 6 b_0 0 x.1.length), (1, I p1x0), (2, I p2x0), (3, I p3x0), (10, I x.2)], [(b_0, .arr 6 (x.1.map MarkS.av))]⟩) h ?_ ?_
  · exact ImpX.lq [0] rfl rfl rfl
  · intro x z1 σ' J1 hmk h hJ1 hA1
    obtain ⟨l3, n4⟩ := x
    obtain rfl := hmk
    replace h : slices_swapRangeCmpFunc_Mark_b1 p1x0 p2x0 p3x0 l3 n4 = some z1 := h
    unfold slices_swapRangeCmpFunc_Mark_b1 at h
    refine tS <| tSR <| rM rfl rfl <| rM rfl rfl <| ARun.qv (q_lss rfl rfl) rfl <| rN <| ATodo.cond_d rfl (fun hc => ?_) (fun hc => ?_)
    · refine have h := iteT hc h; tK <| tS <| ATodo.block <| bndE h fun v5 e1 h => bndE h fun v6 e2 h => bndE h fun v7 e3 h => ATodo.regionT (id := 3) (A := [0, 0, 0, 6, 0, 0, 0, 96, 0, 0, 0, 1536, 3840, 7936, 0, 0, 0, 98304, 245760, 507904, 1048335, 2096911, 4194303, 8388607]) (H0 := [(b_0, .arr 6 (l3.map MarkS.av))]) (HH := fun β => [(b_0, .arr 6 ((l3.set (w64 (p1x0 + n4)).toNat v5).map MarkS.av))]) 22 mixed rfl (by kernel_rfl) (by kernel_rfl) [⟨none, some 21, [13, 19], fun _ => (b_0, .arr 6 (l3.map MarkS.av)), none⟩, ⟨some 21, none, [], fun _ => (b_0, .arr 6 ((l3.set (w64 (p1x0 + n4)).toNat v5).map MarkS.av)), none⟩] [] rfl (by kernel_rfl) rfl (.cons .p0 .nil) (fun _ => rfl) <| AT.am 13 rfl rfl <| AM.qv (q_move rfl) rfl <| AM.qv (q_move rfl) rfl <| AM.qv (q_move rfl) rfl <| AM.qv (q_addw rfl rfl) rfl <| AM.qv (q_move rfl) rfl <| AM.qv (q_move rfl) rfl <| AM.qv (q_move rfl) rfl <| AM.qv (q_addw rfl rfl) rfl <| AM.qv (q_move rfl) rfl <| AM.qv (q_move rfl) rfl <| AM.qv (q_move rfl) rfl <| AM.qv (q_addw rfl rfl) rfl <| AM.qv (t_index_sl rfl rfl rfl e1) rfl <| AM.nil <| AT.rd (Rs := [(b_0, .arr 6 (l3.map MarkS.av))]) (fun _ => rfl) rfl (fun _ => rfl) (fun _ => rfl) (t_load_aptr_agg (g := MarkS.av) rfl rfl (.inl .p0) rfl e1 rfl) rfl <| AT.am 5 rfl rfl <| AM.qv (q_move rfl) rfl <| AM.qv (q_move rfl) rfl <| AM.qv (q_move rfl) rfl <| AM.qv (q_addw rfl rfl) rfl <| AM.qv (t_index_sl rfl rfl rfl e2) rfl <| AM.nil <| AT.rd (Rs := [(b_0, .arr 6 (l3.map MarkS.av))]) (fun _ => rfl) rfl (fun _ => rfl) (fun _ => rfl) (t_load_aptr_agg (g := MarkS.av) rfl rfl (.inl .p0) rfl e2 rfl) rfl <| AT.am 1 rfl rfl <| AM.qv (t_index_sl rfl rfl rfl e3) rfl <| AM.nil <| AT.run0 (Ti := [(b_0, .arr 6 (l3.map MarkS.av))]) (Pi := [(b_0, .arr 6 ((l3.set (w64 (p1x0 + n4)).toNat v5).map MarkS.av))]) (fun _ => rfl) (fun _ => rfl) (fun _ => rfl) rfl rfl ?_ ?_
      · exact t_store_aptr1 (g := MarkS.av) (el' := v5) rfl rfl rfl rfl e3 rfl .p0 rfl <| ARun.nil ⟨_, rfl⟩
      refine AT.nilN (fun _ => rfl) fun β => ARun.ghost <| ImpX.eqs (s := 0) (av' := .sl 6 b_0 0 (l3.set (w64 (p1x0 + n4)).toNat v5).length) rfl (by simp) <| ImpX.here <| ARun.ghost <| ImpX.eqs (s := 16) (av' := .sl 6 b_0 0 (l3.set (w64 (p1x0 + n4)).toNat v5).length) rfl (by simp) <| ImpX.here <| ARun.ghost <| ImpX.eqs (s := 20) (av' := .sl 6 b_0 0 (l3.set (w64 (p1x0 + n4)).toNat v5).length) rfl (by simp) <| ImpX.here <| ARun.ghost <| ImpX.eqs (s := 24) (av' := .sl 6 b_0 0 (l3.set (w64 (p1x0 + n4)).toNat v5).length) rfl (by simp) <| ImpX.here <| ARun.ghost <| ImpX.eqs (s := 30) (av' := .sl 6 b_0 0 (l3.set (w64 (p1x0 + n4)).toNat v5).length) rfl (by simp) <| ImpX.here <| bndE h fun v8 e4 h => ARun.qv (t_index_sl rfl rfl rfl e4) rfl <| t_store_aptr1 (g := MarkS.av) (el' := v6) rfl rfl rfl rfl e4 rfl .p0 rfl <| ARun.ghost <| ImpX.eqs (s := 0) (av' := .sl 6 b_0 0 ((l3.set (w64 (p1x0 + n4)).toNat v5).set (w64 (p2x0 + n4)).toNat v6).length) rfl (by rw [List.length_set]) <| ImpX.here <| ARun.ghost <| ImpX.eqs (s := 16) (av' := .sl 6 b_0 0 ((l3.set (w64 (p1x0 + n4)).toNat v5).set (w64 (p2x0 + n4)).toNat v6).length) rfl (by rw [List.length_set]) <| ImpX.here <| ARun.ghost <| ImpX.eqs (s := 20) (av' := .sl 6 b_0 0 ((l3.set (w64 (p1x0 + n4)).toNat v5).set (w64 (p2x0 + n4)).toNat v6).length) rfl (by rw [List.length_set]) <| ImpX.here <| ARun.ghost <| ImpX.eqs (s := 24) (av' := .sl 6 b_0 0 ((l3.set (w64 (p1x0 + n4)).toNat v5).set (w64 (p2x0 + n4)).toNat v6).length) rfl (by rw [List.length_set]) <| ImpX.here <| ARun.ghost <| ImpX.eqs (s := 30) (av' := .sl 6 b_0 0 ((l3.set (w64 (p1x0 + n4)).toNat v5).set (w64 (p2x0 + n4)).toNat v6).length) rfl (by rw [List.length_set]) <| ImpX.here <| rN <| ATodo.blk <| tR <| rM rfl rfl <| ARun.qv (q_addw rfl rfl) rfl <| rA rfl rfl <| rN <| ATodo.stop <| ?_
      obtain rfl := Option.some.inj h
      exact hJ1 _ _ rfl <| ImpX.lq [0] rfl rfl rfl
    · refine have h := iteF hc h; ATodo.exit rfl <| have h := outL h hA1; ATodo.nil <| ?_
      obtain rfl := Option.some.inj h
      exact ImpX.here ⟨_, .nil, _, .cons .p0 .nil, ⟨rfl, rfl⟩⟩

set_option maxHeartbeats 4000000 in
theorem slices_rotateCmpFunc_Mark_c [GI : GTab] {b_0 : Bk} {p0x0 : List MarkS} {p1x0 : Int} {p2x0 : Int} {p3x0 : Int} {fne : MarkS → MarkS → Option Int} {fne_F : FuncId} [IsFn Tryz.prog fne_F] {fne_C : List AV} (fne_h : ∀ {y0 y1 : _} {u : Int}, fne y0 y1 = some u → Pu Tryz.prog fne_F (.agg [I y0.At, .str y0.Device, I y0.Kind, I y0.Version.Major, I y0.Version.Minor, I y0.Version.Patch] :: .agg [I y1.At, .str y1.Device, I y1.Kind, I y1.Version.Major, I y1.Version.Minor, I y1.Version.Patch] ::  fne_C) (I u)) {r : (List MarkS)} (h : slices_rotateCmpFunc_Mark p0x0 p1x0 p2x0 p3x0 fne = some r) : ACall Tryz.prog 186 [.sl 6 b_0 0 p0x0.length, I p1x0, I p2x0, I p3x0, .func (.func fne_F) fne_C] [(b_0, .arr 6 (p0x0.map MarkS.av))] (T0 ([(b_0, .arr 6 (r.map MarkS.av))]) (.tup [])) := by
  unfold slices_rotateCmpFunc_Mark at h
  refine ACall.lessH ?_
  refine ACall.bodyN Tryz.func186 rfl Tryz.ntmps186 Tryz.results186 rfl rfl ?_
  refine tSR <| rM rfl rfl <| rM rfl rfl <| ARun.qv (q_subw rfl rfl) rfl <| rA rfl rfl <| rN <| tSR <| rM rfl rfl <| rM rfl rfl <| ARun.qv (q_subw rfl rfl) rfl <| rA rfl rfl <| rN <| tS <| ATodo.block <| ATodo.loopI (fun x : (List MarkS) × Int × Int => slices_rotateCmpFunc_Mark_b1 p2x0 fne x.1 x.2.1 x.2.2) (fun x σ' => σ' = ⟨58, [(0, .sl 6 b_0 0 x.1.length), (2, I p2x0), (4, .func (.func fne_F) fne_C), (10, I x.2.1), (11, I x.2.2)], [(b_0, .arr 6 (x.1.map MarkS.av))]⟩) h ?_ ?_
  · exact ImpX.lq [0] rfl rfl rfl
  · intro x z1 σ' J1 hmk h hJ1 hA1
    obtain ⟨l4, n5, n6⟩ := x
    obtain rfl := hmk
    replace h : slices_rotateCmpFunc_Mark_b1 p2x0 fne l4 n5 n6 = some z1 := h
    unfold slices_rotateCmpFunc_Mark_b1 at h
    refine tS <| tSR <| rM rfl rfl <| rM rfl rfl <| ARun.qv (q_neq rfl rfl) rfl <| rN <| ATodo.cond_d rfl (fun hc => ?_) (fun hc => ?_)
    · refine have h := iteT hc h; tK <| ATodo.block <| tSR <| rM rfl rfl <| rM rfl rfl <| ARun.qv (q_gtr rfl rfl) rfl <| rN <| ATodo.cut (fun σ' => ∃ (l7 : List MarkS) (n8 : Int) (n9 : Int), slices_rotateCmpFunc_Mark_j1 l7 n8 n9 = some z1 ∧ σ' = ⟨58, [(0, .sl 6 b_0 0 l7.length), (2, I p2x0), (4, .func (.func fne_F) fne_C), (10, I n8), (11, I n9)], [(b_0, .arr 6 (l7.map MarkS.av))]⟩) ?_ ?_
      · refine ATodo.cond_d rfl (fun hc => ?_) (fun hc => ?_)
        · exact have h := iteT hc h; tSR <| rM rfl rfl <| rM rfl rfl <| rM rfl rfl <| ARun.qv (q_subw rfl rfl) rfl <| rM rfl rfl <| rM rfl rfl <| rM rfl rfl <| bndE h fun v10 e1 h => t_call0 rfl (slices_swapRangeCmpFunc_Mark_c fne_h (lenOk_f e1)) (CoL.refl _) (.cons .p0 .nil) rfl rfl <| ARun.ghost <| ImpX.eqs (s := 0) (av' := .sl 6 b_0 0 v10.length) rfl (congrArg (AV.sl 6 b_0 0) (lenOk_l e1)) <| ImpX.here <| ARun.ghost <| ImpX.eqs (s := 24) (av' := .sl 6 b_0 0 v10.length) rfl (congrArg (AV.sl 6 b_0 0) (lenOk_l e1)) <| ImpX.here <| rN <| tR <| rM rfl rfl <| rM rfl rfl <| ARun.qv (q_subw rfl rfl) rfl <| rA rfl rfl <| rN <| ATodo.stop <| ImpX.lq [0] ⟨v10, w64 (n5 - n6), n6, h, rfl⟩ rfl rfl
        · exact have h := iteF hc h; tSR <| rM rfl rfl <| rM rfl rfl <| rM rfl rfl <| ARun.qv (q_subw rfl rfl) rfl <| rM rfl rfl <| rM rfl rfl <| ARun.qv (q_addw rfl rfl) rfl <| rM rfl rfl <| ARun.qv (q_subw rfl rfl) rfl <| rM rfl rfl <| rM rfl rfl <| bndE h fun v11 e2 h => t_call0 rfl (slices_swapRangeCmpFunc_Mark_c fne_h (lenOk_f e2)) (CoL.refl _) (.cons .p0 .nil) rfl rfl <| ARun.ghost <| ImpX.eqs (s := 0) (av' := .sl 6 b_0 0 v11.length) rfl (congrArg (AV.sl 6 b_0 0) (lenOk_l e2)) <| ImpX.here <| ARun.ghost <| ImpX.eqs (s := 35) (av' := .sl 6 b_0 0 v11.length) rfl (congrArg (AV.sl 6 b_0 0) (lenOk_l e2)) <| ImpX.here <| rN <| tR <| rM rfl rfl <| rM rfl rfl <| ARun.qv (q_subw rfl rfl) rfl <| rA rfl rfl <| rN <| ATodo.stop <| ImpX.lq [0] ⟨v11, n5, w64 (n6 - n5), h, rfl⟩ rfl rfl
      · rintro σ' ⟨l7, n8, n9, h, rfl⟩
        unfold slices_rotateCmpFunc_Mark_j1 at h
        refine ATodo.blk <| ATodo.stop <| ?_
        obtain rfl := Option.some.inj h
        exact hJ1 _ _ rfl <| ImpX.lq [0] rfl rfl rfl
    · refine have h := iteF hc h; ATodo.exit rfl <| have h := outL h hA1; ?_
      unfold slices_rotateCmpFunc_Mark_k2 at h
      refine tR <| rM rfl rfl <| rM rfl rfl <| rM rfl rfl <| ARun.qv (q_subw rfl rfl) rfl <| rM rfl rfl <| rM rfl rfl <| rM rfl rfl <| bndE h fun v12 e3 h => t_call0 rfl (slices_swapRangeCmpFunc_Mark_c fne_h (lenOk_f e3)) (CoL.refl _) (.cons .p0 .nil) rfl rfl <| ARun.ghost <| ImpX.eqs (s := 0) (av' := .sl 6 b_0 0 v12.length) rfl (congrArg (AV.sl 6 b_0 0) (lenOk_l e3)) <| ImpX.here <| ARun.ghost <| ImpX.eqs (s := 50) (av' := .sl 6 b_0 0 v12.length) rfl (congrArg (AV.sl 6 b_0 0) (lenOk_l e3)) <| ImpX.here <| rN <| ATodo.nil <| ?_
      obtain rfl := Option.some.inj h
      exact ImpX.here ⟨_, .nil, _, .cons .p0 .nil, ⟨rfl, rfl⟩⟩

set_option maxHeartbeats 4000000 in
theorem slices_symMergeCmpFunc_Mark_bd_c [GI : GTab] {b_0 : Bk} {self : (List MarkS) → Int → Int → Int → (MarkS → MarkS → Option Int) → Option (List MarkS)} (self_h : ∀ {b_0 : Bk} {p0x0 : List MarkS} {p1x0 : Int} {p2x0 : Int} {p3x0 : Int} {fne : MarkS → MarkS → Option Int} {fne_F : FuncId} [IsFn Tryz.prog fne_F] {fne_C : List AV} (fne_h : ∀ {y0 y1 : _} {u : Int}, fne y0 y1 = some u → Pu Tryz.prog fne_F (.agg [I y0.At, .str y0.Device, I y0.Kind, I y0.Version.Major, I y0.Version.Minor, I y0.Version.Patch] :: .agg [I y1.At, .str y1.Device, I y1.Kind, I y1.Version.Major, I y1.Version.Minor, I y1.Version.Patch] ::  fne_C) (I u)) {r : (List MarkS)}, self p0x0 p1x0 p2x0 p3x0 fne = some r → ACall Tryz.prog 146 [.sl 6 b_0 0 p0x0.length, I p1x0, I p2x0, I p3x0, .func (.func fne_F) fne_C] [(b_0, .arr 6 (p0x0.map MarkS.av))] (T0 ([(b_0, .arr 6 (r.map MarkS.av))]) (.tup []))) {p0x0 : List MarkS} {p1x0 : Int} {p2x0 : Int} {p3x0 : Int} {fne : MarkS → MarkS → Option Int} {fne_F : FuncId} [IsFn Tryz.prog fne_F] {fne_C : List AV} (fne_h : ∀ {y0 y1 : _} {u : Int}, fne y0 y1 = some u → Pu Tryz.prog fne_F (.agg [I y0.At, .str y0.Device, I y0.Kind, I y0.Version.Major, I y0.Version.Minor, I y0.Version.Patch] :: .agg [I y1.At, .str y1.Device, I y1.Kind, I y1.Version.Major, I y1.Version.Minor, I y1.Version.Patch] ::  fne_C) (I u)) {r : (List MarkS)} (h : slices_symMergeCmpFunc_Mark_bd self p0x0 p1x0 p2x0 p3x0 fne = some r) : ACall Tryz.prog 146 [.sl 6 b_0 0 p0x0.length, I p1x0, I p2x0, I p3x0, .func (.func fne_F) fne_C] [(b_0, .arr 6 (p0x0.map MarkS.av))] (T0 ([(b_0, .arr 6 (r.map MarkS.av))]) (.tup [])) := by
  unfold slices_symMergeCmpFunc_Mark_bd at h
  refine ACall.lessH ?_
  refine ACall.bodyN Tryz.func146 rfl Tryz.ntmps146 Tryz.results146 rfl rfl ?_
  refine tS <| tSR <| rM rfl rfl <| rM rfl rfl <| ARun.qv (q_subw rfl rfl) rfl <| ARun.qv (q_eql rfl rfl) rfl <| rN <| ATodo.cond_d rfl (fun hc => ?_) (fun hc => ?_)
  · refine have h := iteT hc h; tSR <| rM rfl rfl <| rA rfl rfl <| rN <| tSR <| rM rfl rfl <| rA rfl rfl <| rN <| tS <| ATodo.block <| ATodo.loopI (fun x : Int × Int => slices_symMergeCmpFunc_Mark_b1 p0x0 p1x0 fne x.1 x.2) (fun x σ' => σ' = ⟨220, [(0, .sl 6 b_0 0 p0x0.length), (1, I p1x0), (4, .func (.func fne_F) fne_C), (10, I x.1), (11, I x.2)], [(b_0, .arr 6 (p0x0.map MarkS.av))]⟩) h ?_ ?_
    · exact ImpX.lq [0] rfl rfl rfl
    · intro x z1 σ' J1 hmk h hJ1 hA1
      obtain ⟨n3, n4⟩ := x
      obtain rfl := hmk
      replace h : slices_symMergeCmpFunc_Mark_b1 p0x0 p1x0 fne n3 n4 = some z1 := h
      unfold slices_symMergeCmpFunc_Mark_b1 at h
      refine tS <| tSR <| rM rfl rfl <| rM rfl rfl <| ARun.qv (q_lss rfl rfl) rfl <| rN <| ATodo.cond_d rfl (fun hc => ?_) (fun hc => ?_)
      · refine have h := iteT hc h; tK <| ATodo.block <| tSR <| rM rfl rfl <| rM rfl rfl <| ARun.qv (q_addw rfl rfl) rfl <| ARun.qv (q_conv_int rfl) rfl <| ARun.qv (t_shr rfl rfl (by decide)) rfl <| ARun.qv (q_conv_int rfl) rfl <| rA rfl rfl <| rN <| tS <| ATodo.regionM (id := 5) (A := [0, 0, 0, 6, 14, 0, 0, 96, 224, 511, 1023]) 9 mixed rfl (by kernel_rfl) (by kernel_rfl) <| AM.qv (q_move rfl) rfl <| AM.qv (q_move rfl) rfl <| AM.qv (q_move rfl) rfl <| bndE h fun v5 e1 h => AM.qv (t_index_sl rfl rfl rfl e1) rfl <| AM.qv (t_load_aptr_agg (g := MarkS.av) rfl rfl (.inl .p0) rfl e1 rfl) rfl <| AM.qv (q_move rfl) rfl <| AM.qv (q_move rfl) rfl <| bndE h fun v6 e2 h => AM.qv (t_index_sl rfl rfl rfl e2) rfl <| AM.qv (t_load_aptr_agg (g := MarkS.av) rfl rfl (.inl .p0) rfl e2 rfl) rfl <| AM.nil <| bndE h fun v7 e3 h => r_callvp rfl rfl (fne_h e3) (CoL.refl _) rfl <| ARun.qv (q_lss rfl rfl) rfl <| rN <| ATodo.cut (fun σ' => ∃ (n8 : Int) (n9 : Int), slices_symMergeCmpFunc_Mark_j1 n8 n9 = some z1 ∧ σ' = ⟨220, [(0, .sl 6 b_0 0 p0x0.length), (1, I p1x0), (4, .func (.func fne_F) fne_C), (10, I n8), (11, I n9)], [(b_0, .arr 6 (p0x0.map MarkS.av))]⟩) ?_ ?_
        · refine ATodo.cond_d rfl (fun hc => ?_) (fun hc => ?_)
          · exact have h := iteT hc h; tR <| rM rfl rfl <| ARun.qv (q_addw rfl rfl) rfl <| rA rfl rfl <| rN <| ATodo.stop <| ImpX.lq [0] ⟨w64 ((w64 (shrI .u64 (IntKind.u64.wrap (w64 (n3 + n4))) (1 : Int))) + (1 : Int)), n4, h, rfl⟩ rfl rfl
          · exact have h := iteF hc h; tR <| rM rfl rfl <| rA rfl rfl <| rN <| ATodo.stop <| ImpX.lq [0] ⟨n3, w64 (shrI .u64 (IntKind.u64.wrap (w64 (n3 + n4))) (1 : Int)), h, rfl⟩ rfl rfl
        · rintro σ' ⟨n8, n9, h, rfl⟩
          unfold slices_symMergeCmpFunc_Mark_j1 at h
          refine ATodo.blk <| ATodo.stop <| ?_
          obtain rfl := Option.some.inj h
          exact hJ1 _ _ rfl <| ImpX.lq [0] rfl rfl rfl
      · refine have h := iteF hc h; ATodo.exit rfl <| have h := outL h hA1; tS <| tSR <| rM rfl rfl <| rA rfl rfl <| rN <| ATodo.block <| ATodo.loopI (fun x : (List MarkS) × Int => slices_symMergeCmpFunc_Mark_b2 n3 x.1 x.2) (fun x σ' => σ' = ⟨220, [(0, .sl 6 b_0 0 x.1.length), (10, I n3), (13, I x.2)], [(b_0, .arr 6 (x.1.map MarkS.av))]⟩) h ?_ ?_
        · exact ImpX.lq [0] rfl rfl rfl
        · intro x z2 σ' J2 hmk h hJ2 hA2
          obtain ⟨l12, n13⟩ := x
          obtain rfl := hmk
          replace h : slices_symMergeCmpFunc_Mark_b2 n3 l12 n13 = some z2 := h
          unfold slices_symMergeCmpFunc_Mark_b2 at h
          refine tS <| tSR <| rM rfl rfl <| rM rfl rfl <| ARun.qv (q_subw rfl rfl) rfl <| ARun.qv (q_lss rfl rfl) rfl <| rN <| ATodo.cond_d rfl (fun hc => ?_) (fun hc => ?_)
          · refine have h := iteT hc h; tK <| tS <| ATodo.block <| bndE h fun v14 e4 h => bndE h fun v15 e5 h => bndE h fun v16 e6 h => ATodo.regionT (id := 11) (A := [0, 0, 0, 0, 8, 0, 0, 64, 224, 480, 0, 0, 3072, 7168, 16355, 32739, 65535, 131071]) (H0 := [(b_0, .arr 6 (l12.map MarkS.av))]) (HH := fun β => [(b_0, .arr 6 ((l12.set n13.toNat v14).map MarkS.av))]) 16 mixed rfl (by kernel_rfl) (by kernel_rfl) [⟨none, some 15, [9, 13], fun _ => (b_0, .arr 6 (l12.map MarkS.av)), none⟩, ⟨some 15, none, [], fun _ => (b_0, .arr 6 ((l12.set n13.toNat v14).map MarkS.av)), none⟩] [] rfl (by kernel_rfl) rfl (.cons .p0 .nil) (fun _ => rfl) <| AT.am 9 rfl rfl <| AM.qv (q_move rfl) rfl <| AM.qv (q_move rfl) rfl <| AM.qv (q_move rfl) rfl <| AM.qv (q_move rfl) rfl <| AM.qv (q_addw rfl rfl) rfl <| AM.qv (q_move rfl) rfl <| AM.qv (q_move rfl) rfl <| AM.qv (q_addw rfl rfl) rfl <| AM.qv (t_index_sl rfl rfl rfl e4) rfl <| AM.nil <| AT.rd (Rs := [(b_0, .arr 6 (l12.map MarkS.av))]) (fun _ => rfl) rfl (fun _ => rfl) (fun _ => rfl) (t_load_aptr_agg (g := MarkS.av) rfl rfl (.inl .p0) rfl e4 rfl) rfl <| AT.am 3 rfl rfl <| AM.qv (q_move rfl) rfl <| AM.qv (q_move rfl) rfl <| AM.qv (t_index_sl rfl rfl rfl e5) rfl <| AM.nil <| AT.rd (Rs := [(b_0, .arr 6 (l12.map MarkS.av))]) (fun _ => rfl) rfl (fun _ => rfl) (fun _ => rfl) (t_load_aptr_agg (g := MarkS.av) rfl rfl (.inl .p0) rfl e5 rfl) rfl <| AT.am 1 rfl rfl <| AM.qv (t_index_sl rfl rfl rfl e6) rfl <| AM.nil <| AT.run0 (Ti := [(b_0, .arr 6 (l12.map MarkS.av))]) (Pi := [(b_0, .arr 6 ((l12.set n13.toNat v14).map MarkS.av))]) (fun _ => rfl) (fun _ => rfl) (fun _ => rfl) rfl rfl ?_ ?_
            · exact t_store_aptr1 (g := MarkS.av) (el' := v14) rfl rfl rfl rfl e6 rfl .p0 rfl <| ARun.nil ⟨_, rfl⟩
            refine AT.nilN (fun _ => rfl) fun β => ARun.ghost <| ImpX.eqs (s := 0) (av' := .sl 6 b_0 0 (l12.set n13.toNat v14).length) rfl (by simp) <| ImpX.here <| ARun.ghost <| ImpX.eqs (s := 61) (av' := .sl 6 b_0 0 (l12.set n13.toNat v14).length) rfl (by simp) <| ImpX.here <| ARun.ghost <| ImpX.eqs (s := 63) (av' := .sl 6 b_0 0 (l12.set n13.toNat v14).length) rfl (by simp) <| ImpX.here <| ARun.ghost <| ImpX.eqs (s := 66) (av' := .sl 6 b_0 0 (l12.set n13.toNat v14).length) rfl (by simp) <| ImpX.here <| ARun.ghost <| ImpX.eqs (s := 71) (av' := .sl 6 b_0 0 (l12.set n13.toNat v14).length) rfl (by simp) <| ImpX.here <| bndE h fun v17 e7 h => ARun.qv (t_index_sl rfl rfl rfl e7) rfl <| t_store_aptr1 (g := MarkS.av) (el' := v15) rfl rfl rfl rfl e7 rfl .p0 rfl <| ARun.ghost <| ImpX.eqs (s := 0) (av' := .sl 6 b_0 0 ((l12.set n13.toNat v14).set (w64 (n13 + (1 : Int))).toNat v15).length) rfl (by rw [List.length_set]) <| ImpX.here <| ARun.ghost <| ImpX.eqs (s := 61) (av' := .sl 6 b_0 0 ((l12.set n13.toNat v14).set (w64 (n13 + (1 : Int))).toNat v15).length) rfl (by rw [List.length_set]) <| ImpX.here <| ARun.ghost <| ImpX.eqs (s := 63) (av' := .sl 6 b_0 0 ((l12.set n13.toNat v14).set (w64 (n13 + (1 : Int))).toNat v15).length) rfl (by rw [List.length_set]) <| ImpX.here <| ARun.ghost <| ImpX.eqs (s := 66) (av' := .sl 6 b_0 0 ((l12.set n13.toNat v14).set (w64 (n13 + (1 : Int))).toNat v15).length) rfl (by rw [List.length_set]) <| ImpX.here <| ARun.ghost <| ImpX.eqs (s := 71) (av' := .sl 6 b_0 0 ((l12.set n13.toNat v14).set (w64 (n13 + (1 : Int))).toNat v15).length) rfl (by rw [List.length_set]) <| ImpX.here <| rN <| ATodo.blk <| tR <| rM rfl rfl <| ARun.qv (q_addw rfl rfl) rfl <| rA rfl rfl <| rN <| ATodo.stop <| ?_
            obtain rfl := Option.some.inj h
            exact hJ2 _ _ rfl <| ImpX.lq [0] rfl rfl rfl
          · refine have h := iteF hc h; ATodo.exit rfl <| have h := outL h hA2; ATodo.ret <| ?_
            obtain rfl := Option.some.inj h
            exact ImpX.here ⟨_, .nil, _, .cons .p0 .nil, ⟨rfl, rfl⟩⟩
  · refine have h := iteF hc h; tK <| tS <| tSR <| rM rfl rfl <| rM rfl rfl <| ARun.qv (q_subw rfl rfl) rfl <| ARun.qv (q_eql rfl rfl) rfl <| rN <| ATodo.cond_d rfl (fun hc => ?_) (fun hc => ?_)
    · refine have h := iteT hc h; tSR <| rM rfl rfl <| rA rfl rfl <| rN <| tSR <| rM rfl rfl <| rA rfl rfl <| rN <| tS <| ATodo.block <| ATodo.loopI (fun x : Int × Int => slices_symMergeCmpFunc_Mark_b3 p0x0 p2x0 fne x.1 x.2) (fun x σ' => σ' = ⟨220, [(0, .sl 6 b_0 0 p0x0.length), (2, I p2x0), (4, .func (.func fne_F) fne_C), (14, I x.1), (15, I x.2)], [(b_0, .arr 6 (p0x0.map MarkS.av))]⟩) h ?_ ?_
      · exact ImpX.lq [0] rfl rfl rfl
      · intro x z3 σ' J3 hmk h hJ3 hA3
        obtain ⟨n20, n21⟩ := x
        obtain rfl := hmk
        replace h : slices_symMergeCmpFunc_Mark_b3 p0x0 p2x0 fne n20 n21 = some z3 := h
        unfold slices_symMergeCmpFunc_Mark_b3 at h
        refine tS <| tSR <| rM rfl rfl <| rM rfl rfl <| ARun.qv (q_lss rfl rfl) rfl <| rN <| ATodo.cond_d rfl (fun hc => ?_) (fun hc => ?_)
        · refine have h := iteT hc h; tK <| ATodo.block <| tSR <| rM rfl rfl <| rM rfl rfl <| ARun.qv (q_addw rfl rfl) rfl <| ARun.qv (q_conv_int rfl) rfl <| ARun.qv (t_shr rfl rfl (by decide)) rfl <| ARun.qv (q_conv_int rfl) rfl <| rA rfl rfl <| rN <| tS <| ATodo.regionM (id := 17) (A := [0, 0, 0, 6, 14, 0, 0, 96, 224, 511, 1023, 2047]) 9 mixed rfl (by kernel_rfl) (by kernel_rfl) <| AM.qv (q_move rfl) rfl <| AM.qv (q_move rfl) rfl <| AM.qv (q_move rfl) rfl <| bndE h fun v22 e8 h => AM.qv (t_index_sl rfl rfl rfl e8) rfl <| AM.qv (t_load_aptr_agg (g := MarkS.av) rfl rfl (.inl .p0) rfl e8 rfl) rfl <| AM.qv (q_move rfl) rfl <| AM.qv (q_move rfl) rfl <| bndE h fun v23 e9 h => AM.qv (t_index_sl rfl rfl rfl e9) rfl <| AM.qv (t_load_aptr_agg (g := MarkS.av) rfl rfl (.inl .p0) rfl e9 rfl) rfl <| AM.nil <| bndE h fun v24 e10 h => r_callvp rfl rfl (fne_h e10) (CoL.refl _) rfl <| ARun.qv (q_lss rfl rfl) rfl <| ARun.qv (q_not_d rfl) rfl <| rN <| ATodo.cut (fun σ' => ∃ (n25 : Int) (n26 : Int), slices_symMergeCmpFunc_Mark_j2 n25 n26 = some z3 ∧ σ' = ⟨220, [(0, .sl 6 b_0 0 p0x0.length), (2, I p2x0), (4, .func (.func fne_F) fne_C), (14, I n25), (15, I n26)], [(b_0, .arr 6 (p0x0.map MarkS.av))]⟩) ?_ ?_
          · refine ATodo.cond_d rfl (fun hc => ?_) (fun hc => ?_)
            · exact have h := iteT hc h; tR <| rM rfl rfl <| ARun.qv (q_addw rfl rfl) rfl <| rA rfl rfl <| rN <| ATodo.stop <| ImpX.lq [0] ⟨w64 ((w64 (shrI .u64 (IntKind.u64.wrap (w64 (n20 + n21))) (1 : Int))) + (1 : Int)), n21, h, rfl⟩ rfl rfl
            · exact have h := iteF hc h; tR <| rM rfl rfl <| rA rfl rfl <| rN <| ATodo.stop <| ImpX.lq [0] ⟨n20, w64 (shrI .u64 (IntKind.u64.wrap (w64 (n20 + n21))) (1 : Int)), h, rfl⟩ rfl rfl
          · rintro σ' ⟨n25, n26, h, rfl⟩
            unfold slices_symMergeCmpFunc_Mark_j2 at h
            refine ATodo.blk <| ATodo.stop <| ?_
            obtain rfl := Option.some.inj h
            exact hJ3 _ _ rfl <| ImpX.lq [0] rfl rfl rfl
        · refine have h := iteF hc h; ATodo.exit rfl <| have h := outL h hA3; tS <| tSR <| rM rfl rfl <| rA rfl rfl <| rN <| ATodo.block <| ATodo.loopI (fun x : (List MarkS) × Int => slices_symMergeCmpFunc_Mark_b4 n20 x.1 x.2) (fun x σ' => σ' = ⟨220, [(0, .sl 6 b_0 0 x.1.length), (14, I n20), (17, I x.2)], [(b_0, .arr 6 (x.1.map MarkS.av))]⟩) h ?_ ?_
          · exact ImpX.lq [0] rfl rfl rfl
          · intro x z4 σ' J4 hmk h hJ4 hA4
            obtain ⟨l29, n30⟩ := x
            obtain rfl := hmk
            replace h : slices_symMergeCmpFunc_Mark_b4 n20 l29 n30 = some z4 := h
            unfold slices_symMergeCmpFunc_Mark_b4 at h
            refine tS <| tSR <| rM rfl rfl <| rM rfl rfl <| ARun.qv (q_gtr rfl rfl) rfl <| rN <| ATodo.cond_d rfl (fun hc => ?_) (fun hc => ?_)
            · refine have h := iteT hc h; tK <| tS <| ATodo.block <| bndE h fun v31 e11 h => bndE h fun v32 e12 h => bndE h fun v33 e13 h => ATodo.regionT (id := 23) (A := [0, 0, 0, 0, 8, 0, 0, 64, 224, 480, 0, 0, 3072, 7168, 16355, 32739, 65535, 131071]) (H0 := [(b_0, .arr 6 (l29.map MarkS.av))]) (HH := fun β => [(b_0, .arr 6 ((l29.set n30.toNat v31).map MarkS.av))]) 16 mixed rfl (by kernel_rfl) (by kernel_rfl) [⟨none, some 15, [9, 13], fun _ => (b_0, .arr 6 (l29.map MarkS.av)), none⟩, ⟨some 15, none, [], fun _ => (b_0, .arr 6 ((l29.set n30.toNat v31).map MarkS.av)), none⟩] [] rfl (by kernel_rfl) rfl (.cons .p0 .nil) (fun _ => rfl) <| AT.am 9 rfl rfl <| AM.qv (q_move rfl) rfl <| AM.qv (q_move rfl) rfl <| AM.qv (q_move rfl) rfl <| AM.qv (q_move rfl) rfl <| AM.qv (q_subw rfl rfl) rfl <| AM.qv (q_move rfl) rfl <| AM.qv (q_move rfl) rfl <| AM.qv (q_subw rfl rfl) rfl <| AM.qv (t_index_sl rfl rfl rfl e11) rfl <| AM.nil <| AT.rd (Rs := [(b_0, .arr 6 (l29.map MarkS.av))]) (fun _ => rfl) rfl (fun _ => rfl) (fun _ => rfl) (t_load_aptr_agg (g := MarkS.av) rfl rfl (.inl .p0) rfl e11 rfl) rfl <| AT.am 3 rfl rfl <| AM.qv (q_move rfl) rfl <| AM.qv (q_move rfl) rfl <| AM.qv (t_index_sl rfl rfl rfl e12) rfl <| AM.nil <| AT.rd (Rs := [(b_0, .arr 6 (l29.map MarkS.av))]) (fun _ => rfl) rfl (fun _ => rfl) (fun _ => rfl) (t_load_aptr_agg (g := MarkS.av) rfl rfl (.inl .p0) rfl e12 rfl) rfl <| AT.am 1 rfl rfl <| AM.qv (t_index_sl rfl rfl rfl e13) rfl <| AM.nil <| AT.run0 (Ti := [(b_0, .arr 6 (l29.map MarkS.av))]) (Pi := [(b_0, .arr 6 ((l29.set n30.toNat v31).map MarkS.av))]) (fun _ => rfl) (fun _ => rfl) (fun _ => rfl) rfl rfl ?_ ?_
              · exact t_store_aptr1 (g := MarkS.av) (el' := v31) rfl rfl rfl rfl e13 rfl .p0 rfl <| ARun.nil ⟨_, rfl⟩
              refine AT.nilN (fun _ => rfl) fun β => ARun.ghost <| ImpX.eqs (s := 0) (av' := .sl 6 b_0 0 (l29.set n30.toNat v31).length) rfl (by simp) <| ImpX.here <| ARun.ghost <| ImpX.eqs (s := 113) (av' := .sl 6 b_0 0 (l29.set n30.toNat v31).length) rfl (by simp) <| ImpX.here <| ARun.ghost <| ImpX.eqs (s := 115) (av' := .sl 6 b_0 0 (l29.set n30.toNat v31).length) rfl (by simp) <| ImpX.here <| ARun.ghost <| ImpX.eqs (s := 118) (av' := .sl 6 b_0 0 (l29.set n30.toNat v31).length) rfl (by simp) <| ImpX.here <| ARun.ghost <| ImpX.eqs (s := 123) (av' := .sl 6 b_0 0 (l29.set n30.toNat v31).length) rfl (by simp) <| ImpX.here <| bndE h fun v34 e14 h => ARun.qv (t_index_sl rfl rfl rfl e14) rfl <| t_store_aptr1 (g := MarkS.av) (el' := v32) rfl rfl rfl rfl e14 rfl .p0 rfl <| ARun.ghost <| ImpX.eqs (s := 0) (av' := .sl 6 b_0 0 ((l29.set n30.toNat v31).set (w64 (n30 - (1 : Int))).toNat v32).length) rfl (by rw [List.length_set]) <| ImpX.here <| ARun.ghost <| ImpX.eqs (s := 113) (av' := .sl 6 b_0 0 ((l29.set n30.toNat v31).set (w64 (n30 - (1 : Int))).toNat v32).length) rfl (by rw [List.length_set]) <| ImpX.here <| ARun.ghost <| ImpX.eqs (s := 115) (av' := .sl 6 b_0 0 ((l29.set n30.toNat v31).set (w64 (n30 - (1 : Int))).toNat v32).length) rfl (by rw [List.length_set]) <| ImpX.here <| ARun.ghost <| ImpX.eqs (s := 118) (av' := .sl 6 b_0 0 ((l29.set n30.toNat v31).set (w64 (n30 - (1 : Int))).toNat v32).length) rfl (by rw [List.length_set]) <| ImpX.here <| ARun.ghost <| ImpX.eqs (s := 123) (av' := .sl 6 b_0 0 ((l29.set n30.toNat v31).set (w64 (n30 - (1 : Int))).toNat v32).length) rfl (by rw [List.length_set]) <| ImpX.here <| rN <| ATodo.blk <| tR <| rM rfl rfl <| ARun.qv (q_subw rfl rfl) rfl <| rA rfl rfl <| rN <| ATodo.stop <| ?_
              obtain rfl := Option.some.inj h
              exact hJ4 _ _ rfl <| ImpX.lq [0] rfl rfl rfl
            · refine have h := iteF hc h; ATodo.exit rfl <| have h := outL h hA4; ATodo.ret <| ?_
              obtain rfl := Option.some.inj h
              exact ImpX.here ⟨_, .nil, _, .cons .p0 .nil, ⟨rfl, rfl⟩⟩
    · refine have h := iteF hc h; tK <| tSR <| rM rfl rfl <| rM rfl rfl <| ARun.qv (q_addw rfl rfl) rfl <| ARun.qv (q_conv_int rfl) rfl <| ARun.qv (t_shr rfl rfl (by decide)) rfl <| ARun.qv (q_conv_int rfl) rfl <| rA rfl rfl <| rN <| tSR <| rM rfl rfl <| rM rfl rfl <| ARun.qv (q_addw rfl rfl) rfl <| rA rfl rfl <| rN <| tSR <| rA rfl rfl <| rA rfl rfl <| rN <| tS <| tSR <| rM rfl rfl <| rM rfl rfl <| ARun.qv (q_gtr rfl rfl) rfl <| rN <| ATodo.cut (fun σ' => ∃ (n35 : Int) (n36 : Int), slices_symMergeCmpFunc_Mark_j3 self p0x0 p1x0 p2x0 p3x0 fne n35 n36 = some r ∧ σ' = ⟨220, [(0, .sl 6 b_0 0 p0x0.length), (1, I p1x0), (2, I p2x0), (3, I p3x0), (4, .func (.func fne_F) fne_C), (18, I (w64 (shrI .u64 (IntKind.u64.wrap (w64 (p1x0 + p3x0))) (1 : Int)))), (19, I (w64 ((w64 (shrI .u64 (IntKind.u64.wrap (w64 (p1x0 + p3x0))) (1 : Int))) + p2x0))), (20, I n35), (21, I n36)], [(b_0, .arr 6 (p0x0.map MarkS.av))]⟩) ?_ ?_
      · refine ATodo.cond_d rfl (fun hc => ?_) (fun hc => ?_)
        · exact have h := iteT hc h; tSR <| rM rfl rfl <| rM rfl rfl <| ARun.qv (q_subw rfl rfl) rfl <| rA rfl rfl <| rN <| tR <| rM rfl rfl <| rA rfl rfl <| rN <| ATodo.stop <| ImpX.lq [0] ⟨w64 ((w64 ((w64 (shrI .u64 (IntKind.u64.wrap (w64 (p1x0 + p3x0))) (1 : Int))) + p2x0)) - p3x0), w64 (shrI .u64 (IntKind.u64.wrap (w64 (p1x0 + p3x0))) (1 : Int)), h, rfl⟩ rfl rfl
        · exact have h := iteF hc h; tSR <| rM rfl rfl <| rA rfl rfl <| rN <| tR <| rM rfl rfl <| rA rfl rfl <| rN <| ATodo.stop <| ImpX.lq [0] ⟨p1x0, p2x0, h, rfl⟩ rfl rfl
      · rintro σ' ⟨n35, n36, h, rfl⟩
        unfold slices_symMergeCmpFunc_Mark_j3 at h
        refine tSR <| rM rfl rfl <| ARun.qv (q_subw rfl rfl) rfl <| rA rfl rfl <| rN <| tS <| ATodo.block <| ATodo.loopI (fun x : Int × Int => slices_symMergeCmpFunc_Mark_b5 self p0x0 p1x0 p2x0 p3x0 fne x.1 x.2) (fun x σ' => σ' = ⟨220, [(0, .sl 6 b_0 0 p0x0.length), (1, I p1x0), (2, I p2x0), (3, I p3x0), (4, .func (.func fne_F) fne_C), (18, I (w64 (shrI .u64 (IntKind.u64.wrap (w64 (p1x0 + p3x0))) (1 : Int)))), (19, I (w64 ((w64 (shrI .u64 (IntKind.u64.wrap (w64 (p1x0 + p3x0))) (1 : Int))) + p2x0))), (20, I x.1), (21, I x.2), (22, I (w64 ((w64 ((w64 (shrI .u64 (IntKind.u64.wrap (w64 (p1x0 + p3x0))) (1 : Int))) + p2x0)) - (1 : Int))))], [(b_0, .arr 6 (p0x0.map MarkS.av))]⟩) h ?_ ?_
        · exact ImpX.lq [0] rfl rfl rfl
        · intro x z5 σ' J5 hmk h hJ5 hA5
          obtain ⟨n39, n40⟩ := x
          obtain rfl := hmk
          replace h : slices_symMergeCmpFunc_Mark_b5 self p0x0 p1x0 p2x0 p3x0 fne n39 n40 = some z5 := h
          unfold slices_symMergeCmpFunc_Mark_b5 at h
          refine tS <| tSR <| rM rfl rfl <| rM rfl rfl <| ARun.qv (q_lss rfl rfl) rfl <| rN <| ATodo.cond_d rfl (fun hc => ?_) (fun hc => ?_)
          · refine have h := iteT hc h; tK <| ATodo.block <| tSR <| rM rfl rfl <| rM rfl rfl <| ARun.qv (q_addw rfl rfl) rfl <| ARun.qv (q_conv_int rfl) rfl <| ARun.qv (t_shr rfl rfl (by decide)) rfl <| ARun.qv (q_conv_int rfl) rfl <| rA rfl rfl <| rN <| tS <| ATodo.regionM (id := 35) (A := [0, 0, 0, 0, 12, 30, 62, 0, 0, 384, 896, 2047, 4095, 8191]) 11 mixed rfl (by kernel_rfl) (by kernel_rfl) <| AM.qv (q_move rfl) rfl <| AM.qv (q_move rfl) rfl <| AM.qv (q_move rfl) rfl <| AM.qv (q_move rfl) rfl <| AM.qv (q_subw rfl rfl) rfl <| bndE h fun v41 e15 h => AM.qv (t_index_sl rfl rfl rfl e15) rfl <| AM.qv (t_load_aptr_agg (g := MarkS.av) rfl rfl (.inl .p0) rfl e15 rfl) rfl <| AM.qv (q_move rfl) rfl <| AM.qv (q_move rfl) rfl <| bndE h fun v42 e16 h => AM.qv (t_index_sl rfl rfl rfl e16) rfl <| AM.qv (t_load_aptr_agg (g := MarkS.av) rfl rfl (.inl .p0) rfl e16 rfl) rfl <| AM.nil <| bndE h fun v43 e17 h => r_callvp rfl rfl (fne_h e17) (CoL.refl _) rfl <| ARun.qv (q_lss rfl rfl) rfl <| ARun.qv (q_not_d rfl) rfl <| rN <| ATodo.cut (fun σ' => ∃ (n44 : Int) (n45 : Int), slices_symMergeCmpFunc_Mark_j4 n44 n45 = some z5 ∧ σ' = ⟨220, [(0, .sl 6 b_0 0 p0x0.length), (1, I p1x0), (2, I p2x0), (3, I p3x0), (4, .func (.func fne_F) fne_C), (18, I (w64 (shrI .u64 (IntKind.u64.wrap (w64 (p1x0 + p3x0))) (1 : Int)))), (19, I (w64 ((w64 (shrI .u64 (IntKind.u64.wrap (w64 (p1x0 + p3x0))) (1 : Int))) + p2x0))), (20, I n44), (21, I n45), (22, I (w64 ((w64 ((w64 (shrI .u64 (IntKind.u64.wrap (w64 (p1x0 + p3x0))) (1 : Int))) + p2x0)) - (1 : Int))))], [(b_0, .arr 6 (p0x0.map MarkS.av))]⟩) ?_ ?_
            · refine ATodo.cond_d rfl (fun hc => ?_) (fun hc => ?_)
              · exact have h := iteT hc h; tR <| rM rfl rfl <| ARun.qv (q_addw rfl rfl) rfl <| rA rfl rfl <| rN <| ATodo.stop <| ImpX.lq [0] ⟨w64 ((w64 (shrI .u64 (IntKind.u64.wrap (w64 (n39 + n40))) (1 : Int))) + (1 : Int)), n40, h, rfl⟩ rfl rfl
              · exact have h := iteF hc h; tR <| rM rfl rfl <| rA rfl rfl <| rN <| ATodo.stop <| ImpX.lq [0] ⟨n39, w64 (shrI .u64 (IntKind.u64.wrap (w64 (n39 + n40))) (1 : Int)), h, rfl⟩ rfl rfl
            · rintro σ' ⟨n44, n45, h, rfl⟩
              unfold slices_symMergeCmpFunc_Mark_j4 at h
              refine ATodo.blk <| ATodo.stop <| ?_
              obtain rfl := Option.some.inj h
              exact hJ5 _ _ rfl <| ImpX.lq [0] rfl rfl rfl
          · refine have h := iteF hc h; ATodo.exit rfl <| have h := outL h hA5; tSR <| rM rfl rfl <| rM rfl rfl <| ARun.qv (q_subw rfl rfl) rfl <| rA rfl rfl <| rN <| tS <| tS <| ATodo.cut (fun σ' => ∃ (c46 : Bool), slices_symMergeCmpFunc_Mark_j5 self p0x0 p1x0 p2x0 p3x0 fne n39 c46 = some r ∧ σ' = ⟨220, [(0, .sl 6 b_0 0 p0x0.length), (1, I p1x0), (2, I p2x0), (3, I p3x0), (4, .func (.func fne_F) fne_C), (18, I (w64 (shrI .u64 (IntKind.u64.wrap (w64 (p1x0 + p3x0))) (1 : Int)))), (20, I n39), (24, I (w64 ((w64 ((w64 (shrI .u64 (IntKind.u64.wrap (w64 (p1x0 + p3x0))) (1 : Int))) + p2x0)) - n39))), (185, .bool c46)], [(b_0, .arr 6 (p0x0.map MarkS.av))]⟩) ?_ ?_
            · refine tR <| rM rfl rfl <| rM rfl rfl <| ARun.qv (q_lss rfl rfl) rfl <| rM rfl rfl <| ARun.guard_dt rfl rfl rfl (fun hc => ?_) (fun hc => ?_)
              · rw [andTd hc] at h
                exact rM rfl rfl <| rY rfl rfl rfl <| rM rfl rfl <| rY rfl rfl rfl <| ARun.qv (q_lss rfl rfl) rfl <| rT rfl rfl rfl <| rN <| ATodo.stop <| ImpX.lq [0] ⟨decide (p2x0 < (w64 ((w64 ((w64 (shrI .u64 (IntKind.u64.wrap (w64 (p1x0 + p3x0))) (1 : Int))) + p2x0)) - n39))), h, rfl⟩ rfl rfl
              · rw [andFd hc] at h
                exact rG rfl rfl rfl rfl <| rG rfl rfl rfl rfl <| rE rfl rfl rfl <| rN <| ATodo.stop <| ImpX.lq [0] ⟨false, h, rfl⟩ rfl rfl
            · rintro σ' ⟨c46, h, rfl⟩
              unfold slices_symMergeCmpFunc_Mark_j5 at h
              refine ATodo.cut (fun σ' => ∃ (l47 : List MarkS), slices_symMergeCmpFunc_Mark_j6 self p1x0 p2x0 p3x0 fne n39 l47 = some r ∧ σ' = ⟨220, [(0, .sl 6 b_0 0 l47.length), (1, I p1x0), (3, I p3x0), (4, .func (.func fne_F) fne_C), (18, I (w64 (shrI .u64 (IntKind.u64.wrap (w64 (p1x0 + p3x0))) (1 : Int)))), (20, I n39), (24, I (w64 ((w64 ((w64 (shrI .u64 (IntKind.u64.wrap (w64 (p1x0 + p3x0))) (1 : Int))) + p2x0)) - n39)))], [(b_0, .arr 6 (l47.map MarkS.av))]⟩) ?_ ?_
              · refine ATodo.cond rfl (fun hc => ?_) (fun hc => ?_)
                · exact have h := iteT hc h; tR <| rM rfl rfl <| rM rfl rfl <| rM rfl rfl <| rM rfl rfl <| rM rfl rfl <| bndE h fun v48 e18 h => t_call0 rfl (slices_rotateCmpFunc_Mark_c fne_h (lenOk_f e18)) (CoL.refl _) (.cons .p0 .nil) rfl rfl <| ARun.ghost <| ImpX.eqs (s := 0) (av' := .sl 6 b_0 0 v48.length) rfl (congrArg (AV.sl 6 b_0 0) (lenOk_l e18)) <| ImpX.here <| ARun.ghost <| ImpX.eqs (s := 186) (av' := .sl 6 b_0 0 v48.length) rfl (congrArg (AV.sl 6 b_0 0) (lenOk_l e18)) <| ImpX.here <| rN <| ATodo.stop <| ImpX.lq [0] ⟨v48, h, rfl⟩ rfl rfl
                · exact have h := iteFb hc h; tK <| ATodo.stop <| ImpX.lq [0] ⟨p0x0, h, rfl⟩ rfl rfl
              · rintro σ' ⟨l47, h, rfl⟩
                unfold slices_symMergeCmpFunc_Mark_j6 at h
                refine tS <| tS <| ATodo.cut (fun σ' => ∃ (c49 : Bool), slices_symMergeCmpFunc_Mark_j7 self p1x0 p2x0 p3x0 fne n39 l47 c49 = some r ∧ σ' = ⟨220, [(0, .sl 6 b_0 0 l47.length), (1, I p1x0), (3, I p3x0), (4, .func (.func fne_F) fne_C), (18, I (w64 (shrI .u64 (IntKind.u64.wrap (w64 (p1x0 + p3x0))) (1 : Int)))), (20, I n39), (24, I (w64 ((w64 ((w64 (shrI .u64 (IntKind.u64.wrap (w64 (p1x0 + p3x0))) (1 : Int))) + p2x0)) - n39))), (199, .bool c49)], [(b_0, .arr 6 (l47.map MarkS.av))]⟩) ?_ ?_
                · refine tR <| rM rfl rfl <| rM rfl rfl <| ARun.qv (q_lss rfl rfl) rfl <| rM rfl rfl <| ARun.guard_dt rfl rfl rfl (fun hc => ?_) (fun hc => ?_)
                  · rw [andTd hc] at h
                    exact rM rfl rfl <| rY rfl rfl rfl <| rM rfl rfl <| rY rfl rfl rfl <| ARun.qv (q_lss rfl rfl) rfl <| rT rfl rfl rfl <| rN <| ATodo.stop <| ImpX.lq [0] ⟨decide (n39 < (w64 (shrI .u64 (IntKind.u64.wrap (w64 (p1x0 + p3x0))) (1 : Int)))), h, rfl⟩ rfl rfl
                  · rw [andFd hc] at h
                    exact rG rfl rfl rfl rfl <| rG rfl rfl rfl rfl <| rE rfl rfl rfl <| rN <| ATodo.stop <| ImpX.lq [0] ⟨false, h, rfl⟩ rfl rfl
                · rintro σ' ⟨c49, h, rfl⟩
                  unfold slices_symMergeCmpFunc_Mark_j7 at h
                  refine ATodo.cut (fun σ' => ∃ (l50 : List MarkS), slices_symMergeCmpFunc_Mark_j8 self p1x0 p2x0 p3x0 fne n39 l50 = some r ∧ σ' = ⟨220, [(0, .sl 6 b_0 0 l50.length), (3, I p3x0), (4, .func (.func fne_F) fne_C), (18, I (w64 (shrI .u64 (IntKind.u64.wrap (w64 (p1x0 + p3x0))) (1 : Int)))), (24, I (w64 ((w64 ((w64 (shrI .u64 (IntKind.u64.wrap (w64 (p1x0 + p3x0))) (1 : Int))) + p2x0)) - n39)))], [(b_0, .arr 6 (l50.map MarkS.av))]⟩) ?_ ?_
                  · refine ATodo.cond rfl (fun hc => ?_) (fun hc => ?_)
                    · exact have h := iteT hc h; tR <| rM rfl rfl <| rM rfl rfl <| rM rfl rfl <| rM rfl rfl <| rM rfl rfl <| bndE h fun v51 e19 h => t_call0 rfl (self_h fne_h (lenOk_f e19)) (CoL.refl _) (.cons .p0 .nil) rfl rfl <| ARun.ghost <| ImpX.eqs (s := 0) (av' := .sl 6 b_0 0 v51.length) rfl (congrArg (AV.sl 6 b_0 0) (lenOk_l e19)) <| ImpX.here <| ARun.ghost <| ImpX.eqs (s := 200) (av' := .sl 6 b_0 0 v51.length) rfl (congrArg (AV.sl 6 b_0 0) (lenOk_l e19)) <| ImpX.here <| rN <| ATodo.stop <| ImpX.lq [0] ⟨v51, h, rfl⟩ rfl rfl
                    · exact have h := iteFb hc h; tK <| ATodo.stop <| ImpX.lq [0] ⟨l47, h, rfl⟩ rfl rfl
                  · rintro σ' ⟨l50, h, rfl⟩
                    unfold slices_symMergeCmpFunc_Mark_j8 at h
                    refine tS <| ATodo.cut (fun σ' => ∃ (c52 : Bool), slices_symMergeCmpFunc_Mark_j9 self p1x0 p2x0 p3x0 fne n39 l50 c52 = some r ∧ σ' = ⟨220, [(0, .sl 6 b_0 0 l50.length), (3, I p3x0), (4, .func (.func fne_F) fne_C), (18, I (w64 (shrI .u64 (IntKind.u64.wrap (w64 (p1x0 + p3x0))) (1 : Int)))), (24, I (w64 ((w64 ((w64 (shrI .u64 (IntKind.u64.wrap (w64 (p1x0 + p3x0))) (1 : Int))) + p2x0)) - n39))), (213, .bool c52)], [(b_0, .arr 6 (l50.map MarkS.av))]⟩) ?_ ?_
                    · refine tR <| rM rfl rfl <| rM rfl rfl <| ARun.qv (q_lss rfl rfl) rfl <| rM rfl rfl <| ARun.guard_dt rfl rfl rfl (fun hc => ?_) (fun hc => ?_)
                      · rw [andTd hc] at h
                        exact rM rfl rfl <| rY rfl rfl rfl <| rM rfl rfl <| rY rfl rfl rfl <| ARun.qv (q_lss rfl rfl) rfl <| rT rfl rfl rfl <| rN <| ATodo.stop <| ImpX.lq [0] ⟨decide ((w64 ((w64 ((w64 (shrI .u64 (IntKind.u64.wrap (w64 (p1x0 + p3x0))) (1 : Int))) + p2x0)) - n39)) < p3x0), h, rfl⟩ rfl rfl
                      · rw [andFd hc] at h
                        exact rG rfl rfl rfl rfl <| rG rfl rfl rfl rfl <| rE rfl rfl rfl <| rN <| ATodo.stop <| ImpX.lq [0] ⟨false, h, rfl⟩ rfl rfl
                    · rintro σ' ⟨c52, h, rfl⟩
                      unfold slices_symMergeCmpFunc_Mark_j9 at h
                      refine ATodo.cut (fun σ' => ∃ (l53 : List MarkS), slices_symMergeCmpFunc_Mark_j10 l53 = some r ∧ σ' = ⟨220, [], [(b_0, .arr 6 (l53.map MarkS.av))]⟩) ?_ ?_
                      · refine ATodo.cond rfl (fun hc => ?_) (fun hc => ?_)
                        · exact have h := iteT hc h; tR <| rM rfl rfl <| rM rfl rfl <| rM rfl rfl <| rM rfl rfl <| rM rfl rfl <| bndE h fun v54 e20 h => t_call0 rfl (self_h fne_h (lenOk_f e20)) (CoL.refl _) (.cons .p0 .nil) rfl rfl <| ARun.ghost <| ImpX.eqs (s := 0) (av' := .sl 6 b_0 0 v54.length) rfl (congrArg (AV.sl 6 b_0 0) (lenOk_l e20)) <| ImpX.here <| ARun.ghost <| ImpX.eqs (s := 214) (av' := .sl 6 b_0 0 v54.length) rfl (congrArg (AV.sl 6 b_0 0) (lenOk_l e20)) <| ImpX.here <| rN <| ATodo.stop <| ImpX.lq [0] ⟨v54, h, rfl⟩ rfl rfl
                        · exact have h := iteFb hc h; tK <| ATodo.stop <| ImpX.lq [0] ⟨l50, h, rfl⟩ rfl rfl
                      · rintro σ' ⟨l53, h, rfl⟩
                        unfold slices_symMergeCmpFunc_Mark_j10 at h
                        refine ATodo.nil <| ?_
                        obtain rfl := Option.some.inj h
                        exact ImpX.here ⟨_, .nil, _, .cons .p0 .nil, ⟨rfl, rfl⟩⟩
theorem slices_symMergeCmpFunc_Mark_r_c [GI : GTab] : ∀ (k : Nat) {b_0 : Bk} {p0x0 : List MarkS} {p1x0 : Int} {p2x0 : Int} {p3x0 : Int} {fne : MarkS → MarkS → Option Int} {fne_F : FuncId} [IsFn Tryz.prog fne_F] {fne_C : List AV} (fne_h : ∀ {y0 y1 : _} {u : Int}, fne y0 y1 = some u → Pu Tryz.prog fne_F (.agg [I y0.At, .str y0.Device, I y0.Kind, I y0.Version.Major, I y0.Version.Minor, I y0.Version.Patch] :: .agg [I y1.At, .str y1.Device, I y1.Kind, I y1.Version.Major, I y1.Version.Minor, I y1.Version.Patch] ::  fne_C) (I u)) {r : (List MarkS)}, slices_symMergeCmpFunc_Mark_r k p0x0 p1x0 p2x0 p3x0 fne = some r → ACall Tryz.prog 146 [.sl 6 b_0 0 p0x0.length, I p1x0, I p2x0, I p3x0, .func (.func fne_F) fne_C] [(b_0, .arr 6 (p0x0.map MarkS.av))] (T0 ([(b_0, .arr 6 (r.map MarkS.av))]) (.tup [])) := by
  intro k
  induction k with
  | zero => intro b_0 p0x0 p1x0 p2x0 p3x0 fne fne_F _ fne_C fne_h r h; cases h
  | succ k ih => intro b_0 p0x0 p1x0 p2x0 p3x0 fne fne_F _ fne_C fne_h r h; exact slices_symMergeCmpFunc_Mark_bd_c ih fne_h h
theorem slices_symMergeCmpFunc_Mark_c [GI : GTab] {b_0 : Bk} {p0x0 : List MarkS} {p1x0 : Int} {p2x0 : Int} {p3x0 : Int} {fne : MarkS → MarkS → Option Int} {fne_F : FuncId} [IsFn Tryz.prog fne_F] {fne_C : List AV} (fne_h : ∀ {y0 y1 : _} {u : Int}, fne y0 y1 = some u → Pu Tryz.prog fne_F (.agg [I y0.At, .str y0.Device, I y0.Kind, I y0.Version.Major, I y0.Version.Minor, I y0.Version.Patch] :: .agg [I y1.At, .str y1.Device, I y1.Kind, I y1.Version.Major, I y1.Version.Minor, I y1.Version.Patch] ::  fne_C) (I u)) {r : (List MarkS)} (h : slices_symMergeCmpFunc_Mark p0x0 p1x0 p2x0 p3x0 fne = some r) : ACall Tryz.prog 146 [.sl 6 b_0 0 p0x0.length, I p1x0, I p2x0, I p3x0, .func (.func fne_F) fne_C] [(b_0, .arr 6 (p0x0.map MarkS.av))] (T0 ([(b_0, .arr 6 (r.map MarkS.av))]) (.tup [])) := slices_symMergeCmpFunc_Mark_r_c depth fne_h h

set_option maxHeartbeats 4000000 in
theorem slices_stableCmpFunc_Mark_c [GI : GTab] {b_0 : Bk} {p0x0 : List MarkS} {p1x0 : Int} {fnc : MarkS → MarkS → Option Int} {fnc_F : FuncId} [IsFn Tryz.prog fnc_F] {fnc_C : List AV} (fnc_h : ∀ {y0 y1 : _} {u : Int}, fnc y0 y1 = some u → Pu Tryz.prog fnc_F (.agg [I y0.At, .str y0.Device, I y0.Kind, I y0.Version.Major, I y0.Version.Minor, I y0.Version.Patch] :: .agg [I y1.At, .str y1.Device, I y1.Kind, I y1.Version.Major, I y1.Version.Minor, I y1.Version.Patch] ::  fnc_C) (I u)) {r : (List MarkS)} (h : slices_stableCmpFunc_Mark p0x0 p1x0 fnc = some r) : ACall Tryz.prog 106 [.sl 6 b_0 0 p0x0.length, I p1x0, .func (.func fnc_F) fnc_C] [(b_0, .arr 6 (p0x0.map MarkS.av))] (T0 ([(b_0, .arr 6 (r.map MarkS.av))]) (.tup [])) := by
  unfold slices_stableCmpFunc_Mark at h
  refine ACall.lessH ?_
  refine ACall.bodyN Tryz.func106 rfl Tryz.ntmps106 Tryz.results106 rfl rfl ?_
  refine tSR <| rA rfl rfl <| rN <| tSR <| rM rfl rfl <| rA rfl rfl <| rA rfl rfl <| rN <| tS <| ATodo.block <| ATodo.loopI (fun x : (List MarkS) × Int × Int => slices_stableCmpFunc_Mark_b1 p1x0 fnc x.1 x.2.1 x.2.2) (fun x σ' => σ' = ⟨63, [(0, .sl 6 b_0 0 x.1.length), (1, I p1x0), (2, .func (.func fnc_F) fnc_C), (6, I (20 : Int)), (7, I x.2.1), (8, I x.2.2)], [(b_0, .arr 6 (x.1.map MarkS.av))]⟩) h ?_ ?_
  · exact ImpX.lq [0] rfl rfl rfl
  · intro x z1 σ' J1 hmk h hJ1 hA1
    obtain ⟨l4, n5, n6⟩ := x
    obtain rfl := hmk
    replace h : slices_stableCmpFunc_Mark_b1 p1x0 fnc l4 n5 n6 = some z1 := h
    unfold slices_stableCmpFunc_Mark_b1 at h
    refine tS <| tSR <| rM rfl rfl <| rM rfl rfl <| ARun.qv (q_leq rfl rfl) rfl <| rN <| ATodo.cond_d rfl (fun hc => ?_) (fun hc => ?_)
    · refine have h := iteT hc h; tK <| ATodo.block <| tSR <| rM rfl rfl <| rM rfl rfl <| rM rfl rfl <| rM rfl rfl <| bndE h fun v7 e1 h => t_call0 rfl (slices_insertionSortCmpFunc_Mark_c fnc_h (lenOk_f e1)) (CoL.refl _) (.cons .p0 .nil) rfl rfl <| ARun.ghost <| ImpX.eqs (s := 0) (av' := .sl 6 b_0 0 v7.length) rfl (congrArg (AV.sl 6 b_0 0) (lenOk_l e1)) <| ImpX.here <| ARun.ghost <| ImpX.eqs (s := 14) (av' := .sl 6 b_0 0 v7.length) rfl (congrArg (AV.sl 6 b_0 0) (lenOk_l e1)) <| ImpX.here <| rN <| tSR <| rM rfl rfl <| rA rfl rfl <| rN <| tR <| rM rfl rfl <| rM rfl rfl <| ARun.qv (q_addw rfl rfl) rfl <| rA rfl rfl <| rN <| ATodo.blk <| ATodo.stop <| ?_
      obtain rfl := Option.some.inj h
      exact hJ1 _ _ rfl <| ImpX.lq [0] rfl rfl rfl
    · refine have h := iteF hc h; ATodo.exit rfl <| have h := outL h hA1; ?_
      unfold slices_stableCmpFunc_Mark_k3 at h
      refine tSR <| rM rfl rfl <| rM rfl rfl <| rM rfl rfl <| rM rfl rfl <| bndE h fun v8 e2 h => t_call0 rfl (slices_insertionSortCmpFunc_Mark_c fnc_h (lenOk_f e2)) (CoL.refl _) (.cons .p0 .nil) rfl rfl <| ARun.ghost <| ImpX.eqs (s := 0) (av' := .sl 6 b_0 0 v8.length) rfl (congrArg (AV.sl 6 b_0 0) (lenOk_l e2)) <| ImpX.here <| ARun.ghost <| ImpX.eqs (s := 23) (av' := .sl 6 b_0 0 v8.length) rfl (congrArg (AV.sl 6 b_0 0) (lenOk_l e2)) <| ImpX.here <| rN <| ATodo.block <| ATodo.loopI (fun x : (List MarkS) × Int => slices_stableCmpFunc_Mark_b2 p1x0 fnc x.1 x.2) (fun x σ' => σ' = ⟨63, [(0, .sl 6 b_0 0 x.1.length), (1, I p1x0), (2, .func (.func fnc_F) fnc_C), (6, I x.2)], [(b_0, .arr 6 (x.1.map MarkS.av))]⟩) h ?_ ?_
      · exact ImpX.lq [0] rfl rfl rfl
      · intro x z2 σ' J2 hmk h hJ2 hA2
        obtain ⟨l11, n12⟩ := x
        obtain rfl := hmk
        replace h : slices_stableCmpFunc_Mark_b2 p1x0 fnc l11 n12 = some z2 := h
        unfold slices_stableCmpFunc_Mark_b2 at h
        refine tS <| tSR <| rM rfl rfl <| rM rfl rfl <| ARun.qv (q_lss rfl rfl) rfl <| rN <| ATodo.cond_d rfl (fun hc => ?_) (fun hc => ?_)
        · refine have h := iteT hc h; tK <| ATodo.block <| tSR <| rM rfl rfl <| ARun.qv (q_mulw rfl rfl) rfl <| rA rfl rfl <| rA rfl rfl <| rN <| tS <| ATodo.block <| ATodo.loopI (fun x : (List MarkS) × Int × Int => slices_stableCmpFunc_Mark_b3 p1x0 fnc n12 x.1 x.2.1 x.2.2) (fun x σ' => σ' = ⟨63, [(0, .sl 6 b_0 0 x.1.length), (1, I p1x0), (2, .func (.func fnc_F) fnc_C), (6, I n12), (7, I x.2.1), (8, I x.2.2)], [(b_0, .arr 6 (x.1.map MarkS.av))]⟩) h ?_ ?_
          · exact ImpX.lq [0] rfl rfl rfl
          · intro x z3 σ' J3 hmk h hJ3 hA3
            obtain ⟨l16, n17, n18⟩ := x
            obtain rfl := hmk
            replace h : slices_stableCmpFunc_Mark_b3 p1x0 fnc n12 l16 n17 n18 = some z3 := h
            unfold slices_stableCmpFunc_Mark_b3 at h
            refine tS <| tSR <| rM rfl rfl <| rM rfl rfl <| ARun.qv (q_leq rfl rfl) rfl <| rN <| ATodo.cond_d rfl (fun hc => ?_) (fun hc => ?_)
            · refine have h := iteT hc h; tK <| ATodo.block <| tSR <| rM rfl rfl <| rM rfl rfl <| rM rfl rfl <| rM rfl rfl <| ARun.qv (q_addw rfl rfl) rfl <| rM rfl rfl <| rM rfl rfl <| bndE h fun v19 e3 h => t_call0 rfl (slices_symMergeCmpFunc_Mark_c fnc_h (lenOk_f e3)) (CoL.refl _) (.cons .p0 .nil) rfl rfl <| ARun.ghost <| ImpX.eqs (s := 0) (av' := .sl 6 b_0 0 v19.length) rfl (congrArg (AV.sl 6 b_0 0) (lenOk_l e3)) <| ImpX.here <| ARun.ghost <| ImpX.eqs (s := 36) (av' := .sl 6 b_0 0 v19.length) rfl (congrArg (AV.sl 6 b_0 0) (lenOk_l e3)) <| ImpX.here <| rN <| tSR <| rM rfl rfl <| rA rfl rfl <| rN <| tR <| rM rfl rfl <| rM rfl rfl <| ARun.qv (q_mulw rfl rfl) rfl <| ARun.qv (q_addw rfl rfl) rfl <| rA rfl rfl <| rN <| ATodo.blk <| ATodo.stop <| ?_
              obtain rfl := Option.some.inj h
              exact hJ3 _ _ rfl <| ImpX.lq [0] rfl rfl rfl
            · refine have h := iteF hc h; ATodo.exit rfl <| have h := outL h hA3; ?_
              unfold slices_stableCmpFunc_Mark_k2 at h
              refine tS <| tSR <| rM rfl rfl <| rM rfl rfl <| ARun.qv (q_addw rfl rfl) rfl <| rA rfl rfl <| rN <| tSR <| rM rfl rfl <| rM rfl rfl <| ARun.qv (q_lss rfl rfl) rfl <| rN <| ATodo.cut (fun σ' => ∃ (l20 : List MarkS), slices_stableCmpFunc_Mark_j1 n12 l20 = some z2 ∧ σ' = ⟨63, [(0, .sl 6 b_0 0 l20.length), (1, I p1x0), (2, .func (.func fnc_F) fnc_C), (6, I n12)], [(b_0, .arr 6 (l20.map MarkS.av))]⟩) ?_ ?_
              · refine ATodo.cond_d rfl (fun hc => ?_) (fun hc => ?_)
                · exact have h := iteT hc h; tR <| rM rfl rfl <| rM rfl rfl <| rM rfl rfl <| rM rfl rfl <| rM rfl rfl <| bndE h fun v21 e4 h => t_call0 rfl (slices_symMergeCmpFunc_Mark_c fnc_h (lenOk_f e4)) (CoL.refl _) (.cons .p0 .nil) rfl rfl <| ARun.ghost <| ImpX.eqs (s := 0) (av' := .sl 6 b_0 0 v21.length) rfl (congrArg (AV.sl 6 b_0 0) (lenOk_l e4)) <| ImpX.here <| ARun.ghost <| ImpX.eqs (s := 55) (av' := .sl 6 b_0 0 v21.length) rfl (congrArg (AV.sl 6 b_0 0) (lenOk_l e4)) <| ImpX.here <| rN <| ATodo.stop <| ImpX.lq [0] ⟨v21, h, rfl⟩ rfl rfl
                · exact have h := iteF hc h; tK <| ATodo.stop <| ImpX.lq [0] ⟨l16, h, rfl⟩ rfl rfl
              · rintro σ' ⟨l20, h, rfl⟩
                unfold slices_stableCmpFunc_Mark_j1 at h
                refine tR <| rM rfl rfl <| ARun.qv (q_mulw rfl rfl) rfl <| rA rfl rfl <| rN <| ATodo.blk <| ATodo.stop <| ?_
                obtain rfl := Option.some.inj h
                exact hJ2 _ _ rfl <| ImpX.lq [0] rfl rfl rfl
        · refine have h := iteF hc h; ATodo.exit rfl <| have h := outL h hA2; ATodo.nil <| ?_
          obtain rfl := Option.some.inj h
          exact ImpX.here ⟨_, .nil, _, .cons .p0 .nil, ⟨rfl, rfl⟩⟩

set_option maxHeartbeats 4000000 in
theorem slices_SortStableFunc_Mark_Mark_c [GI : GTab] {b_0 : Bk} {p0x0 : List MarkS} {fnb : MarkS → MarkS → Option Int} {fnb_F : FuncId} [IsFn Tryz.prog fnb_F] {fnb_C : List AV} (fnb_h : ∀ {y0 y1 : _} {u : Int}, fnb y0 y1 = some u → Pu Tryz.prog fnb_F (.agg [I y0.At, .str y0.Device, I y0.Kind, I y0.Version.Major, I y0.Version.Minor, I y0.Version.Patch] :: .agg [I y1.At, .str y1.Device, I y1.Kind, I y1.Version.Major, I y1.Version.Minor, I y1.Version.Patch] ::  fnb_C) (I u)) {r : (List MarkS)} (h : slices_SortStableFunc_Mark_Mark p0x0 fnb = some r) : ACall Tryz.prog 47 [.sl 6 b_0 0 p0x0.length, .func (.func fnb_F) fnb_C] [(b_0, .arr 6 (p0x0.map MarkS.av))] (T0 ([(b_0, .arr 6 (r.map MarkS.av))]) (.tup [])) := by
  unfold slices_SortStableFunc_Mark_Mark at h
  refine ACall.lessH ?_
  refine ACall.bodyN Tryz.func47 rfl Tryz.ntmps47 Tryz.results47 rfl rfl ?_
  refine tR <| rM rfl rfl <| rM rfl rfl <| ARun.qv (t_len_sl rfl) rfl <| rM rfl rfl <| bndE h fun v1 e1 h => t_call0 rfl (slices_stableCmpFunc_Mark_c fnb_h (lenOk_f e1)) (CoL.refl _) (.cons .p0 .nil) rfl rfl <| ARun.ghost <| ImpX.eqs (s := 0) (av' := .sl 6 b_0 0 v1.length) rfl (congrArg (AV.sl 6 b_0 0) (lenOk_l e1)) <| ImpX.here <| ARun.ghost <| ImpX.eqs (s := 4) (av' := .sl 6 b_0 0 v1.length) rfl (congrArg (AV.sl 6 b_0 0) (lenOk_l e1)) <| ImpX.here <| ARun.ghost <| ImpX.eqs (s := 5) (av' := .sl 6 b_0 0 v1.length) rfl (congrArg (AV.sl 6 b_0 0) (lenOk_l e1)) <| ImpX.here <| rN <| ATodo.nil <| ?_
  obtain rfl := Option.some.inj h
  exact ImpX.here ⟨_, .nil, _, .cons .p0 .nil, ⟨rfl, rfl⟩⟩

set_option maxHeartbeats 4000000 in
theorem Stream_Marks_1x_c [GI : GTab] {p0x0 : MarkS} {p1x0 : MarkS} {r : Bool} (h : Stream_Marks_1x p0x0 p1x0 = r) : Pu Tryz.prog 50 [.agg [I p0x0.At, .str p0x0.Device, I p0x0.Kind, I p0x0.Version.Major, I p0x0.Version.Minor, I p0x0.Version.Patch], .agg [I p1x0.At, .str p1x0.Device, I p1x0.Kind, I p1x0.Version.Major, I p1x0.Version.Minor, I p1x0.Version.Patch]] (.bool r) := by
  unfold Stream_Marks_1x at h
  refine ACall.bodyN Tryz.func50 rfl Tryz.ntmps50 Tryz.results50 rfl rfl ?_
  refine tSR <| n_box rfl rfl rfl rfl fun b1 => n_box rfl rfl rfl rfl fun b2 => rA rfl rfl <| rN <| tSR <| ARun.qv (q_load_ptr_all rfl rfl .p1 rfl) rfl <| ARun.qv (q_load_ptr_all rfl rfl .p0 rfl) rfl <| r_callp rfl (Q_MarkOrder_c rfl) (CoL.refl _) rfl <| ARun.qv (q_eql rfl rfl) rfl <| rA rfl rfl <| rN <| ATodo.ret <| ?_
  obtain rfl := h
  exact ImpX.here ⟨_, .cons (.tmp _ _ rfl) .nil, rfl⟩

set_option maxHeartbeats 4000000 in
theorem slices_CompactFunc_Mark_Mark_c [GI : GTab] {b_0 : Bk} {p0x0 : List MarkS} {fnb : MarkS → MarkS → Option Bool} {fnb_F : FuncId} [IsFn Tryz.prog fnb_F] {fnb_C : List AV} (fnb_h : ∀ {y0 y1 : _} {u : Bool}, fnb y0 y1 = some u → Pu Tryz.prog fnb_F (.agg [I y0.At, .str y0.Device, I y0.Kind, I y0.Version.Major, I y0.Version.Minor, I y0.Version.Patch] :: .agg [I y1.At, .str y1.Device, I y1.Kind, I y1.Version.Major, I y1.Version.Minor, I y1.Version.Patch] ::  fnb_C) (.bool u)) {r : (List MarkS)} (h : slices_CompactFunc_Mark_Mark p0x0 fnb = some r) : ACall Tryz.prog 49 [.sl 6 b_0 0 p0x0.length, .func (.func fnb_F) fnb_C] [(b_0, .arr 6 (p0x0.map MarkS.av))] (T1 (fun d_0 => [(d_0, .arr 6 (r.map MarkS.av))]) (fun d_0 => .sl 6 d_0 0 r.length)) := by
  unfold slices_CompactFunc_Mark_Mark at h
  refine ACall.lessH ?_
  refine ACall.bodyN Tryz.func49 rfl Tryz.ntmps49 Tryz.results49 rfl rfl ?_
  refine tSR <| rA rfl rfl <| rN <| tS <| tSR <| rM rfl rfl <| ARun.qv (t_len_sl rfl) rfl <| ARun.qv (q_lss rfl rfl) rfl <| rN <| ATodo.cond_d rfl (fun hc => ?_) (fun hc => ?_)
  · refine have h := iteT hc h; tSR <| rM rfl rfl <| rA rfl rfl <| rN <| ATodo.ret <| ?_
    obtain rfl := Option.some.inj h
    exact ImpX.here ⟨_, .cons (.tmp _ _ rfl) .nil, _, .cons .p0 .nil, ⟨b_0, rfl, rfl⟩⟩
  · refine have h := iteF hc h; tK <| tS <| tSR <| rA rfl rfl <| rN <| ATodo.block <| ATodo.loopI (fun x : Int => slices_CompactFunc_Mark_Mark_b1 p0x0 fnb x) (fun x σ' => σ' = ⟨66, [(0, .sl 6 b_0 0 p0x0.length), (1, .func (.func fnb_F) fnb_C), (5, I x)], [(b_0, .arr 6 (p0x0.map MarkS.av))]⟩) h ?_ ?_
    · exact ImpX.lq [0] rfl rfl rfl
    · intro n2 z1 σ' J1 hmk h hJ1 hA1
      obtain rfl := hmk
      replace h : slices_CompactFunc_Mark_Mark_b1 p0x0 fnb n2 = some z1 := h
      unfold slices_CompactFunc_Mark_Mark_b1 at h
      refine tS <| tSR <| rM rfl rfl <| rM rfl rfl <| ARun.qv (t_len_sl rfl) rfl <| ARun.qv (q_lss rfl rfl) rfl <| rN <| ATodo.cond_d rfl (fun hc => ?_) (fun hc => ?_)
      · refine have h := iteT hc h; tK <| tS <| ATodo.block <| tS <| ATodo.regionM (id := 6) (A := [0, 0, 0, 6, 14, 0, 0, 64, 224, 480, 1023]) 10 mixed rfl (by kernel_rfl) (by kernel_rfl) <| AM.qv (q_move rfl) rfl <| AM.qv (q_move rfl) rfl <| AM.qv (q_move rfl) rfl <| bndE h fun v3 e1 h => AM.qv (t_index_sl rfl rfl rfl e1) rfl <| AM.qv (t_load_aptr_agg (g := MarkS.av) rfl rfl (.inl .p0) rfl e1 rfl) rfl <| AM.qv (q_move rfl) rfl <| AM.qv (q_move rfl) rfl <| AM.qv (q_subw rfl rfl) rfl <| bndE h fun v4 e2 h => AM.qv (t_index_sl rfl rfl rfl e2) rfl <| AM.qv (t_load_aptr_agg (g := MarkS.av) rfl rfl (.inl .p0) rfl e2 rfl) rfl <| AM.nil <| bndE h fun v5 e3 h => r_callvp rfl rfl (fnb_h e3) (CoL.refl _) rfl <| rN <| ATodo.cond rfl (fun hc => ?_) (fun hc => ?_)
        · refine have h := iteT hc h; tSR <| rM rfl rfl <| rM rfl rfl <| bndE h fun l6 e4 h => ARun.qv (t_slice_sl rfl rfl (.some _ _ _ rfl) .none rfl rfl e4) rfl <| rA rfl rfl <| rN <| tS <| tSR <| rA rfl rfl <| rN <| ATodo.block <| ATodo.loopI (fun x : (List MarkS) × Int × Int => slices_CompactFunc_Mark_Mark_b2 fnb n2 l6 x.1 x.2.1 x.2.2) (fun x σ' => σ' = ⟨66, [(0, .sl 6 b_0 0 x.1.length), (1, .func (.func fnb_F) fnb_C), (5, I x.2.1), (6, .sl 6 b_0 n2.toNat l6.length), (7, I x.2.2)], [(b_0, .arr 6 (x.1.map MarkS.av))]⟩) h ?_ ?_
          · exact ImpX.lq [0] rfl rfl rfl
          · intro x z2 σ' J2 hmk h hJ2 hA2
            obtain ⟨l10, n11, n12⟩ := x
            obtain rfl := hmk
            replace h : slices_CompactFunc_Mark_Mark_b2 fnb n2 l6 l10 n11 n12 = some z2 := h
            unfold slices_CompactFunc_Mark_Mark_b2 at h
            refine tS <| tSR <| rM rfl rfl <| rM rfl rfl <| ARun.qv (t_len_sub rfl) rfl <| ARun.qv (q_lss rfl rfl) rfl <| rN <| ATodo.cond_d rfl (fun hc => ?_) (fun hc => ?_)
            · refine have h := iteT hc h; tK <| tS <| ATodo.block <| tS <| ATodo.regionM (id := 11) (A := [0, 0, 0, 6, 14, 0, 0, 64, 224, 480, 1023, 2047]) 10 mixed rfl (by kernel_rfl) (by kernel_rfl) <| AM.qv (q_move rfl) rfl <| AM.qv (q_move rfl) rfl <| AM.qv (q_move rfl) rfl <| bndE h fun v13 e5 h => AM.qv (t_index_sub (L := n2) rfl rfl rfl e5) rfl <| AM.qv (t_load_aptr_agg (g := MarkS.av) rfl rfl (.inl .p0) rfl (idxS_some e5).2 rfl) rfl <| AM.qv (q_move rfl) rfl <| AM.qv (q_move rfl) rfl <| AM.qv (q_subw rfl rfl) rfl <| bndE h fun v14 e6 h => AM.qv (t_index_sub (L := n2) rfl rfl rfl e6) rfl <| AM.qv (t_load_aptr_agg (g := MarkS.av) rfl rfl (.inl .p0) rfl (idxS_some e6).2 rfl) rfl <| AM.nil <| bndE h fun v15 e7 h => r_callvp rfl rfl (fnb_h e7) (CoL.refl _) rfl <| ARun.qv (q_not rfl) rfl <| rN <| ATodo.cut (fun σ' => ∃ (l16 : List MarkS) (n17 : Int), slices_CompactFunc_Mark_Mark_j1 n12 l16 n17 = some z2 ∧ σ' = ⟨66, [(0, .sl 6 b_0 0 l16.length), (1, .func (.func fnb_F) fnb_C), (5, I n17), (6, .sl 6 b_0 n2.toNat l6.length), (7, I n12)], [(b_0, .arr 6 (l16.map MarkS.av))]⟩) ?_ ?_
              · refine ATodo.cond rfl (fun hc => ?_) (fun hc => ?_)
                · exact have h := iteT hc h; tSR <| rM rfl rfl <| rM rfl rfl <| rM rfl rfl <| rM rfl rfl <| bndE h fun v18 e8 h => ARun.qv (t_index_sub (L := n2) rfl rfl rfl e8) rfl <| ARun.qv (t_load_aptr_agg (g := MarkS.av) rfl rfl (.inl .p0) rfl (idxS_some e8).2 rfl) rfl <| bndE h fun v19 e9 h => ARun.qv (t_index_sl rfl rfl rfl e9) rfl <| t_store_aptr1 (g := MarkS.av) (el' := v18) rfl rfl rfl rfl e9 rfl .p0 rfl <| ARun.ghost <| ImpX.eqs (s := 0) (av' := .sl 6 b_0 0 (l10.set n11.toNat v18).length) rfl (by rw [List.length_set]) <| ImpX.here <| ARun.ghost <| ImpX.eqs (s := 50) (av' := .sl 6 b_0 0 (l10.set n11.toNat v18).length) rfl (by rw [List.length_set]) <| ImpX.here <| rN <| tR <| rM rfl rfl <| ARun.qv (q_addw rfl rfl) rfl <| rA rfl rfl <| rN <| ATodo.stop <| ImpX.lq [0] ⟨l10.set n11.toNat v18, w64 (n11 + (1 : Int)), h, rfl⟩ rfl rfl
                · exact have h := iteFb hc h; tK <| ATodo.stop <| ImpX.lq [0] ⟨l10, n11, h, rfl⟩ rfl rfl
              · rintro σ' ⟨l16, n17, h, rfl⟩
                unfold slices_CompactFunc_Mark_Mark_j1 at h
                refine ATodo.blk <| tR <| rM rfl rfl <| ARun.qv (q_addw rfl rfl) rfl <| rA rfl rfl <| rN <| ATodo.stop <| ?_
                obtain rfl := Option.some.inj h
                exact hJ2 _ _ rfl <| ImpX.lq [0] rfl rfl rfl
            · refine have h := iteF hc h; ATodo.exit rfl <| have h := outL h hA2; ?_
              unfold slices_CompactFunc_Mark_Mark_k2 at h
              refine tSR <| rM rfl rfl <| rM rfl rfl <| bndE h fun l20 e10 h => ARun.qv (t_slice_sl rfl rfl (.some _ _ _ rfl) .none rfl rfl e10) rfl <| t_clear (g := MarkS.av) (Z := (⟨(0 : Int), [], (0 : Int), (⟨(0 : Int), (0 : Int), (0 : Int)⟩ : Version)⟩ : MarkS)) (L := n11) rfl rfl rfl rfl rfl rfl e10 .p0 <| ARun.ghost <| ImpX.eqs (s := 0) (av' := .sl 6 b_0 0 (clr l10 n11 l20.length (⟨(0 : Int), [], (0 : Int), (⟨(0 : Int), (0 : Int), (0 : Int)⟩ : Version)⟩ : MarkS)).length) rfl (congrArg (AV.sl 6 b_0 0) (clr_len e10)) <| ImpX.here <| ARun.ghost <| ImpX.eqs (s := 59) (av' := .sl 6 b_0 0 (clr l10 n11 l20.length (⟨(0 : Int), [], (0 : Int), (⟨(0 : Int), (0 : Int), (0 : Int)⟩ : Version)⟩ : MarkS)).length) rfl (congrArg (AV.sl 6 b_0 0) (clr_len e10)) <| ImpX.here <| rN <| tSR <| rM rfl rfl <| rM rfl rfl <| bndE h fun l21 e11 h => ARun.qv (t_slice_sl rfl rfl .none (.some _ _ _ rfl) rfl rfl e11) rfl <| rA rfl rfl <| ARun.ghost <| ImpX.takeT e11 .p0 <| ImpX.here <| rN <| ATodo.ret <| have h := outL h hA1; ?_
              obtain rfl := Option.some.inj h
              exact ImpX.here ⟨_, .cons (.tmp _ _ rfl) .nil, _, .cons .p0 .nil, ⟨b_0, rfl, rfl⟩⟩
        · refine have h := iteFb hc h; tK <| ATodo.blk <| tR <| rM rfl rfl <| ARun.qv (q_addw rfl rfl) rfl <| rA rfl rfl <| rN <| ATodo.stop <| ?_
          obtain rfl := Option.some.inj h
          exact hJ1 _ _ rfl <| ImpX.lq [0] rfl rfl rfl
      · refine have h := iteF hc h; ATodo.exit rfl <| have h := outL h hA1; tSR <| rM rfl rfl <| rA rfl rfl <| rN <| ATodo.ret <| ?_
        obtain rfl := Option.some.inj h
        exact ImpX.here ⟨_, .cons (.tmp _ _ rfl) .nil, _, .cons .p0 .nil, ⟨b_0, rfl, rfl⟩⟩

set_option maxHeartbeats 4000000 in
theorem Stream_Marks_c [GI : GTab] {b_0 : Bk} {p0x0 : Fleetmake_Stream} {p1x0 : Campaign} {p2x0 : List DeviceS} {p3x0 : Int} {r : (List MarkS) × Fleetmake_Stream} (h : Stream_Marks p0x0 p1x0 p2x0 p3x0 = some r) : ACall Tryz.prog 9 [.ptr b_0 0, .agg [.str p1x0.Key, I p1x0.Target.Major, I p1x0.Target.Minor, I p1x0.Target.Patch, I p1x0.At, .list 4 (p1x0.Waves.map Wave.av), I p1x0.Hours.From, I p1x0.Hours.To, I p1x0.Room], .list 7 (p2x0.map DeviceS.av), I p3x0] [(b_0, .cells [.list 1 (p0x0.L.map I), I p0x0.at_])] (T1 (fun d_0 => [(b_0, .cells [.list 1 (r.2.L.map I), I r.2.at_]), (d_0, .arr 6 (r.1.map MarkS.av))]) (fun d_0 => .sl 6 d_0 0 r.1.length)) := by
  unfold Stream_Marks at h
  refine ACall.lessH ?_
  refine ACall.bodyN Tryz.func9 rfl Tryz.ntmps9 Tryz.results9 rfl rfl ?_
  refine tSR <| n_box rfl rfl rfl rfl fun b1 => rA rfl rfl <| rN <| tSR <| rA rfl rfl <| rN <| tSR <| rF rfl rfl rfl <| rL rfl rfl .p0 rfl rfl <| rA rfl rfl <| rN <| tS <| tSR <| rM rfl rfl <| rM rfl rfl <| rN <| ATodo.block <| ATodo.loopI (fun x : (List Int) × Int × (List MarkS) × Int × Int => Stream_Marks_b1 p2x0 p3x0 x.1 x.2.1 x.2.2.1 x.2.2.2.1 x.2.2.2.2) (fun x σ' => ∃ (b10 : Bk), σ' = ⟨115, [(0, .ptr b_0 0), (2, .list 7 (p2x0.map DeviceS.av)), (9, .sl 6 b10 0 x.2.2.1.length), (10, I x.2.2.2.1), (17, I p3x0), (18, I x.2.2.2.2)], [(b_0, .cells [.list 1 (x.1.map I), I x.2.1]), (b10, .arr 6 (x.2.2.1.map MarkS.av))]⟩) h ?_ ?_
  · exact ImpX.arr (s := 9) 6 rfl fun b14 => ImpX.lq [2, 0] ⟨b14, rfl⟩ rfl rfl
  · intro x z1 σ' J1 hmk h hJ1 hA1
    obtain ⟨l8, n9, l11, n12, n13⟩ := x
    obtain ⟨b10, rfl⟩ := hmk
    replace h : Stream_Marks_b1 p2x0 p3x0 l8 n9 l11 n12 n13 = some z1 := h
    unfold Stream_Marks_b1 at h
    refine tSR <| ARun.qv (q_lss rfl rfl) rfl <| rN <| tS <| ATodo.cond_d rfl (fun hc => ?_) (fun hc => ?_)
    · refine have h := iteT hc h; tK <| tS <| ATodo.block <| tSR <| rM rfl rfl <| rM rfl rfl <| n_buildSliceL (xs := ([(0 : Int), (1 : Int), (5 : Int), (10 : Int), (10 : Int)]).map I) rfl rfl rfl rfl rfl rfl <| bndE h fun v15 e1 h => t_call0 rfl (Stream_Pick_c e1) (CoL.refl _) (.cons .p0 .nil) rfl rfl <| ARun.qv (q_addw rfl rfl) rfl <| rA rfl rfl <| rN <| tSR <| rM rfl rfl <| rM rfl rfl <| n_buildSliceL (xs := ([([100, 49] : Str), ([100, 50] : Str), ([100, 51] : Str), ([100, 52] : Str), ([100, 53] : Str)]).map AV.str) rfl rfl rfl rfl rfl rfl <| bndE h fun v16 e2 h => t_call0 rfl (Stream_Some_c e2) (CoL.refl _) (.cons .p0 .nil) rfl rfl <| rM rfl rfl <| bndE h fun v17 e3 h => t_call0 rfl (Stream_Range_c e3) (CoL.refl _) (.cons .p0 .nil) rfl rfl <| rM rfl rfl <| n_buildSliceL (xs := ([(2 : Int), (2 : Int), (3 : Int), (4 : Int)]).map I) rfl rfl rfl rfl rfl rfl <| bndE h fun v18 e4 h => t_call0 rfl (Stream_Pick_c e4) (CoL.refl _) (.cons .p0 .nil) rfl rfl <| r_callp rfl (whole_c rfl) (CoL.refl _) rfl <| ARun.qv (n_build rfl rfl rfl rfl rfl) rfl <| n_alloc rfl rfl rfl rfl fun b19 => n_store_ptr rfl rfl rfl rfl .p0 rfl rfl <| rN <| tS <| tS <| ATodo.cut (fun σ' => ∃ (l20 : List Int) (n21 : Int) (c22 : Bool), Stream_Marks_j1 p2x0 l11 n12 n13 v15 v16 v17 v18 l20 n21 c22 = some z1 ∧ σ' = ⟨115, [(0, .ptr b_0 0), (2, .list 7 (p2x0.map DeviceS.av)), (9, .sl 6 b10 0 l11.length), (10, I (w64 (n12 + v15.1))), (11, .ptr b19 0), (17, I p3x0), (18, I n13), (43, .bool c22)], [(b_0, .cells [.list 1 (l20.map I), I n21]), (b10, .arr 6 (l11.map MarkS.av)), (b19, .cells [I (w64 (n12 + v15.1)), .str v16.1, I v17.1, I ((whole v18.1).Major), I ((whole v18.1).Minor), I ((whole v18.1).Patch)])]⟩) ?_ ?_
      · refine tR <| rM rfl rfl <| ARun.qv (t_len rfl) rfl <| ARun.qv (q_gtr rfl rfl) rfl <| rM rfl rfl <| ARun.guard_dt rfl rfl rfl (fun hc => ?_) (fun hc => ?_)
        · exact have h := iteT hc h; rM rfl rfl <| rY rfl rfl rfl <| bndE h fun v23 e5 h => t_call0 rfl (Stream_Flip_c e5) (CoL.refl _) (.cons .p1 .nil) rfl rfl <| rY rfl rfl rfl <| ARun.qv (q_not rfl) rfl <| rT rfl rfl rfl <| rN <| ATodo.stop <| ImpX.lq [0, 1, 0] ⟨v23.2.L, v23.2.at_, !v23.1, h, rfl⟩ rfl rfl
        · exact have h := iteF hc h; rG rfl rfl rfl rfl <| rG rfl rfl rfl rfl <| rE rfl rfl rfl <| rN <| ATodo.stop <| ImpX.lq [1, 1, 0] ⟨v18.2.L, v18.2.at_, false, h, rfl⟩ rfl rfl
      · rintro σ' ⟨l20, n21, c22, h, rfl⟩
        unfold Stream_Marks_j1 at h
        refine ATodo.cut (fun σ' => ∃ (l24 : List Int) (n25 : Int) (q26 : Str), Stream_Marks_j2 l11 n12 n13 v15 v17 v18 l24 n25 q26 = some z1 ∧ σ' = ⟨115, [(0, .ptr b_0 0), (2, .list 7 (p2x0.map DeviceS.av)), (9, .sl 6 b10 0 l11.length), (10, I (w64 (n12 + v15.1))), (11, .ptr b19 0), (17, I p3x0), (18, I n13)], [(b_0, .cells [.list 1 (l24.map I), I n25]), (b10, .arr 6 (l11.map MarkS.av)), (b19, .cells [I (w64 (n12 + v15.1)), .str q26, I v17.1, I ((whole v18.1).Major), I ((whole v18.1).Minor), I ((whole v18.1).Patch)])]⟩) ?_ ?_
        · refine ATodo.cond rfl (fun hc => ?_) (fun hc => ?_)
          · exact have h := iteT hc h; tR <| rM rfl rfl <| rM rfl rfl <| rM rfl rfl <| ARun.qv (t_len rfl) rfl <| bndE h fun v27 e6 h => t_call0 rfl (Stream_Next_c e6) (CoL.refl _) (.cons .p0 .nil) rfl rfl <| bndE h fun v28 e7 h => ARun.qv (t_index rfl rfl rfl e7 rfl rfl) rfl <| ARun.qv (n_field_rptr rfl rfl) rfl <| ARun.qv (q_load_rptr rfl rfl rfl) rfl <| rF rfl rfl rfl <| n_store_ptr rfl rfl rfl rfl .p2 rfl rfl <| rN <| ATodo.stop <| ImpX.lq [0, 0, 0] ⟨v27.2.L, v27.2.at_, v28.Key, h, rfl⟩ rfl rfl
          · exact have h := iteFb hc h; tK <| ATodo.stop <| ImpX.lq [0, 0, 0] ⟨l20, n21, v16.1, h, rfl⟩ rfl rfl
        · rintro σ' ⟨l24, n25, q26, h, rfl⟩
          unfold Stream_Marks_j2 at h
          refine tS <| tSR <| rM rfl rfl <| bndE h fun v29 e8 h => t_call0 rfl (Stream_Flip_c e8) (CoL.refl _) (.cons .p0 .nil) rfl rfl <| ARun.qv (q_not rfl) rfl <| rN <| ATodo.cut (fun σ' => ∃ (l30 : List Int) (n31 : Int) (n32 : Int) (n33 : Int) (n34 : Int) (n35 : Int), Stream_Marks_j3 l11 n12 n13 v15 q26 l30 n31 n32 n33 n34 n35 = some z1 ∧ σ' = ⟨115, [(0, .ptr b_0 0), (2, .list 7 (p2x0.map DeviceS.av)), (9, .sl 6 b10 0 l11.length), (10, I (w64 (n12 + v15.1))), (11, .ptr b19 0), (17, I p3x0), (18, I n13)], [(b_0, .cells [.list 1 (l30.map I), I n31]), (b10, .arr 6 (l11.map MarkS.av)), (b19, .cells [I (w64 (n12 + v15.1)), .str q26, I n32, I n33, I n34, I n35])]⟩) ?_ ?_
          · refine ATodo.cond rfl (fun hc => ?_) (fun hc => ?_)
            · refine have h := iteT hc h; tSR <| ARun.qv (n_build rfl rfl rfl rfl rfl) rfl <| n_alloc rfl rfl rfl rfl fun b36 => n_store_ptr rfl rfl rfl rfl .p0 rfl rfl <| rN <| tS <| tSR <| rM rfl rfl <| ARun.qv (t_len_sl rfl) rfl <| rM rfl rfl <| rN <| ATodo.block <| ATodo.loopI (fun x : Int × Str × Int × Int × Int × Int × Int => Stream_Marks_b2 l11 n12 n13 v15 v18 q26 v29 x.1 x.2.1 x.2.2.1 x.2.2.2.1 x.2.2.2.2.1 x.2.2.2.2.2.1 x.2.2.2.2.2.2) (fun x σ' => σ' = ⟨115, [(0, .ptr b_0 0), (2, .list 7 (p2x0.map DeviceS.av)), (9, .sl 6 b10 0 l11.length), (10, I (w64 (n12 + v15.1))), (11, .ptr b19 0), (12, .ptr b36 0), (17, I p3x0), (18, I n13), (57, .sl 6 b10 0 l11.length), (58, I (l11.length : Int)), (59, I x.2.2.2.2.2.2)], [(b_0, .cells [.list 1 (v29.2.L.map I), I v29.2.at_]), (b10, .arr 6 (l11.map MarkS.av)), (b19, .cells [I (w64 (n12 + v15.1)), .str q26, I v17.1, I ((whole v18.1).Major), I ((whole v18.1).Minor), I ((whole v18.1).Patch)]), (b36, .cells [I x.1, .str x.2.1, I x.2.2.1, I x.2.2.2.1, I x.2.2.2.2.1, I x.2.2.2.2.2.1])]⟩) h ?_ ?_
              · exact ImpX.lq [1, 1, 1, 0] rfl rfl rfl
              · intro x z2 σ' J2 hmk h hJ2 hA2
                obtain ⟨n44, q45, n46, n47, n48, n49, n50⟩ := x
                obtain rfl := hmk
                replace h : Stream_Marks_b2 l11 n12 n13 v15 v18 q26 v29 n44 q45 n46 n47 n48 n49 n50 = some z2 := h
                unfold Stream_Marks_b2 at h
                refine tSR <| ARun.qv (q_lss rfl rfl) rfl <| rN <| tS <| ATodo.cond_d rfl (fun hc => ?_) (fun hc => ?_)
                · refine have h := iteT hc h; tK <| tS <| ATodo.block <| tSR <| bndE h fun v51 e9 h => ARun.qv (t_index_sl rfl rfl rfl e9) rfl <| ARun.qv (t_load_aptr_agg (g := MarkS.av) rfl rfl (.inl .p1) rfl e9 rfl) rfl <| n_alloc rfl rfl rfl rfl fun b52 => n_store_ptr rfl rfl rfl rfl .p0 rfl rfl <| rN <| tSR <| rF rfl rfl rfl <| rL rfl rfl .p0 rfl rfl <| rF rfl rfl rfl <| rL rfl rfl .p3 rfl rfl <| ARun.qv (q_seq rfl rfl) rfl <| rN <| ATodo.cut (fun σ' => ∃ (n53 : Int) (q54 : Str) (n55 : Int) (n56 : Int) (n57 : Int) (n58 : Int), Stream_Marks_j4 n50 n53 q54 n55 n56 n57 n58 = some z2 ∧ σ' = ⟨115, [(0, .ptr b_0 0), (2, .list 7 (p2x0.map DeviceS.av)), (9, .sl 6 b10 0 l11.length), (10, I (w64 (n12 + v15.1))), (11, .ptr b19 0), (12, .ptr b36 0), (17, I p3x0), (18, I n13), (57, .sl 6 b10 0 l11.length), (58, I (l11.length : Int)), (59, I n50)], [(b_0, .cells [.list 1 (v29.2.L.map I), I v29.2.at_]), (b10, .arr 6 (l11.map MarkS.av)), (b19, .cells [I (w64 (n12 + v15.1)), .str q26, I v17.1, I ((whole v18.1).Major), I ((whole v18.1).Minor), I ((whole v18.1).Patch)]), (b36, .cells [I n53, .str q54, I n55, I n56, I n57, I n58])]⟩) ?_ ?_
                  · refine ATodo.cond_d rfl (fun hc => ?_) (fun hc => ?_)
                    · exact have h := iteT hc h; tR <| ARun.qv (q_load_ptr_all rfl rfl .p0 rfl) rfl <| n_store_ptr rfl rfl rfl rfl .p4 rfl rfl <| rN <| ATodo.stop <| ImpX.lq [1, 1, 1, 1] ⟨v51.At, v51.Device, v51.Kind, v51.Version.Major, v51.Version.Minor, v51.Version.Patch, h, rfl⟩ rfl rfl
                    · exact have h := iteF hc h; tK <| ATodo.stop <| ImpX.lq [1, 1, 1, 1] ⟨n44, q45, n46, n47, n48, n49, h, rfl⟩ rfl rfl
                  · rintro σ' ⟨n53, q54, n55, n56, n57, n58, h, rfl⟩
                    unfold Stream_Marks_j4 at h
                    refine ATodo.blk <| tR <| ARun.qv (q_addw rfl rfl) rfl <| rM rfl rfl <| rN <| ATodo.stop <| ?_
                    obtain rfl := Option.some.inj h
                    exact hJ2 _ _ rfl <| ImpX.lq [0, 0, 0, 0] rfl rfl rfl
                · refine have h := iteF hc h; ATodo.exit rfl <| have h := outL h hA2; ?_
                  unfold Stream_Marks_k7 at h
                  refine tSR <| rF rfl rfl rfl <| rL rfl rfl .p3 rfl rfl <| rN <| ATodo.block <| tSR <| ARun.qv (q_eql rfl rfl) rfl <| rA rfl rfl <| rN <| ATodo.cut (fun σ' => ∃ (l59 : List Int) (n60 : Int) (n61 : Int) (n62 : Int) (n63 : Int) (n64 : Int), Stream_Marks_j5 l11 n12 n13 v15 q26 l59 n60 n61 n62 n63 n64 = some z1 ∧ σ' = ⟨115, [(0, .ptr b_0 0), (2, .list 7 (p2x0.map DeviceS.av)), (9, .sl 6 b10 0 l11.length), (10, I (w64 (n12 + v15.1))), (11, .ptr b19 0), (17, I p3x0), (18, I n13)], [(b_0, .cells [.list 1 (l59.map I), I n60]), (b10, .arr 6 (l11.map MarkS.av)), (b19, .cells [I (w64 (n12 + v15.1)), .str q26, I n61, I n62, I n63, I n64])]⟩) ?_ ?_
                  · refine ATodo.cond_d rfl (fun hc => ?_) (fun hc => ?_)
                    · refine have h := iteT hc h; bndE h fun v65 e10 h => ATodo.regionT (id := 20) (A := [0, 0, 3, 0, 8, 7, 39, 127, 255]) (H0 := [(b_0, .cells [.list 1 (v29.2.L.map I), I v29.2.at_]), (b19, .cells [I (w64 (n12 + v15.1)), .str q26, I v17.1, I ((whole v18.1).Major), I ((whole v18.1).Minor), I ((whole v18.1).Patch)])]) (HH := fun β => [(b_0, .cells [.list 1 (v65.2.L.map I), I v65.2.at_]), (b19, .cells [I (w64 (n12 + v15.1)), .str q26, I v65.1, I ((whole v18.1).Major), I ((whole v18.1).Minor), I ((whole v18.1).Patch)]), (b10, .arr 6 (l11.map MarkS.av)), (b36, .cells [I n44, .str q45, I n46, I n47, I n48, I n49])]) 7 mixed rfl (by kernel_rfl) (by kernel_rfl) [⟨none, some 2, [], fun _ => (b_0, .cells [.list 1 (v29.2.L.map I), I v29.2.at_]), none⟩, ⟨none, some 6, [], fun _ => (b19, .cells [I (w64 (n12 + v15.1)), .str q26, I v17.1, I ((whole v18.1).Major), I ((whole v18.1).Minor), I ((whole v18.1).Patch)]), none⟩, ⟨some 2, none, [], fun _ => (b_0, .cells [.list 1 (v65.2.L.map I), I v65.2.at_]), none⟩, ⟨some 6, none, [], fun _ => (b19, .cells [I (w64 (n12 + v15.1)), .str q26, I v65.1, I ((whole v18.1).Major), I ((whole v18.1).Minor), I ((whole v18.1).Patch)]), none⟩] [] rfl (by kernel_rfl) rfl (.cons .p0 (.cons .p1 .nil)) (fun _ => rfl) <| AT.am 2 rfl rfl <| AM.qv (q_move rfl) rfl <| AM.buildSliceL (xs := ([(2 : Int), (2 : Int), (2 : Int), (5 : Int)]).map I) rfl rfl rfl rfl rfl rfl <| AM.nil <| AT.runS (av := I v65.1) (Ti := [(b_0, .cells [.list 1 (v29.2.L.map I), I v29.2.at_])]) (Pi := [(b_0, .cells [.list 1 (v65.2.L.map I), I v65.2.at_])]) (fun _ => rfl) (fun _ => rfl) (fun _ => rfl) rfl rfl rfl ?_ ?_
                      · exact t_call0 rfl (Stream_Pick_c e10) (CoL.refl _) (.cons .p0 .nil) rfl rfl <| ARun.nil ⟨_, rfl, rfl⟩
                      refine AT.am 3 rfl rfl <| AM.qv (n_field_ptr rfl rfl) rfl <| AM.qv (n_load_ptr_part rfl rfl .p1 rfl rfl) rfl <| AM.qv (n_field_ptr rfl rfl) rfl <| AM.nil <| AT.run0 (Ti := [(b19, .cells [I (w64 (n12 + v15.1)), .str q26, I v17.1, I ((whole v18.1).Major), I ((whole v18.1).Minor), I ((whole v18.1).Patch)])]) (Pi := [(b19, .cells [I (w64 (n12 + v15.1)), .str q26, I v65.1, I ((whole v18.1).Major), I ((whole v18.1).Minor), I ((whole v18.1).Patch)])]) (fun _ => rfl) (fun _ => rfl) (fun _ => rfl) rfl rfl ?_ ?_
                      · exact n_store_ptr rfl rfl rfl rfl .p0 rfl rfl <| ARun.nil ⟨_, rfl⟩
                      exact AT.nilN (fun _ => rfl) fun β => rF rfl rfl rfl <| n_store_ptr rfl rfl rfl rfl .p1 rfl rfl <| rN <| ATodo.stop <| ImpX.lq [0, 1, 0] ⟨v65.2.L, v65.2.at_, v65.1, n47, n48, n49, h, rfl⟩ rfl rfl
                    · refine have h := iteF hc h; tSR <| ARun.qv (q_eql rfl rfl) rfl <| rA rfl rfl <| rN <| ATodo.cut (fun σ' => ∃ (l66 : List Int) (n67 : Int) (n68 : Int) (n69 : Int) (n70 : Int) (n71 : Int), Stream_Marks_j6 l11 n12 n13 v15 q26 l66 n67 n68 n69 n70 n71 = some z1 ∧ σ' = ⟨115, [(0, .ptr b_0 0), (2, .list 7 (p2x0.map DeviceS.av)), (9, .sl 6 b10 0 l11.length), (10, I (w64 (n12 + v15.1))), (11, .ptr b19 0), (17, I p3x0), (18, I n13)], [(b_0, .cells [.list 1 (l66.map I), I n67]), (b10, .arr 6 (l11.map MarkS.av)), (b19, .cells [I (w64 (n12 + v15.1)), .str q26, I n68, I n69, I n70, I n71])]⟩) ?_ ?_
                      · refine ATodo.cond_d rfl (fun hc => ?_) (fun hc => ?_)
                        · refine have h := iteT hc h; bndE h fun v72 e11 h => ATodo.regionT (id := 22) (A := [0, 0, 3, 0, 8, 7, 39, 127, 255]) (H0 := [(b_0, .cells [.list 1 (v29.2.L.map I), I v29.2.at_]), (b19, .cells [I (w64 (n12 + v15.1)), .str q26, I v17.1, I ((whole v18.1).Major), I ((whole v18.1).Minor), I ((whole v18.1).Patch)])]) (HH := fun β => [(b_0, .cells [.list 1 (v72.2.L.map I), I v72.2.at_]), (b19, .cells [I (w64 (n12 + v15.1)), .str q26, I v72.1, I ((whole v18.1).Major), I ((whole v18.1).Minor), I ((whole v18.1).Patch)]), (b10, .arr 6 (l11.map MarkS.av)), (b36, .cells [I n44, .str q45, I n46, I n47, I n48, I n49])]) 7 mixed rfl (by kernel_rfl) (by kernel_rfl) [⟨none, some 2, [], fun _ => (b_0, .cells [.list 1 (v29.2.L.map I), I v29.2.at_]), none⟩, ⟨none, some 6, [], fun _ => (b19, .cells [I (w64 (n12 + v15.1)), .str q26, I v17.1, I ((whole v18.1).Major), I ((whole v18.1).Minor), I ((whole v18.1).Patch)]), none⟩, ⟨some 2, none, [], fun _ => (b_0, .cells [.list 1 (v72.2.L.map I), I v72.2.at_]), none⟩, ⟨some 6, none, [], fun _ => (b19, .cells [I (w64 (n12 + v15.1)), .str q26, I v72.1, I ((whole v18.1).Major), I ((whole v18.1).Minor), I ((whole v18.1).Patch)]), none⟩] [] rfl (by kernel_rfl) rfl (.cons .p0 (.cons .p1 .nil)) (fun _ => rfl) <| AT.am 2 rfl rfl <| AM.qv (q_move rfl) rfl <| AM.buildSliceL (xs := ([(3 : Int), (3 : Int), (4 : Int)]).map I) rfl rfl rfl rfl rfl rfl <| AM.nil <| AT.runS (av := I v72.1) (Ti := [(b_0, .cells [.list 1 (v29.2.L.map I), I v29.2.at_])]) (Pi := [(b_0, .cells [.list 1 (v72.2.L.map I), I v72.2.at_])]) (fun _ => rfl) (fun _ => rfl) (fun _ => rfl) rfl rfl rfl ?_ ?_
                          · exact t_call0 rfl (Stream_Pick_c e11) (CoL.refl _) (.cons .p0 .nil) rfl rfl <| ARun.nil ⟨_, rfl, rfl⟩
                          refine AT.am 3 rfl rfl <| AM.qv (n_field_ptr rfl rfl) rfl <| AM.qv (n_load_ptr_part rfl rfl .p1 rfl rfl) rfl <| AM.qv (n_field_ptr rfl rfl) rfl <| AM.nil <| AT.run0 (Ti := [(b19, .cells [I (w64 (n12 + v15.1)), .str q26, I v17.1, I ((whole v18.1).Major), I ((whole v18.1).Minor), I ((whole v18.1).Patch)])]) (Pi := [(b19, .cells [I (w64 (n12 + v15.1)), .str q26, I v72.1, I ((whole v18.1).Major), I ((whole v18.1).Minor), I ((whole v18.1).Patch)])]) (fun _ => rfl) (fun _ => rfl) (fun _ => rfl) rfl rfl ?_ ?_
                          · exact n_store_ptr rfl rfl rfl rfl .p0 rfl rfl <| ARun.nil ⟨_, rfl⟩
                          exact AT.nilN (fun _ => rfl) fun β => rF rfl rfl rfl <| n_store_ptr rfl rfl rfl rfl .p1 rfl rfl <| rN <| ATodo.stop <| ImpX.lq [0, 1, 0] ⟨v72.2.L, v72.2.at_, v72.1, n47, n48, n49, h, rfl⟩ rfl rfl
                        · exact have h := iteF hc h; tR <| rF rfl rfl rfl <| n_store_ptr rfl rfl rfl rfl .p2 rfl rfl <| rN <| ATodo.stop <| ImpX.lq [0, 0, 0] ⟨v29.2.L, v29.2.at_, (1 : Int), (whole v18.1).Major, (whole v18.1).Minor, (whole v18.1).Patch, h, rfl⟩ rfl rfl
                      · rintro σ' ⟨l66, n67, n68, n69, n70, n71, h, rfl⟩
                        unfold Stream_Marks_j6 at h
                        exact ATodo.stop <| ImpX.lq [0, 0, 0] ⟨l66, n67, n68, n69, n70, n71, h, rfl⟩ rfl rfl
                  · rintro σ' ⟨l59, n60, n61, n62, n63, n64, h, rfl⟩
                    unfold Stream_Marks_j5 at h
                    exact ATodo.blk <| ATodo.stop <| ImpX.lq [0, 0, 0] ⟨l59, n60, n61, n62, n63, n64, h, rfl⟩ rfl rfl
            · exact have h := iteFb hc h; tK <| ATodo.stop <| ImpX.lq [0, 0, 0] ⟨v29.2.L, v29.2.at_, v17.1, (whole v18.1).Major, (whole v18.1).Minor, (whole v18.1).Patch, h, rfl⟩ rfl rfl
          · rintro σ' ⟨l30, n31, n32, n33, n34, n35, h, rfl⟩
            unfold Stream_Marks_j3 at h
            refine tS <| tSR <| rM rfl rfl <| bndE h fun v73 e12 h => t_call0 rfl (Stream_Flip_c e12) (CoL.refl _) (.cons .p0 .nil) rfl rfl <| rN <| ATodo.cut (fun σ' => ∃ (l74 : List Int) (n75 : Int) (n76 : Int) (q77 : Str) (n78 : Int), Stream_Marks_j8 l11 n12 n13 v15 n33 n34 n35 l74 n75 n76 q77 n78 = some z1 ∧ σ' = ⟨115, [(0, .ptr b_0 0), (2, .list 7 (p2x0.map DeviceS.av)), (9, .sl 6 b10 0 l11.length), (10, I (w64 (n12 + v15.1))), (11, .ptr b19 0), (17, I p3x0), (18, I n13)], [(b_0, .cells [.list 1 (l74.map I), I n75]), (b10, .arr 6 (l11.map MarkS.av)), (b19, .cells [I n76, .str q77, I n78, I n33, I n34, I n35])]⟩) ?_ ?_
            · refine ATodo.cond rfl (fun hc => ?_) (fun hc => ?_)
              · exact have h := iteT hc h; tR <| rM rfl rfl <| bndE h fun v79 e13 h => t_call0 rfl (Stream_Odd_c e13) (CoL.refl _) (.cons .p0 .nil) rfl rfl <| rM rfl rfl <| n_buildSliceL (xs := ([([100, 49] : Str), ([] : Str)]).map AV.str) rfl rfl rfl rfl rfl rfl <| bndE h fun v80 e14 h => t_call0 rfl (Stream_Some_c e14) (CoL.refl _) (.cons .p0 .nil) rfl rfl <| rM rfl rfl <| bndE h fun v81 e15 h => t_call0 rfl (Stream_Odd_c e15) (CoL.refl _) (.cons .p0 .nil) rfl rfl <| rF rfl rfl rfl <| n_store_ptr rfl rfl rfl rfl .p2 rfl rfl <| rF rfl rfl rfl <| n_store_ptr rfl rfl rfl rfl .p2 rfl rfl <| rF rfl rfl rfl <| n_store_ptr rfl rfl rfl rfl .p2 rfl rfl <| rN <| ATodo.stop <| ImpX.lq [0, 0, 0] ⟨v81.2.L, v81.2.at_, v79.1, v80.1, v81.1, h, rfl⟩ rfl rfl
              · exact have h := iteFb hc h; tK <| ATodo.stop <| ImpX.lq [0, 0, 0] ⟨v73.2.L, v73.2.at_, w64 (n12 + v15.1), q26, n32, h, rfl⟩ rfl rfl
            · rintro σ' ⟨l74, n75, n76, q77, n78, h, rfl⟩
              unfold Stream_Marks_j8 at h
              refine tR <| rM rfl rfl <| ARun.qv (q_load_ptr_all rfl rfl .p2 rfl) rfl <| n_buildSliceL (xs := ([(⟨n76, q77, n78, (⟨n33, n34, n35⟩ : Version)⟩ : MarkS)]).map MarkS.av) rfl rfl rfl rfl rfl rfl <| bndE h fun l82 e16 h => t_append (g := MarkS.av) rfl rfl rfl rfl rfl rfl rfl rfl (.list _) e16 (fun _ => .p1) rfl fun b83 => rA rfl rfl <| rN <| ATodo.blk <| tR <| ARun.qv (q_addw rfl rfl) rfl <| rM rfl rfl <| rN <| ATodo.stop <| ?_
              obtain rfl := Option.some.inj h
              exact hJ1 _ _ rfl <| ImpX.lq [0, 0] ⟨b83, rfl⟩ rfl rfl
    · refine have h := iteF hc h; ATodo.exit rfl <| have h := outL h hA1; ?_
      unfold Stream_Marks_k9 at h
      refine tSR <| rM rfl rfl <| bndE h fun v84 e17 h => t_call0 rfl (slices_SortStableFunc_Mark_Mark_c (fun e => Q_MarkOrder_c (Option.some.inj e)) (lenOk_f e17)) (CoL.refl _) (.cons .p1 .nil) rfl rfl <| ARun.ghost <| ImpX.eqs (s := 9) (av' := .sl 6 b10 0 v84.length) rfl (congrArg (AV.sl 6 b10 0) (lenOk_l e17)) <| ImpX.here <| ARun.ghost <| ImpX.eqs (s := 108) (av' := .sl 6 b10 0 v84.length) rfl (congrArg (AV.sl 6 b10 0) (lenOk_l e17)) <| ImpX.here <| rN <| tS <| tSR <| rM rfl rfl <| bndE h fun v85 e18 h => t_call0 rfl (Stream_Flip_c e18) (CoL.refl _) (.cons .p1 .nil) rfl rfl <| rN <| ATodo.cond rfl (fun hc => ?_) (fun hc => ?_)
      · refine have h := iteT hc h; tSR <| rM rfl rfl <| rA rfl rfl <| rN <| ATodo.ret <| ?_
        obtain rfl := Option.some.inj h
        exact ImpX.here ⟨_, .cons (.tmp _ _ rfl) .nil, _, .cons .p0 (.cons .p0 .nil), ⟨b10, rfl, rfl⟩⟩
      · refine have h := iteFb hc h; tK <| tSR <| rM rfl rfl <| bndE h fun v86 e19 h => t_call1 rfl (slices_CompactFunc_Mark_Mark_c (fun e => Stream_Marks_1x_c (Option.some.inj e)) e19) (CoL.refl _) (.cons .p1 .nil) (fun _ => rfl) rfl fun b87 => rA rfl rfl <| rN <| ATodo.ret <| ?_
        obtain rfl := Option.some.inj h
        exact ImpX.here ⟨_, .cons (.tmp _ _ rfl) .nil, _, .cons .p1 (.cons .p0 .nil), ⟨b87, rfl, rfl⟩⟩

set_option maxHeartbeats 4000000 in
theorem slices_Clone_Mark_Mark_c [GI : GTab] {p0x0 : List MarkS} {r : (List MarkS)} (h : slices_Clone_Mark_Mark p0x0 = some r) : ACall Tryz.prog 12 [.list 6 (p0x0.map MarkS.av)] [] (T1 (fun d_0 => [(d_0, .arr 6 (r.map MarkS.av))]) (fun d_0 => .sl 6 d_0 0 r.length)) := by
  unfold slices_Clone_Mark_Mark at h
  refine ACall.lessH ?_
  refine ACall.bodyN Tryz.func12 rfl Tryz.ntmps12 Tryz.results12 rfl rfl ?_
  refine ATodo.seq ?_
  refine ATodo.region ?_
  refine ARun.qv (q_assign rfl) rfl ?_
  refine ARun.nil ?_
  refine ATodo.seq ?_
  refine ATodo.seq ?_
  refine ATodo.region ?_
  refine ARun.qv (q_move rfl) rfl ?_
  refine r_eqnil rfl rfl rfl rfl (fun c hc => ?_)
  refine ARun.nil ?_
  refine ATodo.cond rfl (fun hT => ?_) (fun hF => ?_)
  · obtain rfl := app_nil_some h (List.map_eq_nil_iff.1 (hc hT))
    refine ATodo.seq ?_
    refine ATodo.region ?_
    refine ARun.qv (q_assign rfl) rfl ?_
    refine ARun.nil ?_
    refine ATodo.ret ?_
    refine ImpX.arr (s := 2) 6 rfl (fun b1 => ?_)
    exact ImpX.here ⟨_, .cons (.tmp _ _ rfl) .nil, _, .cons .here .nil, ⟨b1, rfl, rfl⟩⟩
  · refine ATodo.skip ?_
    refine ATodo.seq ?_
    refine ATodo.region ?_
    refine n_buildSlice (xs := ([] : List MarkS).map MarkS.av) rfl rfl rfl rfl rfl rfl (fun b2 => ?_)
    refine ARun.qv (q_move rfl) rfl ?_
    refine t_append (g := MarkS.av) (Xs := []) rfl rfl rfl rfl rfl rfl rfl rfl (.list _) h (fun _ => .here) rfl (fun b3 => ?_)
    refine ARun.qv (q_assign rfl) rfl ?_
    refine ARun.nil ?_
    refine ATodo.ret ?_
    exact ImpX.here ⟨_, .cons (.tmp _ _ rfl) .nil, _, .cons .here .nil, ⟨b3, rfl, rfl⟩⟩

set_option maxHeartbeats 4000000 in
theorem base_Key_c [GI : GTab] {p0x0 : Str} {r : Bool} (h : base_Key p0x0 = some r) : Pu Tryz.prog 52 [.str p0x0] (.bool r) := by
  unfold base_Key at h
  refine ACall.bodyN Tryz.func52 rfl Tryz.ntmps52 Tryz.results52 rfl rfl ?_
  refine tSR <| rA rfl rfl <| rN <| tS <| tS <| ATodo.cut (fun σ' => ∃ (c1 : Bool), base_Key_j1 p0x0 c1 = some r ∧ σ' = ⟨54, [(0, .str p0x0), (21, .bool c1)], []⟩) ?_ ?_
  · refine tR <| rM rfl rfl <| ARun.qv (q_seq rfl rfl) rfl <| rM rfl rfl <| ARun.guard_df rfl rfl rfl (fun hc => ?_) (fun hc => ?_)
    · refine have h := iteF hc h; rM rfl rfl <| rY rfl rfl rfl <| ARun.qv (q_len_str rfl) rfl <| rY rfl rfl rfl <| ARun.qv (q_gtr rfl rfl) rfl <| rE rfl rfl rfl <| rM rfl rfl <| ARun.guard_df rfl rfl rfl (fun hc => ?_) (fun hc => ?_)
      · refine have h := iteF hc h; rM rfl rfl <| rY rfl rfl rfl <| bndE h fun c2 e1 h => ARun.qv (t_index_str rfl rfl e1) rfl <| rY rfl rfl rfl <| ARun.qv (q_lss rfl rfl) rfl <| rE rfl rfl rfl <| rM rfl rfl <| ARun.guard_df rfl rfl rfl (fun hc => ?_) (fun hc => ?_)
        · exact have h := iteF hc h; rM rfl rfl <| rY rfl rfl rfl <| bndE h fun c3 e2 h => ARun.qv (t_index_str rfl rfl e2) rfl <| rY rfl rfl rfl <| ARun.qv (q_gtr rfl rfl) rfl <| rE rfl rfl rfl <| rN <| ATodo.stop <| ImpX.lq [] ⟨decide ((122 : Int) < (c3.toNat : Int)), h, rfl⟩ rfl rfl
        · exact have h := iteT hc h; rG rfl rfl rfl rfl <| rG rfl rfl rfl rfl <| rT rfl rfl rfl <| rN <| ATodo.stop <| ImpX.lq [] ⟨true, h, rfl⟩ rfl rfl
      · exact have h := iteT hc h; rG rfl rfl rfl rfl <| rG rfl rfl rfl rfl <| rT rfl rfl rfl <| rM rfl rfl <| rG rfl rfl rfl rfl <| rG rfl rfl rfl rfl <| rG rfl rfl rfl rfl <| rT rfl rfl rfl <| rN <| ATodo.stop <| ImpX.lq [] ⟨true, h, rfl⟩ rfl rfl
    · exact have h := iteT hc h; rG rfl rfl rfl rfl <| rG rfl rfl rfl rfl <| rT rfl rfl rfl <| rM rfl rfl <| rG rfl rfl rfl rfl <| rG rfl rfl rfl rfl <| rG rfl rfl rfl rfl <| rT rfl rfl rfl <| rM rfl rfl <| rG rfl rfl rfl rfl <| rG rfl rfl rfl rfl <| rG rfl rfl rfl rfl <| rT rfl rfl rfl <| rN <| ATodo.stop <| ImpX.lq [] ⟨true, h, rfl⟩ rfl rfl
  · rintro σ' ⟨c1, h, rfl⟩
    unfold base_Key_j1 at h
    refine ATodo.cond rfl (fun hc => ?_) (fun hc => ?_)
    · refine have h := iteT hc h; tSR <| rA rfl rfl <| rN <| ATodo.ret <| ?_
      obtain rfl := Option.some.inj h
      exact ImpX.here ⟨_, .cons (.tmp _ _ rfl) .nil, rfl⟩
    · refine have h := iteFb hc h; tK <| tS <| tSR <| rM rfl rfl <| ARun.qv (q_len_str rfl) rfl <| rM rfl rfl <| rN <| ATodo.block <| ATodo.loopI (fun x : Int => base_Key_b1 p0x0 x) (fun x σ' => σ' = ⟨54, [(0, .str p0x0), (23, I (p0x0.length : Int)), (24, I x)], []⟩) h ?_ ?_
      · exact ImpX.lq [] rfl rfl rfl
      · intro n5 z1 σ' J1 hmk h hJ1 hA1
        obtain rfl := hmk
        replace h : base_Key_b1 p0x0 n5 = some z1 := h
        unfold base_Key_b1 at h
        refine tSR <| ARun.qv (q_lss rfl rfl) rfl <| rN <| tS <| ATodo.cond_d rfl (fun hc => ?_) (fun hc => ?_)
        · refine have h := iteT hc h; tK <| tS <| ATodo.block <| tSR <| rM rfl rfl <| rA rfl rfl <| rN <| tSR <| rM rfl rfl <| rM rfl rfl <| bndE h fun c6 e3 h => ARun.qv (t_index_str rfl rfl e3) rfl <| rA rfl rfl <| rN <| tS <| ATodo.cut (fun σ' => ∃ (c7 : Bool), base_Key_j2 n5 c7 = some z1 ∧ σ' = ⟨54, [(0, .str p0x0), (23, I (p0x0.length : Int)), (24, I n5), (52, .bool c7)], []⟩) ?_ ?_
          · refine tR <| rM rfl rfl <| ARun.qv (q_geq rfl rfl) rfl <| rM rfl rfl <| ARun.guard_dt rfl rfl rfl (fun hc => ?_) (fun hc => ?_)
            · rw [if_pos hc] at h
              refine rM rfl rfl <| rY rfl rfl rfl <| ARun.qv (q_leq rfl rfl) rfl <| rT rfl rfl rfl <| rM rfl rfl <| ARun.guard_df rfl rfl rfl (fun hc => ?_) (fun hc => ?_)
              · rw [if_neg hc] at h
                refine rM rfl rfl <| rY rfl rfl rfl <| ARun.qv (q_geq rfl rfl) rfl <| rY rfl rfl rfl <| rM rfl rfl <| ARun.guard_dt rfl rfl rfl (fun hc => ?_) (fun hc => ?_)
                · rw [if_pos hc] at h
                  refine rM rfl rfl <| rY rfl rfl rfl <| ARun.qv (q_leq rfl rfl) rfl <| rY rfl rfl rfl <| rT rfl rfl rfl <| rE rfl rfl rfl <| rM rfl rfl <| ARun.guard_df rfl rfl rfl (fun hc => ?_) (fun hc => ?_)
                  · rw [if_neg hc] at h
                    refine rM rfl rfl <| rY rfl rfl rfl <| ARun.qv (q_eql rfl rfl) rfl <| rE rfl rfl rfl <| rM rfl rfl <| ARun.guard_df rfl rfl rfl (fun hc => ?_) (fun hc => ?_)
                    · rw [if_neg hc] at h
                      exact rM rfl rfl <| rY rfl rfl rfl <| ARun.qv (q_eql rfl rfl) rfl <| rE rfl rfl rfl <| ARun.qv (q_not_d rfl) rfl <| rN <| ATodo.stop <| ImpX.lq [] ⟨decide (¬ ((c6.toNat : Int) = (95 : Int))), h, rfl⟩ rfl rfl
                    · rw [if_pos hc] at h
                      exact rG rfl rfl rfl rfl <| rT rfl rfl rfl <| ARun.qv (q_not rfl) rfl <| rN <| ATodo.stop <| ImpX.lq [] ⟨!true, h, rfl⟩ rfl rfl
                  · rw [if_pos hc] at h
                    exact rG rfl rfl rfl rfl <| rT rfl rfl rfl <| rM rfl rfl <| rG rfl rfl rfl rfl <| rG rfl rfl rfl rfl <| rT rfl rfl rfl <| ARun.qv (q_not rfl) rfl <| rN <| ATodo.stop <| ImpX.lq [] ⟨!true, h, rfl⟩ rfl rfl
                · rw [if_neg hc] at h
                  refine rG rfl rfl rfl rfl <| rY rfl rfl rfl <| rE rfl rfl rfl <| rE rfl rfl rfl <| rM rfl rfl <| rY rfl rfl rfl <| rM rfl rfl <| rY rfl rfl rfl <| ARun.qv (q_eql rfl rfl) rfl <| rE rfl rfl rfl <| rM rfl rfl <| ARun.guard_df rfl rfl rfl (fun hc => ?_) (fun hc => ?_)
                  · rw [if_neg hc] at h
                    exact rM rfl rfl <| rY rfl rfl rfl <| ARun.qv (q_eql rfl rfl) rfl <| rE rfl rfl rfl <| ARun.qv (q_not_d rfl) rfl <| rN <| ATodo.stop <| ImpX.lq [] ⟨decide (¬ ((c6.toNat : Int) = (95 : Int))), h, rfl⟩ rfl rfl
                  · rw [if_pos hc] at h
                    exact rG rfl rfl rfl rfl <| rT rfl rfl rfl <| ARun.qv (q_not rfl) rfl <| rN <| ATodo.stop <| ImpX.lq [] ⟨!true, h, rfl⟩ rfl rfl
              · rw [if_pos hc] at h
                exact rG rfl rfl rfl rfl <| rG rfl rfl rfl rfl <| ARun.guard_und rfl rfl rfl <| ARun.guard_und rfl rfl rfl <| rG rfl rfl rfl rfl <| rT rfl rfl rfl <| rM rfl rfl <| rG rfl rfl rfl rfl <| rG rfl rfl rfl rfl <| rT rfl rfl rfl <| rM rfl rfl <| rG rfl rfl rfl rfl <| rG rfl rfl rfl rfl <| rT rfl rfl rfl <| ARun.qv (q_not rfl) rfl <| rN <| ATodo.stop <| ImpX.lq [] ⟨!true, h, rfl⟩ rfl rfl
            · rw [if_neg hc] at h
              refine rG rfl rfl rfl rfl <| rE rfl rfl rfl <| rM rfl rfl <| rY rfl rfl rfl <| rM rfl rfl <| rY rfl rfl rfl <| ARun.qv (q_geq rfl rfl) rfl <| rY rfl rfl rfl <| rM rfl rfl <| ARun.guard_dt rfl rfl rfl (fun hc => ?_) (fun hc => ?_)
              · rw [if_pos hc] at h
                refine rM rfl rfl <| rY rfl rfl rfl <| ARun.qv (q_leq rfl rfl) rfl <| rY rfl rfl rfl <| rT rfl rfl rfl <| rE rfl rfl rfl <| rM rfl rfl <| ARun.guard_df rfl rfl rfl (fun hc => ?_) (fun hc => ?_)
                · rw [if_neg hc] at h
                  refine rM rfl rfl <| rY rfl rfl rfl <| ARun.qv (q_eql rfl rfl) rfl <| rE rfl rfl rfl <| rM rfl rfl <| ARun.guard_df rfl rfl rfl (fun hc => ?_) (fun hc => ?_)
                  · rw [if_neg hc] at h
                    exact rM rfl rfl <| rY rfl rfl rfl <| ARun.qv (q_eql rfl rfl) rfl <| rE rfl rfl rfl <| ARun.qv (q_not_d rfl) rfl <| rN <| ATodo.stop <| ImpX.lq [] ⟨decide (¬ ((c6.toNat : Int) = (95 : Int))), h, rfl⟩ rfl rfl
                  · rw [if_pos hc] at h
                    exact rG rfl rfl rfl rfl <| rT rfl rfl rfl <| ARun.qv (q_not rfl) rfl <| rN <| ATodo.stop <| ImpX.lq [] ⟨!true, h, rfl⟩ rfl rfl
                · rw [if_pos hc] at h
                  exact rG rfl rfl rfl rfl <| rT rfl rfl rfl <| rM rfl rfl <| rG rfl rfl rfl rfl <| rG rfl rfl rfl rfl <| rT rfl rfl rfl <| ARun.qv (q_not rfl) rfl <| rN <| ATodo.stop <| ImpX.lq [] ⟨!true, h, rfl⟩ rfl rfl
              · rw [if_neg hc] at h
                refine rG rfl rfl rfl rfl <| rY rfl rfl rfl <| rE rfl rfl rfl <| rE rfl rfl rfl <| rM rfl rfl <| rY rfl rfl rfl <| rM rfl rfl <| rY rfl rfl rfl <| ARun.qv (q_eql rfl rfl) rfl <| rE rfl rfl rfl <| rM rfl rfl <| ARun.guard_df rfl rfl rfl (fun hc => ?_) (fun hc => ?_)
                · rw [if_neg hc] at h
                  exact rM rfl rfl <| rY rfl rfl rfl <| ARun.qv (q_eql rfl rfl) rfl <| rE rfl rfl rfl <| ARun.qv (q_not_d rfl) rfl <| rN <| ATodo.stop <| ImpX.lq [] ⟨decide (¬ ((c6.toNat : Int) = (95 : Int))), h, rfl⟩ rfl rfl
                · rw [if_pos hc] at h
                  exact rG rfl rfl rfl rfl <| rT rfl rfl rfl <| ARun.qv (q_not rfl) rfl <| rN <| ATodo.stop <| ImpX.lq [] ⟨!true, h, rfl⟩ rfl rfl
          · rintro σ' ⟨c7, h, rfl⟩
            unfold base_Key_j2 at h
            refine ATodo.cond rfl (fun hc => ?_) (fun hc => ?_)
            · refine have h := iteT hc h; tSR <| rA rfl rfl <| rN <| ATodo.ret <| have h := outL h hA1; ?_
              obtain rfl := Option.some.inj h
              exact ImpX.here ⟨_, .cons (.tmp _ _ rfl) .nil, rfl⟩
            · refine have h := iteFb hc h; tK <| ATodo.blk <| tR <| ARun.qv (q_addw rfl rfl) rfl <| rM rfl rfl <| rN <| ATodo.stop <| ?_
              obtain rfl := Option.some.inj h
              exact hJ1 _ _ rfl <| ImpX.lq [] rfl rfl rfl
        · refine have h := iteF hc h; ATodo.exit rfl <| have h := outL h hA1; tSR <| rA rfl rfl <| rN <| ATodo.ret <| ?_
          obtain rfl := Option.some.inj h
          exact ImpX.here ⟨_, .cons (.tmp _ _ rfl) .nil, rfl⟩

set_option maxHeartbeats 4000000 in
theorem base_Out_c [GI : GTab] {p0x0 : Int} {p1x0 : Int} {p2x0 : Int} {r : Bool} (h : base_Out p0x0 p1x0 p2x0 = r) : Pu Tryz.prog 68 [I p0x0, I p1x0, I p2x0] (.bool r) := by
  unfold base_Out at h
  refine ACall.bodyN Tryz.func68 rfl Tryz.ntmps68 Tryz.results68 rfl rfl ?_
  refine tSR <| rA rfl rfl <| rN <| tS <| ATodo.cut (fun σ' => ∃ (c1 : Bool), base_Out_j1 c1 = r ∧ σ' = ⟨15, [(6, .bool c1)], []⟩) ?_ ?_
  · refine tR <| rM rfl rfl <| rM rfl rfl <| ARun.qv (q_lss rfl rfl) rfl <| rM rfl rfl <| ARun.guard_df rfl rfl rfl (fun hc => ?_) (fun hc => ?_)
    · rw [orFd hc] at h
      exact rM rfl rfl <| rY rfl rfl rfl <| rM rfl rfl <| rY rfl rfl rfl <| ARun.qv (q_gtr rfl rfl) rfl <| rE rfl rfl rfl <| rA rfl rfl <| rN <| ATodo.stop <| ImpX.lq [] ⟨decide (p2x0 < p0x0), h, rfl⟩ rfl rfl
    · rw [orTd hc] at h
      exact rG rfl rfl rfl rfl <| rG rfl rfl rfl rfl <| rT rfl rfl rfl <| rA rfl rfl <| rN <| ATodo.stop <| ImpX.lq [] ⟨true, h, rfl⟩ rfl rfl
  · rintro σ' ⟨c1, h, rfl⟩
    unfold base_Out_j1 at h
    refine ATodo.ret <| ?_
    obtain rfl := h
    exact ImpX.here ⟨_, .cons (.tmp _ _ rfl) .nil, rfl⟩

set_option maxHeartbeats 4000000 in
theorem base_Version_c [GI : GTab] {p0x0 : Version} {r : Bool} (h : base_Version p0x0 = r) : Pu Tryz.prog 66 [.agg [I p0x0.Major, I p0x0.Minor, I p0x0.Patch]] (.bool r) := by
  unfold base_Version at h
  refine ACall.bodyN Tryz.func66 rfl Tryz.ntmps66 Tryz.results66 rfl rfl ?_
  refine tSR <| n_box rfl rfl rfl rfl fun b1 => rA rfl rfl <| rN <| tS <| ATodo.cut (fun σ' => ∃ (c2 : Bool), base_Version_j1 c2 = r ∧ σ' = ⟨19, [(2, .bool c2)], []⟩) ?_ ?_
  · refine tR <| rF rfl rfl rfl <| rL rfl rfl .p0 rfl rfl <| r_callp rfl (base_Out_c rfl) (CoL.refl _) rfl <| ARun.qv (q_not rfl) rfl <| rM rfl rfl <| ARun.guard rfl rfl rfl (fun hc => ?_) (fun hc => ?_)
    · rw [andTb hc] at h
      refine rF rfl rfl rfl <| rY rfl rfl rfl <| rL rfl rfl .p0 rfl rfl <| rY rfl rfl rfl <| r_callp rfl (base_Out_c rfl) (CoL.refl _) rfl <| rY rfl rfl rfl <| ARun.qv (q_not rfl) rfl <| rT rfl rfl rfl <| rM rfl rfl <| ARun.guard rfl rfl rfl (fun hc => ?_) (fun hc => ?_)
      · rw [andTb hc] at h
        exact rF rfl rfl rfl <| rY rfl rfl rfl <| rL rfl rfl .p0 rfl rfl <| rY rfl rfl rfl <| r_callp rfl (base_Out_c rfl) (CoL.refl _) rfl <| rY rfl rfl rfl <| ARun.qv (q_not rfl) rfl <| rT rfl rfl rfl <| rA rfl rfl <| rN <| ATodo.stop <| ImpX.lq [] ⟨!(base_Out p0x0.Patch (0 : Int) (9999 : Int)), h, rfl⟩ rfl rfl
      · rw [andFb hc] at h
        exact rG rfl rfl rfl rfl <| rG rfl rfl rfl rfl <| rG rfl rfl rfl rfl <| rE rfl rfl rfl <| rA rfl rfl <| rN <| ATodo.stop <| ImpX.lq [] ⟨false, h, rfl⟩ rfl rfl
    · rw [andFb hc] at h
      exact rG rfl rfl rfl rfl <| rG rfl rfl rfl rfl <| rG rfl rfl rfl rfl <| rE rfl rfl rfl <| rM rfl rfl <| rG rfl rfl rfl rfl <| rG rfl rfl rfl rfl <| rG rfl rfl rfl rfl <| rG rfl rfl rfl rfl <| rE rfl rfl rfl <| rA rfl rfl <| rN <| ATodo.stop <| ImpX.lq [] ⟨false, h, rfl⟩ rfl rfl
  · rintro σ' ⟨c2, h, rfl⟩
    unfold base_Version_j1 at h
    refine ATodo.ret <| ?_
    obtain rfl := h
    exact ImpX.here ⟨_, .cons (.tmp _ _ rfl) .nil, rfl⟩

set_option maxHeartbeats 4000000 in
theorem base_Moment_c [GI : GTab] {p0x0 : Int} {r : Bool} (h : base_Moment p0x0 = r) : Pu Tryz.prog 67 [I p0x0] (.bool r) := by
  unfold base_Moment at h
  refine ACall.bodyN Tryz.func67 rfl Tryz.ntmps67 Tryz.results67 rfl rfl ?_
  refine tSR <| rA rfl rfl <| rN <| tSR <| rM rfl rfl <| r_callp rfl (base_Out_c rfl) (CoL.refl _) rfl <| ARun.qv (q_not rfl) rfl <| rA rfl rfl <| rN <| ATodo.ret <| ?_
  obtain rfl := h
  exact ImpX.here ⟨_, .cons (.tmp _ _ rfl) .nil, rfl⟩

set_option maxHeartbeats 4000000 in
theorem campaign_CheckCampaign_c [GI : GTab] {p0x0 : Campaign} {r : Int} (h : campaign_CheckCampaign p0x0 = some r) : Pu Tryz.prog 17 [.agg [.str p0x0.Key, I p0x0.Target.Major, I p0x0.Target.Minor, I p0x0.Target.Patch, I p0x0.At, .list 4 (p0x0.Waves.map Wave.av), I p0x0.Hours.From, I p0x0.Hours.To, I p0x0.Room]] (I r) := by
  unfold campaign_CheckCampaign at h
  refine ACall.bodyN Tryz.func17 rfl Tryz.ntmps17 Tryz.results17 rfl rfl ?_
  refine tSR <| n_box rfl rfl rfl rfl fun b1 => rA rfl rfl <| rN <| tS <| ATodo.block <| tSR <| rF rfl rfl rfl <| rL rfl rfl .p0 rfl rfl <| bndE h fun v2 e1 h => r_callp rfl (base_Key_c e1) (CoL.refl _) rfl <| ARun.qv (q_not rfl) rfl <| rA rfl rfl <| rN <| ATodo.cond rfl (fun hc => ?_) (fun hc => ?_)
  · refine have h := iteT hc h; tSR <| rA rfl rfl <| rN <| ATodo.ret <| ?_
    obtain rfl := Option.some.inj h
    exact ImpX.here ⟨_, .cons (.tmp _ _ rfl) .nil, rfl⟩
  · refine have h := iteFb hc h; tS <| ATodo.cut (fun σ' => ∃ (c3 : Bool), campaign_CheckCampaign_j1 p0x0 c3 = some r ∧ σ' = ⟨81, [(1, .ptr b1 0), (11, .bool c3)], [(b1, .cells [.str p0x0.Key, I p0x0.Target.Major, I p0x0.Target.Minor, I p0x0.Target.Patch, I p0x0.At, .list 4 (p0x0.Waves.map Wave.av), I p0x0.Hours.From, I p0x0.Hours.To, I p0x0.Room])]⟩) ?_ ?_
    · refine tR <| rF rfl rfl rfl <| ARun.qv (n_load_ptr_part rfl rfl .p0 rfl rfl) rfl <| r_callp rfl (base_Version_c rfl) (CoL.refl _) rfl <| ARun.qv (q_not rfl) rfl <| rM rfl rfl <| ARun.guard rfl rfl rfl (fun hc => ?_) (fun hc => ?_)
      · rw [orFb hc] at h
        exact rF rfl rfl rfl <| rY rfl rfl rfl <| rL rfl rfl .p0 rfl rfl <| rY rfl rfl rfl <| r_callp rfl (base_Moment_c rfl) (CoL.refl _) rfl <| rY rfl rfl rfl <| ARun.qv (q_not rfl) rfl <| rE rfl rfl rfl <| rA rfl rfl <| rN <| ATodo.stop <| ImpX.lq [0] ⟨!(base_Moment p0x0.At), h, rfl⟩ rfl rfl
      · rw [orTb hc] at h
        exact rG rfl rfl rfl rfl <| rG rfl rfl rfl rfl <| rG rfl rfl rfl rfl <| rT rfl rfl rfl <| rA rfl rfl <| rN <| ATodo.stop <| ImpX.lq [0] ⟨true, h, rfl⟩ rfl rfl
    · rintro σ' ⟨c3, h, rfl⟩
      unfold campaign_CheckCampaign_j1 at h
      refine ATodo.cond rfl (fun hc => ?_) (fun hc => ?_)
      · refine have h := iteT hc h; tSR <| rA rfl rfl <| rN <| ATodo.ret <| ?_
        obtain rfl := Option.some.inj h
        exact ImpX.here ⟨_, .cons (.tmp _ _ rfl) .nil, rfl⟩
      · refine have h := iteFb hc h; tSR <| rF rfl rfl rfl <| rL rfl rfl .p0 rfl rfl <| ARun.qv (t_len rfl) rfl <| ARun.qv (q_eql rfl rfl) rfl <| rA rfl rfl <| rN <| ATodo.cond_d rfl (fun hc => ?_) (fun hc => ?_)
        · refine have h := iteT hc h; tSR <| rA rfl rfl <| rN <| ATodo.ret <| ?_
          obtain rfl := Option.some.inj h
          exact ImpX.here ⟨_, .cons (.tmp _ _ rfl) .nil, rfl⟩
        · refine have h := iteF hc h; tSR <| rF rfl rfl rfl <| rL rfl rfl .p0 rfl rfl <| ARun.qv (t_len rfl) rfl <| ARun.qv (q_gtr rfl rfl) rfl <| rA rfl rfl <| rN <| ATodo.cond_d rfl (fun hc => ?_) (fun hc => ?_)
          · refine have h := iteT hc h; tSR <| rA rfl rfl <| rN <| ATodo.ret <| ?_
            obtain rfl := Option.some.inj h
            exact ImpX.here ⟨_, .cons (.tmp _ _ rfl) .nil, rfl⟩
          · refine have h := iteF hc h; tK <| ATodo.blk <| tSR <| rA rfl rfl <| rN <| tS <| tSR <| rF rfl rfl rfl <| rL rfl rfl .p0 rfl rfl <| ARun.qv (t_len rfl) rfl <| rM rfl rfl <| rN <| ATodo.block <| ATodo.loopI (fun x : Int × Int => campaign_CheckCampaign_b1 p0x0 x.1 x.2) (fun x σ' => σ' = ⟨81, [(1, .ptr b1 0), (3, I x.1), (33, .list 4 (p0x0.Waves.map Wave.av)), (34, I (p0x0.Waves.length : Int)), (35, I x.2)], [(b1, .cells [.str p0x0.Key, I p0x0.Target.Major, I p0x0.Target.Minor, I p0x0.Target.Patch, I p0x0.At, .list 4 (p0x0.Waves.map Wave.av), I p0x0.Hours.From, I p0x0.Hours.To, I p0x0.Room])]⟩) h ?_ ?_
            · exact ImpX.lq [0] rfl rfl rfl
            · intro x z1 σ' J1 hmk h hJ1 hA1
              obtain ⟨n6, n7⟩ := x
              obtain rfl := hmk
              replace h : campaign_CheckCampaign_b1 p0x0 n6 n7 = some z1 := h
              unfold campaign_CheckCampaign_b1 at h
              refine tSR <| ARun.qv (q_lss rfl rfl) rfl <| rN <| tS <| ATodo.cond_d rfl (fun hc => ?_) (fun hc => ?_)
              · refine have h := iteT hc h; tK <| tS <| ATodo.block <| tSR <| bndE h fun v8 e2 h => ARun.qv (t_index rfl rfl rfl e2 rfl rfl) rfl <| ARun.qv (q_load_rptr_agg rfl rfl rfl) rfl <| n_alloc rfl rfl rfl rfl fun b9 => n_store_ptr rfl rfl rfl rfl .p0 rfl rfl <| rN <| tS <| tS <| ATodo.cut (fun σ' => ∃ (c10 : Bool), campaign_CheckCampaign_j2 n6 n7 v8 c10 = some z1 ∧ σ' = ⟨81, [(1, .ptr b1 0), (3, I n6), (5, .ptr b9 0), (33, .list 4 (p0x0.Waves.map Wave.av)), (34, I (p0x0.Waves.length : Int)), (35, I n7), (56, .bool c10)], [(b1, .cells [.str p0x0.Key, I p0x0.Target.Major, I p0x0.Target.Minor, I p0x0.Target.Patch, I p0x0.At, .list 4 (p0x0.Waves.map Wave.av), I p0x0.Hours.From, I p0x0.Hours.To, I p0x0.Room]), (b9, .cells [I v8.Part, I v8.Wait, I v8.Least, I v8.Fails])]⟩) ?_ ?_
                · refine tR <| rF rfl rfl rfl <| rL rfl rfl .p0 rfl rfl <| r_callp rfl (base_Out_c rfl) (CoL.refl _) rfl <| rM rfl rfl <| ARun.guard rfl rfl rfl (fun hc => ?_) (fun hc => ?_)
                  · rw [orFb hc] at h
                    refine rF rfl rfl rfl <| rY rfl rfl rfl <| rL rfl rfl .p0 rfl rfl <| rY rfl rfl rfl <| r_callp rfl (base_Out_c rfl) (CoL.refl _) rfl <| rE rfl rfl rfl <| rM rfl rfl <| ARun.guard rfl rfl rfl (fun hc => ?_) (fun hc => ?_)
                    · rw [orFb hc] at h
                      refine rF rfl rfl rfl <| rY rfl rfl rfl <| rL rfl rfl .p0 rfl rfl <| rY rfl rfl rfl <| r_callp rfl (base_Out_c rfl) (CoL.refl _) rfl <| rE rfl rfl rfl <| rM rfl rfl <| ARun.guard rfl rfl rfl (fun hc => ?_) (fun hc => ?_)
                      · rw [orFb hc] at h
                        exact rF rfl rfl rfl <| rY rfl rfl rfl <| rL rfl rfl .p0 rfl rfl <| rY rfl rfl rfl <| r_callp rfl (base_Out_c rfl) (CoL.refl _) rfl <| rE rfl rfl rfl <| rN <| ATodo.stop <| ImpX.lq [1, 0] ⟨(base_Out v8.Fails (0 : Int) (1000 : Int)), h, rfl⟩ rfl rfl
                      · rw [orTb hc] at h
                        exact rG rfl rfl rfl rfl <| rG rfl rfl rfl rfl <| rT rfl rfl rfl <| rN <| ATodo.stop <| ImpX.lq [1, 0] ⟨true, h, rfl⟩ rfl rfl
                    · rw [orTb hc] at h
                      exact rG rfl rfl rfl rfl <| rG rfl rfl rfl rfl <| rT rfl rfl rfl <| rM rfl rfl <| rG rfl rfl rfl rfl <| rG rfl rfl rfl rfl <| rG rfl rfl rfl rfl <| rT rfl rfl rfl <| rN <| ATodo.stop <| ImpX.lq [1, 0] ⟨true, h, rfl⟩ rfl rfl
                  · rw [orTb hc] at h
                    exact rG rfl rfl rfl rfl <| rG rfl rfl rfl rfl <| rT rfl rfl rfl <| rM rfl rfl <| rG rfl rfl rfl rfl <| rG rfl rfl rfl rfl <| rG rfl rfl rfl rfl <| rT rfl rfl rfl <| rM rfl rfl <| rG rfl rfl rfl rfl <| rG rfl rfl rfl rfl <| rG rfl rfl rfl rfl <| rT rfl rfl rfl <| rN <| ATodo.stop <| ImpX.lq [1, 0] ⟨true, h, rfl⟩ rfl rfl
                · rintro σ' ⟨c10, h, rfl⟩
                  unfold campaign_CheckCampaign_j2 at h
                  refine ATodo.cond rfl (fun hc => ?_) (fun hc => ?_)
                  · refine have h := iteT hc h; tSR <| rA rfl rfl <| rN <| ATodo.ret <| have h := outL h hA1; ?_
                    obtain rfl := Option.some.inj h
                    exact ImpX.here ⟨_, .cons (.tmp _ _ rfl) .nil, rfl⟩
                  · refine have h := iteFb hc h; tK <| tR <| rM rfl rfl <| rF rfl rfl rfl <| rL rfl rfl .p1 rfl rfl <| ARun.qv (q_addw rfl rfl) rfl <| rA rfl rfl <| rN <| ATodo.blk <| tR <| ARun.qv (q_addw rfl rfl) rfl <| rM rfl rfl <| rN <| ATodo.stop <| ?_
                    obtain rfl := Option.some.inj h
                    exact hJ1 _ _ rfl <| ImpX.lq [0] rfl rfl rfl
              · refine have h := iteF hc h; ATodo.exit rfl <| have h := outL h hA1; ?_
                unfold campaign_CheckCampaign_k4 at h
                refine tS <| ATodo.block <| tSR <| rM rfl rfl <| ARun.qv (q_neq rfl rfl) rfl <| rA rfl rfl <| rN <| ATodo.cond_d rfl (fun hc => ?_) (fun hc => ?_)
                · refine have h := iteT hc h; tSR <| rA rfl rfl <| rN <| ATodo.ret <| ?_
                  obtain rfl := Option.some.inj h
                  exact ImpX.here ⟨_, .cons (.tmp _ _ rfl) .nil, rfl⟩
                · refine have h := iteF hc h; tS <| ATodo.cut (fun σ' => ∃ (c11 : Bool), campaign_CheckCampaign_j3 c11 = some r ∧ σ' = ⟨81, [(65, .bool c11)], []⟩) ?_ ?_
                  · refine tR <| rF rfl rfl rfl <| rF rfl rfl rfl <| rL rfl rfl .p0 rfl rfl <| r_callp rfl (base_Out_c rfl) (CoL.refl _) rfl <| rM rfl rfl <| ARun.guard rfl rfl rfl (fun hc => ?_) (fun hc => ?_)
                    · rw [orFb hc] at h
                      refine rF rfl rfl rfl <| rY rfl rfl rfl <| rF rfl rfl rfl <| rY rfl rfl rfl <| rL rfl rfl .p0 rfl rfl <| rY rfl rfl rfl <| r_callp rfl (base_Out_c rfl) (CoL.refl _) rfl <| rE rfl rfl rfl <| rM rfl rfl <| ARun.guard rfl rfl rfl (fun hc => ?_) (fun hc => ?_)
                      · rw [orFb hc] at h
                        exact rF rfl rfl rfl <| rY rfl rfl rfl <| rL rfl rfl .p0 rfl rfl <| rY rfl rfl rfl <| r_callp rfl (base_Out_c rfl) (CoL.refl _) rfl <| rE rfl rfl rfl <| rA rfl rfl <| rN <| ATodo.stop <| ImpX.lq [] ⟨(base_Out p0x0.Room (1 : Int) (500 : Int)), h, rfl⟩ rfl rfl
                      · rw [orTb hc] at h
                        exact rG rfl rfl rfl rfl <| rG rfl rfl rfl rfl <| rT rfl rfl rfl <| rA rfl rfl <| rN <| ATodo.stop <| ImpX.lq [] ⟨true, h, rfl⟩ rfl rfl
                    · rw [orTb hc] at h
                      exact rG rfl rfl rfl rfl <| rG rfl rfl rfl rfl <| rG rfl rfl rfl rfl <| rT rfl rfl rfl <| rM rfl rfl <| rG rfl rfl rfl rfl <| rG rfl rfl rfl rfl <| rG rfl rfl rfl rfl <| rT rfl rfl rfl <| rA rfl rfl <| rN <| ATodo.stop <| ImpX.lq [] ⟨true, h, rfl⟩ rfl rfl
                  · rintro σ' ⟨c11, h, rfl⟩
                    unfold campaign_CheckCampaign_j3 at h
                    refine ATodo.cond rfl (fun hc => ?_) (fun hc => ?_)
                    · refine have h := iteT hc h; tSR <| rA rfl rfl <| rN <| ATodo.ret <| ?_
                      obtain rfl := Option.some.inj h
                      exact ImpX.here ⟨_, .cons (.tmp _ _ rfl) .nil, rfl⟩
                    · refine have h := iteFb hc h; tK <| ATodo.blk <| tSR <| rA rfl rfl <| rN <| ATodo.ret <| ?_
                      obtain rfl := Option.some.inj h
                      exact ImpX.here ⟨_, .cons (.tmp _ _ rfl) .nil, rfl⟩

set_option maxHeartbeats 4000000 in
theorem base_Hash_c [GI : GTab] {p0x0 : List Str} {r : Int} (h : base_Hash p0x0 = some r) : Pu Tryz.prog 148 [.list 1 (p0x0.map AV.str)] (.int .u64 r) := by
  unfold base_Hash at h
  refine ACall.bodyN Tryz.func148 rfl Tryz.ntmps148 Tryz.results148 rfl rfl ?_
  refine tSR <| rA rfl rfl <| rN <| tSR <| rA rfl rfl <| rN <| tS <| tSR <| rM rfl rfl <| ARun.qv (t_len rfl) rfl <| rM rfl rfl <| rN <| ATodo.block <| ATodo.loopI (fun x : Int × Int => base_Hash_b1 p0x0 x.1 x.2) (fun x σ' => σ' = ⟨33, [(3, .int .u64 x.1), (7, .list 1 (p0x0.map AV.str)), (8, I (p0x0.length : Int)), (9, I x.2)], []⟩) h ?_ ?_
  · exact ImpX.lq [] rfl rfl rfl
  · intro x z1 σ' J1 hmk h hJ1 hA1
    obtain ⟨n3, n4⟩ := x
    obtain rfl := hmk
    replace h : base_Hash_b1 p0x0 n3 n4 = some z1 := h
    unfold base_Hash_b1 at h
    refine tSR <| ARun.qv (q_lss rfl rfl) rfl <| rN <| tS <| ATodo.cond_d rfl (fun hc => ?_) (fun hc => ?_)
    · refine have h := iteT hc h; tK <| tS <| ATodo.block <| tSR <| rM rfl rfl <| bndE h fun v5 e1 h => ARun.qv (t_index rfl rfl rfl e1 rfl rfl) rfl <| ARun.qv (q_load_rptr rfl rfl rfl) rfl <| rA rfl rfl <| rA rfl rfl <| rN <| tS <| tSR <| rM rfl rfl <| ARun.qv (q_gtr rfl rfl) rfl <| rN <| ATodo.cut (fun σ' => ∃ (n6 : Int), base_Hash_j1 n4 v5 n6 = some z1 ∧ σ' = ⟨33, [(3, .int .u64 n6), (5, .str v5), (7, .list 1 (p0x0.map AV.str)), (8, I (p0x0.length : Int)), (9, I n4)], []⟩) ?_ ?_
      · refine ATodo.cond_d rfl (fun hc => ?_) (fun hc => ?_)
        · exact have h := iteT hc h; tR <| rM rfl rfl <| ARun.qv (q_mulw rfl rfl) rfl <| rA rfl rfl <| rN <| ATodo.stop <| ImpX.lq [] ⟨IntKind.u64.wrap (n3 * (1099511628211 : Int)), h, rfl⟩ rfl rfl
        · exact have h := iteF hc h; tK <| ATodo.stop <| ImpX.lq [] ⟨n3, h, rfl⟩ rfl rfl
      · rintro σ' ⟨n6, h, rfl⟩
        unfold base_Hash_j1 at h
        refine tSR <| rM rfl rfl <| ARun.qv (q_len_str rfl) rfl <| rM rfl rfl <| rN <| ATodo.block <| ATodo.loopI (fun x : Int × Int => base_Hash_b2 n4 v5 x.1 x.2) (fun x σ' => σ' = ⟨33, [(3, .int .u64 x.1), (5, .str v5), (7, .list 1 (p0x0.map AV.str)), (8, I (p0x0.length : Int)), (9, I n4), (19, I (v5.length : Int)), (20, I x.2)], []⟩) h ?_ ?_
        · exact ImpX.lq [] rfl rfl rfl
        · intro x z2 σ' J2 hmk h hJ2 hA2
          obtain ⟨n9, n10⟩ := x
          obtain rfl := hmk
          replace h : base_Hash_b2 n4 v5 n9 n10 = some z2 := h
          unfold base_Hash_b2 at h
          refine tSR <| ARun.qv (q_lss rfl rfl) rfl <| rN <| tS <| ATodo.cond_d rfl (fun hc => ?_) (fun hc => ?_)
          · refine have h := iteT hc h; tK <| tS <| ATodo.block <| tSR <| rM rfl rfl <| rA rfl rfl <| rN <| tR <| rM rfl rfl <| rM rfl rfl <| rM rfl rfl <| bndE h fun c11 e2 h => ARun.qv (t_index_str rfl rfl e2) rfl <| ARun.qv (q_conv_int rfl) rfl <| ARun.qv (t_xor rfl rfl) rfl <| ARun.qv (q_mulw rfl rfl) rfl <| rA rfl rfl <| rN <| ATodo.blk <| tR <| ARun.qv (q_addw rfl rfl) rfl <| rM rfl rfl <| rN <| ATodo.stop <| ?_
            obtain rfl := Option.some.inj h
            exact hJ2 _ _ rfl <| ImpX.lq [] rfl rfl rfl
          · refine have h := iteF hc h; ATodo.exit rfl <| have h := outL h hA2; ATodo.blk <| tR <| ARun.qv (q_addw rfl rfl) rfl <| rM rfl rfl <| rN <| ATodo.stop <| ?_
            obtain rfl := Option.some.inj h
            exact hJ1 _ _ rfl <| ImpX.lq [] rfl rfl rfl
    · refine have h := iteF hc h; ATodo.exit rfl <| have h := outL h hA1; tSR <| rM rfl rfl <| rA rfl rfl <| rN <| ATodo.ret <| ?_
      obtain rfl := Option.some.inj h
      exact ImpX.here ⟨_, .cons (.tmp _ _ rfl) .nil, rfl⟩

set_option maxHeartbeats 4000000 in
theorem campaign_lot_c [GI : GTab] {p0x0 : Campaign} {p1x0 : Str} {r : Int} (h : campaign_lot p0x0 p1x0 = some r) : Pu Tryz.prog 109 [.rptr [.str p0x0.Key, I p0x0.Target.Major, I p0x0.Target.Minor, I p0x0.Target.Patch, I p0x0.At, .list 4 (p0x0.Waves.map Wave.av), I p0x0.Hours.From, I p0x0.Hours.To, I p0x0.Room], .str p1x0] (I r) := by
  unfold campaign_lot at h
  refine ACall.bodyN Tryz.func109 rfl Tryz.ntmps109 Tryz.results109 rfl rfl ?_
  refine tSR <| rA rfl rfl <| rN <| tSR <| rM rfl rfl <| ARun.qv (q_nilCheck_rptr rfl) rfl <| ARun.qv (n_field_rptr rfl rfl) rfl <| ARun.qv (q_load_rptr rfl rfl rfl) rfl <| rM rfl rfl <| n_buildSliceL (xs := ([p0x0.Key, p1x0] : List Str).map AV.str) rfl rfl rfl rfl rfl rfl <| bndE h fun v1 e1 h => r_callp rfl (base_Hash_c e1) (CoL.refl _) rfl <| rA rfl rfl <| rN <| tSR <| rM rfl rfl <| rM rfl rfl <| ARun.qv (t_shr rfl rfl (by decide)) rfl <| ARun.qv (t_xor rfl rfl) rfl <| ARun.qv (q_rem rfl rfl (by decide)) rfl <| ARun.qv (q_conv_int rfl) rfl <| rA rfl rfl <| rN <| ATodo.ret <| ?_
  obtain rfl := Option.some.inj h
  exact ImpX.here ⟨_, .cons (.tmp _ _ rfl) .nil, rfl⟩

set_option maxHeartbeats 4000000 in
theorem campaign_waveOf_c [GI : GTab] {p0x0 : Campaign} {p1x0 : Str} {r : Int} (h : campaign_waveOf p0x0 p1x0 = some r) : Pu Tryz.prog 53 [.rptr [.str p0x0.Key, I p0x0.Target.Major, I p0x0.Target.Minor, I p0x0.Target.Patch, I p0x0.At, .list 4 (p0x0.Waves.map Wave.av), I p0x0.Hours.From, I p0x0.Hours.To, I p0x0.Room], .str p1x0] (I r) := by
  unfold campaign_waveOf at h
  refine ACall.bodyN Tryz.func53 rfl Tryz.ntmps53 Tryz.results53 rfl rfl ?_
  refine tSR <| rA rfl rfl <| rN <| tSR <| rM rfl rfl <| rM rfl rfl <| bndE h fun v1 e1 h => r_callp rfl (campaign_lot_c e1) (CoL.refl _) rfl <| rA rfl rfl <| rA rfl rfl <| rN <| tS <| tSR <| rM rfl rfl <| ARun.qv (q_nilCheck_rptr rfl) rfl <| ARun.qv (n_field_rptr rfl rfl) rfl <| ARun.qv (q_load_rptr rfl rfl rfl) rfl <| ARun.qv (t_len rfl) rfl <| rM rfl rfl <| rN <| ATodo.block <| ATodo.loopI (fun x : Int × Int => campaign_waveOf_b1 p0x0 v1 x.1 x.2) (fun x σ' => σ' = ⟨37, [(0, .rptr [.str p0x0.Key, I p0x0.Target.Major, I p0x0.Target.Minor, I p0x0.Target.Patch, I p0x0.At, .list 4 (p0x0.Waves.map Wave.av), I p0x0.Hours.From, I p0x0.Hours.To, I p0x0.Room]), (5, I v1), (6, I x.1), (15, .list 4 (p0x0.Waves.map Wave.av)), (16, I (p0x0.Waves.length : Int)), (17, I x.2)], []⟩) h ?_ ?_
  · exact ImpX.lq [] rfl rfl rfl
  · intro x z1 σ' J1 hmk h hJ1 hA1
    obtain ⟨n4, n5⟩ := x
    obtain rfl := hmk
    replace h : campaign_waveOf_b1 p0x0 v1 n4 n5 = some z1 := h
    unfold campaign_waveOf_b1 at h
    refine tSR <| ARun.qv (q_lss rfl rfl) rfl <| rN <| tS <| ATodo.cond_d rfl (fun hc => ?_) (fun hc => ?_)
    · refine have h := iteT hc h; tK <| tS <| ATodo.block <| tSR <| rM rfl rfl <| bndE h fun v6 e2 h => ARun.qv (t_index rfl rfl rfl e2 rfl rfl) rfl <| ARun.qv (q_load_rptr_agg rfl rfl rfl) rfl <| n_alloc rfl rfl rfl rfl fun b7 => rA rfl rfl <| n_store_ptr rfl rfl rfl rfl .p0 rfl rfl <| rN <| tSR <| rM rfl rfl <| rF rfl rfl rfl <| rL rfl rfl .p0 rfl rfl <| ARun.qv (q_addw rfl rfl) rfl <| rA rfl rfl <| rN <| tSR <| rM rfl rfl <| rM rfl rfl <| ARun.qv (q_lss rfl rfl) rfl <| rN <| ATodo.cond_d rfl (fun hc => ?_) (fun hc => ?_)
      · refine have h := iteT hc h; tSR <| rM rfl rfl <| rA rfl rfl <| rN <| ATodo.ret <| have h := outL h hA1; ?_
        obtain rfl := Option.some.inj h
        exact ImpX.here ⟨_, .cons (.tmp _ _ rfl) .nil, rfl⟩
      · refine have h := iteF hc h; tK <| ATodo.blk <| tR <| ARun.qv (q_addw rfl rfl) rfl <| rM rfl rfl <| rN <| ATodo.stop <| ?_
        obtain rfl := Option.some.inj h
        exact hJ1 _ _ rfl <| ImpX.lq [] rfl rfl rfl
    · refine have h := iteF hc h; ATodo.exit rfl <| have h := outL h hA1; tSR <| rM rfl rfl <| ARun.qv (q_nilCheck_rptr rfl) rfl <| ARun.qv (n_field_rptr rfl rfl) rfl <| ARun.qv (q_load_rptr rfl rfl rfl) rfl <| ARun.qv (t_len rfl) rfl <| ARun.qv (q_subw rfl rfl) rfl <| rA rfl rfl <| rN <| ATodo.ret <| ?_
      obtain rfl := Option.some.inj h
      exact ImpX.here ⟨_, .cons (.tmp _ _ rfl) .nil, rfl⟩

set_option maxHeartbeats 4000000 in
theorem campaign_Wave_c [GI : GTab] {p0x0 : Campaign} {p1x0 : Str} {r : Int × Int} (h : campaign_Wave p0x0 p1x0 = some r) : Pu Tryz.prog 14 [.agg [.str p0x0.Key, I p0x0.Target.Major, I p0x0.Target.Minor, I p0x0.Target.Patch, I p0x0.At, .list 4 (p0x0.Waves.map Wave.av), I p0x0.Hours.From, I p0x0.Hours.To, I p0x0.Room], .str p1x0] (.tup [I r.1, I r.2]) := by
  unfold campaign_Wave at h
  refine ACall.bodyN Tryz.func14 rfl Tryz.ntmps14 Tryz.results14 rfl rfl ?_
  refine tSR <| n_box rfl rfl rfl rfl fun b1 => rA rfl rfl <| rA rfl rfl <| rN <| tS <| tSR <| ARun.qv (q_load_ptr_all rfl rfl .p0 rfl) rfl <| bndE h fun v2 e1 h => r_callp rfl (campaign_CheckCampaign_c e1) (CoL.refl _) rfl <| rA rfl rfl <| rN <| tSR <| rM rfl rfl <| ARun.qv (q_neq rfl rfl) rfl <| rN <| ATodo.cond_d rfl (fun hc => ?_) (fun hc => ?_)
  · refine have h := iteT hc h; tSR <| rM rfl rfl <| rA rfl rfl <| rA rfl rfl <| rN <| ATodo.ret <| ?_
    obtain rfl := Option.some.inj h
    exact ImpX.here ⟨_, .cons (.tmp _ _ rfl) (.cons (.tmp _ _ rfl) .nil), rfl⟩
  · refine have h := iteF hc h; tK <| tS <| tSR <| rM rfl rfl <| bndE h fun v3 e2 h => r_callp rfl (base_Key_c e2) (CoL.refl _) rfl <| ARun.qv (q_not rfl) rfl <| rN <| ATodo.cond rfl (fun hc => ?_) (fun hc => ?_)
    · refine have h := iteT hc h; tSR <| rA rfl rfl <| rA rfl rfl <| rN <| ATodo.ret <| ?_
      obtain rfl := Option.some.inj h
      exact ImpX.here ⟨_, .cons (.tmp _ _ rfl) (.cons (.tmp _ _ rfl) .nil), rfl⟩
    · refine have h := iteFb hc h; tK <| tSR <| rM rfl rfl <| bndE h fun v4 e3 h => r_callpB rfl (campaign_waveOf_c e3) (.cons (.boxL _ _ _ .p0 (.cons (.co (.refl _)) (.cons (.co (.refl _)) (.cons (.co (.refl _)) (.cons (.co (.refl _)) (.cons (.co (.refl _)) (.cons (.co (.refl _)) (.cons (.co (.refl _)) (.cons (.co (.refl _)) (.cons (.co (.refl _)) .nil)))))))))) (.cons (.co (.refl _)) .nil)) rfl rfl <| rA rfl rfl <| rA rfl rfl <| rN <| ATodo.ret <| ?_
      obtain rfl := Option.some.inj h
      exact ImpX.here ⟨_, .cons (.tmp _ _ rfl) (.cons (.tmp _ _ rfl) .nil), rfl⟩

set_option maxHeartbeats 4000000 in
theorem cmp_isNaN_int_c [GI : GTab] {p0x0 : Int} {r : Bool} (h : cmp_isNaN_int p0x0 = r) : Pu Tryz.prog 113 [I p0x0] (.bool r) := by
  unfold cmp_isNaN_int at h
  refine ACall.bodyN Tryz.func113 rfl Tryz.ntmps113 Tryz.results113 rfl rfl ?_
  refine tSR <| rA rfl rfl <| rN <| tSR <| rM rfl rfl <| rM rfl rfl <| ARun.qv (q_neq rfl rfl) rfl <| rA rfl rfl <| rN <| ATodo.ret <| ?_
  obtain rfl := h
  exact ImpX.here ⟨_, .cons (.tmp _ _ rfl) .nil, rfl⟩

set_option maxHeartbeats 4000000 in
theorem cmp_Compare_int_c [GI : GTab] {p0x0 : Int} {p1x0 : Int} {r : Int} (h : cmp_Compare_int p0x0 p1x0 = r) : Pu Tryz.prog 60 [I p0x0, I p1x0] (I r) := by
  unfold cmp_Compare_int at h
  refine ACall.bodyN Tryz.func60 rfl Tryz.ntmps60 Tryz.results60 rfl rfl ?_
  refine tSR <| rA rfl rfl <| rN <| tSR <| rM rfl rfl <| r_callp rfl (cmp_isNaN_int_c rfl) (CoL.refl _) rfl <| rA rfl rfl <| rN <| tSR <| rM rfl rfl <| r_callp rfl (cmp_isNaN_int_c rfl) (CoL.refl _) rfl <| rA rfl rfl <| rN <| tS <| tSR <| rM rfl rfl <| rN <| ATodo.cond rfl (fun hc => ?_) (fun hc => ?_)
  · refine have h := iteT hc h; tS <| tSR <| rM rfl rfl <| rN <| ATodo.cond rfl (fun hc => ?_) (fun hc => ?_)
    · refine have h := iteT hc h; tSR <| rA rfl rfl <| rN <| ATodo.ret <| ?_
      obtain rfl := h
      exact ImpX.here ⟨_, .cons (.tmp _ _ rfl) .nil, rfl⟩
    · refine have h := iteFb hc h; tK <| tSR <| rA rfl rfl <| rN <| ATodo.ret <| ?_
      obtain rfl := h
      exact ImpX.here ⟨_, .cons (.tmp _ _ rfl) .nil, rfl⟩
  · refine have h := iteFb hc h; tK <| tS <| tSR <| rM rfl rfl <| rN <| ATodo.cond rfl (fun hc => ?_) (fun hc => ?_)
    · refine have h := iteT hc h; tSR <| rA rfl rfl <| rN <| ATodo.ret <| ?_
      obtain rfl := h
      exact ImpX.here ⟨_, .cons (.tmp _ _ rfl) .nil, rfl⟩
    · refine have h := iteFb hc h; tK <| tS <| tSR <| rM rfl rfl <| rM rfl rfl <| ARun.qv (q_lss rfl rfl) rfl <| rN <| ATodo.cond_d rfl (fun hc => ?_) (fun hc => ?_)
      · refine have h := iteT hc h; tSR <| rA rfl rfl <| rN <| ATodo.ret <| ?_
        obtain rfl := h
        exact ImpX.here ⟨_, .cons (.tmp _ _ rfl) .nil, rfl⟩
      · refine have h := iteF hc h; tK <| tS <| tSR <| rM rfl rfl <| rM rfl rfl <| ARun.qv (q_gtr rfl rfl) rfl <| rN <| ATodo.cond_d rfl (fun hc => ?_) (fun hc => ?_)
        · refine have h := iteT hc h; tSR <| rA rfl rfl <| rN <| ATodo.ret <| ?_
          obtain rfl := h
          exact ImpX.here ⟨_, .cons (.tmp _ _ rfl) .nil, rfl⟩
        · refine have h := iteF hc h; tK <| tSR <| rA rfl rfl <| rN <| ATodo.ret <| ?_
          obtain rfl := h
          exact ImpX.here ⟨_, .cons (.tmp _ _ rfl) .nil, rfl⟩

set_option maxHeartbeats 4000000 in
theorem cmp_Or_int_c [GI : GTab] {p0x0 : List Int} {r : Int} (h : cmp_Or_int p0x0 = some r) : Pu Tryz.prog 58 [.list 1 (p0x0.map I)] (I r) := by
  unfold cmp_Or_int at h
  refine ACall.bodyN Tryz.func58 rfl Tryz.ntmps58 Tryz.results58 rfl rfl ?_
  refine tSR <| rA rfl rfl <| rN <| tSR <| rA rfl rfl <| rN <| tS <| tSR <| rM rfl rfl <| ARun.qv (t_len rfl) rfl <| rM rfl rfl <| rN <| ATodo.block <| ATodo.loopI (fun x : Int => cmp_Or_int_b1 p0x0 x) (fun x σ' => σ' = ⟨18, [(3, I (0 : Int)), (6, .list 1 (p0x0.map I)), (7, I (p0x0.length : Int)), (8, I x)], []⟩) h ?_ ?_
  · exact ImpX.lq [] rfl rfl rfl
  · intro n2 z1 σ' J1 hmk h hJ1 hA1
    obtain rfl := hmk
    replace h : cmp_Or_int_b1 p0x0 n2 = some z1 := h
    unfold cmp_Or_int_b1 at h
    refine tSR <| ARun.qv (q_lss rfl rfl) rfl <| rN <| tS <| ATodo.cond_d rfl (fun hc => ?_) (fun hc => ?_)
    · refine have h := iteT hc h; tK <| tS <| ATodo.block <| tSR <| bndE h fun v3 e1 h => ARun.qv (t_index rfl rfl rfl e1 rfl rfl) rfl <| ARun.qv (q_load_rptr rfl rfl rfl) rfl <| rA rfl rfl <| rN <| tSR <| rM rfl rfl <| rM rfl rfl <| ARun.qv (q_neq rfl rfl) rfl <| rN <| ATodo.cond_d rfl (fun hc => ?_) (fun hc => ?_)
      · refine have h := iteT hc h; tSR <| rM rfl rfl <| rA rfl rfl <| rN <| ATodo.ret <| have h := outL h hA1; ?_
        obtain rfl := Option.some.inj h
        exact ImpX.here ⟨_, .cons (.tmp _ _ rfl) .nil, rfl⟩
      · refine have h := iteF hc h; tK <| ATodo.blk <| tR <| ARun.qv (q_addw rfl rfl) rfl <| rM rfl rfl <| rN <| ATodo.stop <| ?_
        obtain rfl := Option.some.inj h
        exact hJ1 _ _ rfl <| ImpX.lq [] rfl rfl rfl
    · refine have h := iteF hc h; ATodo.exit rfl <| have h := outL h hA1; tSR <| rM rfl rfl <| rA rfl rfl <| rN <| ATodo.ret <| ?_
      obtain rfl := Option.some.inj h
      exact ImpX.here ⟨_, .cons (.tmp _ _ rfl) .nil, rfl⟩

set_option maxHeartbeats 4000000 in
theorem campaign_byMoment_c [GI : GTab] {p0x0 : MarkS} {p1x0 : MarkS} {r : Int} (h : campaign_byMoment p0x0 p1x0 = some r) : Pu Tryz.prog 59 [.agg [I p0x0.At, .str p0x0.Device, I p0x0.Kind, I p0x0.Version.Major, I p0x0.Version.Minor, I p0x0.Version.Patch], .agg [I p1x0.At, .str p1x0.Device, I p1x0.Kind, I p1x0.Version.Major, I p1x0.Version.Minor, I p1x0.Version.Patch]] (I r) := by
  unfold campaign_byMoment at h
  refine ACall.bodyN Tryz.func59 rfl Tryz.ntmps59 Tryz.results59 rfl rfl ?_
  refine tSR <| n_box rfl rfl rfl rfl fun b1 => n_box rfl rfl rfl rfl fun b2 => rA rfl rfl <| rN <| tS <| ATodo.regionM (id := 1) (A := [0, 1, 0, 4, 15, 0, 32, 0, 128, 511, 1023, 2047, 4095]) 13 mixed rfl (by kernel_rfl) (by kernel_rfl) <| AM.qv (n_field_ptr rfl rfl) rfl <| AM.qv (q_load_ptr rfl rfl .p1 rfl) rfl <| AM.qv (n_field_ptr rfl rfl) rfl <| AM.qv (q_load_ptr rfl rfl .p0 rfl) rfl <| AM.callp rfl (cmp_Compare_int_c rfl) (CoL.refl _) rfl <| AM.qv (n_field_ptr rfl rfl) rfl <| AM.qv (q_load_ptr rfl rfl .p1 rfl) rfl <| AM.qv (n_field_ptr rfl rfl) rfl <| AM.qv (q_load_ptr rfl rfl .p0 rfl) rfl <| AM.callp rfl (strings_Compare_c rfl) (CoL.refl _) rfl <| AM.buildSliceL (xs := ([(cmp_Compare_int p0x0.At p1x0.At), (Lib.compareBytes p0x0.Device p1x0.Device)] : List Int).map I) rfl rfl rfl rfl rfl rfl <| bndE h fun v3 e1 h => AM.callp rfl (cmp_Or_int_c e1) (CoL.refl _) rfl <| AM.qv (q_assign rfl) rfl <| AM.nil <| rN <| ATodo.ret <| ?_
  obtain rfl := Option.some.inj h
  exact ImpX.here ⟨_, .cons (.tmp _ _ rfl) .nil, rfl⟩

set_option maxHeartbeats 4000000 in
theorem campaign_CheckMarks_c [GI : GTab] {p0x0 : List MarkS} {r : Int} (h : campaign_CheckMarks p0x0 = some r) : Pu Tryz.prog 20 [.list 6 (p0x0.map MarkS.av)] (I r) := by
  unfold campaign_CheckMarks at h
  refine ACall.bodyN Tryz.func20 rfl Tryz.ntmps20 Tryz.results20 rfl rfl ?_
  refine tSR <| rA rfl rfl <| rN <| tS <| tSR <| rM rfl rfl <| ARun.qv (t_len rfl) rfl <| ARun.qv (q_gtr rfl rfl) rfl <| rN <| ATodo.cond_d rfl (fun hc => ?_) (fun hc => ?_)
  · refine have h := iteT hc h; tSR <| rA rfl rfl <| rN <| ATodo.ret <| ?_
    obtain rfl := Option.some.inj h
    exact ImpX.here ⟨_, .cons (.tmp _ _ rfl) .nil, rfl⟩
  · refine have h := iteF hc h; tK <| tS <| tSR <| rM rfl rfl <| ARun.qv (t_len rfl) rfl <| rM rfl rfl <| rN <| ATodo.block <| ATodo.loopI (fun x : Int => campaign_CheckMarks_b1 p0x0 x) (fun x σ' => σ' = ⟨48, [(0, .list 6 (p0x0.map MarkS.av)), (8, .list 6 (p0x0.map MarkS.av)), (9, I (p0x0.length : Int)), (10, I x)], []⟩) h ?_ ?_
    · exact ImpX.lq [] rfl rfl rfl
    · intro n2 z1 σ' J1 hmk h hJ1 hA1
      obtain rfl := hmk
      replace h : campaign_CheckMarks_b1 p0x0 n2 = some z1 := h
      unfold campaign_CheckMarks_b1 at h
      refine tSR <| ARun.qv (q_lss rfl rfl) rfl <| rN <| tS <| ATodo.cond_d rfl (fun hc => ?_) (fun hc => ?_)
      · refine have h := iteT hc h; tK <| tS <| ATodo.block <| tSR <| rM rfl rfl <| bndE h fun v3 e1 h => ARun.qv (t_index rfl rfl rfl e1 rfl rfl) rfl <| ARun.qv (q_load_rptr_agg rfl rfl rfl) rfl <| n_alloc rfl rfl rfl rfl fun b4 => rA rfl rfl <| n_store_ptr rfl rfl rfl rfl .p0 rfl rfl <| rN <| ATodo.block <| tSR <| rF rfl rfl rfl <| rL rfl rfl .p0 rfl rfl <| r_callp rfl (base_Moment_c rfl) (CoL.refl _) rfl <| ARun.qv (q_not rfl) rfl <| rA rfl rfl <| rN <| ATodo.cond rfl (fun hc => ?_) (fun hc => ?_)
        · refine have h := iteT hc h; tSR <| rA rfl rfl <| rN <| ATodo.ret <| have h := outL h hA1; ?_
          obtain rfl := Option.some.inj h
          exact ImpX.here ⟨_, .cons (.tmp _ _ rfl) .nil, rfl⟩
        · refine have h := iteFb hc h; tSR <| rF rfl rfl rfl <| rL rfl rfl .p0 rfl rfl <| bndE h fun v5 e2 h => r_callp rfl (base_Key_c e2) (CoL.refl _) rfl <| ARun.qv (q_not rfl) rfl <| rA rfl rfl <| rN <| ATodo.cond rfl (fun hc => ?_) (fun hc => ?_)
          · refine have h := iteT hc h; tSR <| rA rfl rfl <| rN <| ATodo.ret <| have h := outL h hA1; ?_
            obtain rfl := Option.some.inj h
            exact ImpX.here ⟨_, .cons (.tmp _ _ rfl) .nil, rfl⟩
          · refine have h := iteFb hc h; tSR <| rF rfl rfl rfl <| rL rfl rfl .p0 rfl rfl <| r_callp rfl (base_Out_c rfl) (CoL.refl _) rfl <| rA rfl rfl <| rN <| ATodo.cond rfl (fun hc => ?_) (fun hc => ?_)
            · refine have h := iteT hc h; tSR <| rA rfl rfl <| rN <| ATodo.ret <| have h := outL h hA1; ?_
              obtain rfl := Option.some.inj h
              exact ImpX.here ⟨_, .cons (.tmp _ _ rfl) .nil, rfl⟩
            · refine have h := iteFb hc h; tSR <| rF rfl rfl rfl <| ARun.qv (n_load_ptr_part rfl rfl .p0 rfl rfl) rfl <| r_callp rfl (base_Version_c rfl) (CoL.refl _) rfl <| ARun.qv (q_not rfl) rfl <| rA rfl rfl <| rN <| ATodo.cond rfl (fun hc => ?_) (fun hc => ?_)
              · refine have h := iteT hc h; tSR <| rA rfl rfl <| rN <| ATodo.ret <| have h := outL h hA1; ?_
                obtain rfl := Option.some.inj h
                exact ImpX.here ⟨_, .cons (.tmp _ _ rfl) .nil, rfl⟩
              · refine have h := iteFb hc h; tS <| ATodo.cut (fun σ' => ∃ (c6 : Bool), campaign_CheckMarks_j1 n2 c6 = some z1 ∧ σ' = ⟨48, [(0, .list 6 (p0x0.map MarkS.av)), (8, .list 6 (p0x0.map MarkS.av)), (9, I (p0x0.length : Int)), (10, I n2), (34, .bool c6)], []⟩) ?_ ?_
                · refine ATodo.regionM (id := 14) (A := [0, 1, 3, 7, 7, 7, 39, 119, 247, 511, 1023, 2047, 4095]) 13 mixed rfl (by kernel_rfl) (by kernel_rfl) <| AM.qv (q_move rfl) rfl <| AM.qv (q_gtr rfl rfl) rfl <| AM.qv (q_move rfl) rfl <| AM.guard_dt rfl rfl rfl (fun hc => ?_) (fun hc => ?_)
                  · exact have h := iteT hc h; AM.qv (q_load_ptr_all rfl rfl .p0 rfl) rfl <| AM.guard_yes rfl rfl rfl <| AM.qv (q_move rfl) rfl <| AM.guard_yes rfl rfl rfl <| AM.qv (q_move rfl) rfl <| AM.guard_yes rfl rfl rfl <| AM.qv (q_subw rfl rfl) rfl <| AM.guard_yes rfl rfl rfl <| bndE h fun v7 e3 h => AM.qv (t_index rfl rfl rfl e3 rfl rfl) rfl <| AM.guard_yes rfl rfl rfl <| AM.qv (q_load_rptr_agg rfl rfl rfl) rfl <| AM.guard_yes rfl rfl rfl <| bndE h fun v8 e4 h => AM.callp rfl (campaign_byMoment_c e4) (CoL.refl _) rfl <| AM.guard_yes rfl rfl rfl <| AM.qv (q_leq rfl rfl) rfl <| AM.qv (q_pick_t rfl rfl) rfl <| AM.qv (q_assign rfl) rfl <| AM.nil <| rN <| ATodo.stop <| ImpX.lq [] ⟨decide (v8 ≤ (0 : Int)), h, rfl⟩ rfl rfl
                  · exact have h := iteF hc h; AM.guard_no rfl rfl rfl rfl <| AM.guard_no rfl rfl rfl rfl <| AM.guard_no rfl rfl rfl rfl <| AM.guard_no rfl rfl rfl rfl <| AM.guard_no rfl rfl rfl rfl <| AM.guard_no rfl rfl rfl rfl <| AM.guard_no rfl rfl rfl rfl <| AM.qv (q_pick_f rfl rfl) rfl <| AM.qv (q_assign rfl) rfl <| AM.nil <| rN <| ATodo.stop <| ImpX.lq [] ⟨false, h, rfl⟩ rfl rfl
                · rintro σ' ⟨c6, h, rfl⟩
                  unfold campaign_CheckMarks_j1 at h
                  refine ATodo.cond rfl (fun hc => ?_) (fun hc => ?_)
                  · refine have h := iteT hc h; tSR <| rA rfl rfl <| rN <| ATodo.ret <| have h := outL h hA1; ?_
                    obtain rfl := Option.some.inj h
                    exact ImpX.here ⟨_, .cons (.tmp _ _ rfl) .nil, rfl⟩
                  · refine have h := iteFb hc h; tK <| ATodo.blk <| ATodo.blk <| tR <| ARun.qv (q_addw rfl rfl) rfl <| rM rfl rfl <| rN <| ATodo.stop <| ?_
                    obtain rfl := Option.some.inj h
                    exact hJ1 _ _ rfl <| ImpX.lq [] rfl rfl rfl
      · refine have h := iteF hc h; ATodo.exit rfl <| have h := outL h hA1; tSR <| rA rfl rfl <| rN <| ATodo.ret <| ?_
        obtain rfl := Option.some.inj h
        exact ImpX.here ⟨_, .cons (.tmp _ _ rfl) .nil, rfl⟩

set_option maxHeartbeats 4000000 in
theorem base_First_c [GI : GTab] {p0x0 : List Int} {r : Int} (h : base_First p0x0 = some r) : Pu Tryz.prog 54 [.list 1 (p0x0.map I)] (I r) := by
  unfold base_First at h
  refine ACall.bodyN Tryz.func54 rfl Tryz.ntmps54 Tryz.results54 rfl rfl ?_
  refine tSR <| rA rfl rfl <| rN <| tS <| tSR <| rM rfl rfl <| ARun.qv (t_len rfl) rfl <| rM rfl rfl <| rN <| ATodo.block <| ATodo.loopI (fun x : Int => base_First_b1 p0x0 x) (fun x σ' => σ' = ⟨15, [(5, .list 1 (p0x0.map I)), (6, I (p0x0.length : Int)), (7, I x)], []⟩) h ?_ ?_
  · exact ImpX.lq [] rfl rfl rfl
  · intro n2 z1 σ' J1 hmk h hJ1 hA1
    obtain rfl := hmk
    replace h : base_First_b1 p0x0 n2 = some z1 := h
    unfold base_First_b1 at h
    refine tSR <| ARun.qv (q_lss rfl rfl) rfl <| rN <| tS <| ATodo.cond_d rfl (fun hc => ?_) (fun hc => ?_)
    · refine have h := iteT hc h; tK <| tS <| ATodo.block <| tSR <| bndE h fun v3 e1 h => ARun.qv (t_index rfl rfl rfl e1 rfl rfl) rfl <| ARun.qv (q_load_rptr rfl rfl rfl) rfl <| rA rfl rfl <| rN <| tSR <| rM rfl rfl <| ARun.qv (q_neq rfl rfl) rfl <| rN <| ATodo.cond_d rfl (fun hc => ?_) (fun hc => ?_)
      · refine have h := iteT hc h; tSR <| rM rfl rfl <| rA rfl rfl <| rN <| ATodo.ret <| have h := outL h hA1; ?_
        obtain rfl := Option.some.inj h
        exact ImpX.here ⟨_, .cons (.tmp _ _ rfl) .nil, rfl⟩
      · refine have h := iteF hc h; tK <| ATodo.blk <| tR <| ARun.qv (q_addw rfl rfl) rfl <| rM rfl rfl <| rN <| ATodo.stop <| ?_
        obtain rfl := Option.some.inj h
        exact hJ1 _ _ rfl <| ImpX.lq [] rfl rfl rfl
    · refine have h := iteF hc h; ATodo.exit rfl <| have h := outL h hA1; tSR <| rA rfl rfl <| rN <| ATodo.ret <| ?_
      obtain rfl := Option.some.inj h
      exact ImpX.here ⟨_, .cons (.tmp _ _ rfl) .nil, rfl⟩

set_option maxHeartbeats 4000000 in
theorem slices_Grow_Mark_Mark_n0x_c [GI : GTab] {p1x0 : Int} {r : (List MarkS)} (h : slices_Grow_Mark_Mark_n0x p1x0 = some r) : ACall Tryz.prog 110 [.nil, I p1x0] [] (T1 (fun d_0 => [(d_0, .arr 6 (r.map MarkS.av))]) (fun d_0 => .sl 6 d_0 0 r.length)) := by
  unfold slices_Grow_Mark_Mark_n0x at h
  refine ACall.lessH ?_
  refine ACall.bodyN Tryz.func110 rfl Tryz.ntmps110 Tryz.results110 rfl rfl ?_
  refine tSR <| rA rfl rfl <| rN <| tS <| tSR <| rM rfl rfl <| ARun.qv (q_lss rfl rfl) rfl <| rN <| ATodo.cond_d rfl (fun hc => ?_) (fun hc => ?_)
  · refine have h := iteT hc h; tR <| ?_
    cases h
  · refine have h := iteF hc h; tK <| tS <| tSR <| rM rfl rfl <| rM rfl rfl <| ARun.qv (q_cap_nil rfl) rfl <| rM rfl rfl <| ARun.qv (q_len_nil rfl) rfl <| ARun.qv (q_subw rfl rfl) rfl <| ARun.qv (q_subw rfl rfl) rfl <| rA rfl rfl <| rN <| tSR <| rM rfl rfl <| ARun.qv (q_gtr rfl rfl) rfl <| rN <| ATodo.cut (fun σ' => ∃ (b1 : Bk) (l2 : List MarkS), slices_Grow_Mark_Mark_n0x_j1 l2 = some r ∧ σ' = ⟨27, [(0, .sl 6 b1 0 l2.length)], [(b1, .arr 6 (l2.map MarkS.av))]⟩) ?_ ?_
    · refine ATodo.cond_d rfl (fun hc => ?_) (fun hc => ?_)
      · exact have h := iteT hc h; tR <| rM rfl rfl <| rM rfl rfl <| ARun.qv (q_cap_nil rfl) rfl <| bndE h fun l3 e1 h => ARun.qv (t_slice_nil rfl .none (.some _ _ _ rfl) rfl rfl e1) rfl <| rM rfl rfl <| bndE h fun l4 e2 h => t_appendZ (g := MarkS.av) (Z := (⟨(0 : Int), [], (0 : Int), (⟨(0 : Int), (0 : Int), (0 : Int)⟩ : Version)⟩ : MarkS)) rfl rfl rfl rfl rfl rfl rfl rfl rfl e2 fun b5 => rM rfl rfl <| ARun.qv (q_len_nil rfl) rfl <| bndE h fun l6 e3 h => ARun.qv (t_slice_sl rfl rfl .none (.some _ _ _ rfl) rfl rfl e3) rfl <| rA rfl rfl <| ARun.ghost <| ImpX.takeT e3 .p0 <| ImpX.here <| rN <| ATodo.stop <| ImpX.lq [0] ⟨b5, l6, h, rfl⟩ rfl rfl
      · exact have h := iteF hc h; tK <| ATodo.stop <| ImpX.arr (s := 0) 6 rfl fun b7 => ImpX.lq [0] ⟨b7, [], h, rfl⟩ rfl rfl
    · rintro σ' ⟨b1, l2, h, rfl⟩
      unfold slices_Grow_Mark_Mark_n0x_j1 at h
      refine tSR <| rM rfl rfl <| rA rfl rfl <| rN <| ATodo.ret <| ?_
      obtain rfl := Option.some.inj h
      exact ImpX.here ⟨_, .cons (.tmp _ _ rfl) .nil, _, .cons .p0 .nil, ⟨b1, rfl, rfl⟩⟩

set_option maxHeartbeats 4000000 in
theorem slices_Concat_Mark_Mark_c [GI : GTab] {p0x0 : List (List MarkS)} {r : (List MarkS)} (h : slices_Concat_Mark_Mark p0x0 = some r) : ACall Tryz.prog 55 [.list 1 (p0x0.map (encL 6 MarkS.av))] [] (T1 (fun d_0 => [(d_0, .arr 6 (r.map MarkS.av))]) (fun d_0 => .sl 6 d_0 0 r.length)) := by
  unfold slices_Concat_Mark_Mark at h
  refine ACall.lessH ?_
  refine ACall.bodyN Tryz.func55 rfl Tryz.ntmps55 Tryz.results55 rfl rfl ?_
  refine tSR <| rA rfl rfl <| rN <| tSR <| rA rfl rfl <| rN <| tS <| tSR <| rM rfl rfl <| ARun.qv (t_len rfl) rfl <| rM rfl rfl <| rN <| ATodo.block <| ATodo.loopI (fun x : Int × Int => slices_Concat_Mark_Mark_b1 p0x0 x.1 x.2) (fun x σ' => σ' = ⟨36, [(0, .list 1 (p0x0.map (encL 6 MarkS.av))), (3, I x.1), (9, .list 1 (p0x0.map (encL 6 MarkS.av))), (10, I (p0x0.length : Int)), (11, I x.2)], []⟩) h ?_ ?_
  · exact ImpX.lq [] rfl rfl rfl
  · intro x z1 σ' J1 hmk h hJ1 hA1
    obtain ⟨n3, n4⟩ := x
    obtain rfl := hmk
    replace h : slices_Concat_Mark_Mark_b1 p0x0 n3 n4 = some z1 := h
    unfold slices_Concat_Mark_Mark_b1 at h
    refine tSR <| ARun.qv (q_lss rfl rfl) rfl <| rN <| tS <| ATodo.cond_d rfl (fun hc => ?_) (fun hc => ?_)
    · refine have h := iteT hc h; tK <| tS <| ATodo.block <| tSR <| bndE h fun v5 e1 h => ARun.qv (t_index rfl rfl rfl e1 rfl rfl) rfl <| ARun.qv (q_load_rptr rfl rfl rfl) rfl <| rA rfl rfl <| rN <| tSR <| rM rfl rfl <| rM rfl rfl <| ARun.qv (t_len rfl) rfl <| ARun.qv (q_addw rfl rfl) rfl <| rA rfl rfl <| rN <| tSR <| rM rfl rfl <| ARun.qv (q_lss rfl rfl) rfl <| rN <| ATodo.cond_d rfl (fun hc => ?_) (fun hc => ?_)
      · refine have h := iteT hc h; tR <| ?_
        cases h
      · refine have h := iteF hc h; tK <| ATodo.blk <| tR <| ARun.qv (q_addw rfl rfl) rfl <| rM rfl rfl <| rN <| ATodo.stop <| ?_
        obtain rfl := Option.some.inj h
        exact hJ1 _ _ rfl <| ImpX.lq [] rfl rfl rfl
    · refine have h := iteF hc h; ATodo.exit rfl <| have h := outL h hA1; ?_
      unfold slices_Concat_Mark_Mark_k1 at h
      refine tSR <| rM rfl rfl <| bndE h fun v6 e2 h => t_call1 rfl (slices_Grow_Mark_Mark_n0x_c e2) (CoL.refl _) .nil (fun _ => rfl) rfl fun b7 => rA rfl rfl <| rN <| tS <| tSR <| rM rfl rfl <| ARun.qv (t_len rfl) rfl <| rM rfl rfl <| rN <| ATodo.block <| ATodo.loopI (fun x : (List MarkS) × Int => slices_Concat_Mark_Mark_b2 p0x0 x.1 x.2) (fun x σ' => ∃ (b11 : Bk), σ' = ⟨36, [(6, .sl 6 b11 0 x.1.length), (25, .list 1 (p0x0.map (encL 6 MarkS.av))), (26, I (p0x0.length : Int)), (27, I x.2)], [(b11, .arr 6 (x.1.map MarkS.av))]⟩) h ?_ ?_
      · exact ImpX.lq [0] ⟨b7, rfl⟩ rfl rfl
      · intro x z2 σ' J2 hmk h hJ2 hA2
        obtain ⟨l12, n13⟩ := x
        obtain ⟨b11, rfl⟩ := hmk
        replace h : slices_Concat_Mark_Mark_b2 p0x0 l12 n13 = some z2 := h
        unfold slices_Concat_Mark_Mark_b2 at h
        refine tSR <| ARun.qv (q_lss rfl rfl) rfl <| rN <| tS <| ATodo.cond_d rfl (fun hc => ?_) (fun hc => ?_)
        · refine have h := iteT hc h; tK <| tS <| ATodo.block <| tSR <| bndE h fun v14 e3 h => ARun.qv (t_index rfl rfl rfl e3 rfl rfl) rfl <| ARun.qv (q_load_rptr rfl rfl rfl) rfl <| rA rfl rfl <| rN <| tR <| rM rfl rfl <| rM rfl rfl <| bndE h fun l15 e4 h => t_append (g := MarkS.av) rfl rfl rfl rfl rfl rfl rfl rfl (.list _) e4 (fun _ => .p0) rfl fun b16 => rA rfl rfl <| rN <| ATodo.blk <| tR <| ARun.qv (q_addw rfl rfl) rfl <| rM rfl rfl <| rN <| ATodo.stop <| ?_
          obtain rfl := Option.some.inj h
          exact hJ2 _ _ rfl <| ImpX.lq [0] ⟨b16, rfl⟩ rfl rfl
        · refine have h := iteF hc h; ATodo.exit rfl <| have h := outL h hA2; tSR <| rM rfl rfl <| rA rfl rfl <| rN <| ATodo.ret <| ?_
          obtain rfl := Option.some.inj h
          exact ImpX.here ⟨_, .cons (.tmp _ _ rfl) .nil, _, .cons .p0 .nil, ⟨b11, rfl, rfl⟩⟩

set_option maxHeartbeats 4000000 in
theorem campaign_Compare_c [GI : GTab] {p0x0 : Version} {p1x0 : Version} {r : Int} (h : campaign_Compare p0x0 p1x0 = some r) : Pu Tryz.prog 61 [.agg [I p0x0.Major, I p0x0.Minor, I p0x0.Patch], .agg [I p1x0.Major, I p1x0.Minor, I p1x0.Patch]] (I r) := by
  unfold campaign_Compare at h
  refine ACall.bodyN Tryz.func61 rfl Tryz.ntmps61 Tryz.results61 rfl rfl ?_
  refine tSR <| n_box rfl rfl rfl rfl fun b1 => n_box rfl rfl rfl rfl fun b2 => rA rfl rfl <| rN <| tS <| ATodo.regionM (id := 1) (A := [0, 1, 0, 4, 15, 0, 32, 0, 128, 511, 0, 1024, 0, 4096, 16383, 32767, 65535, 131071]) 18 mixed rfl (by kernel_rfl) (by kernel_rfl) <| AM.qv (n_field_ptr rfl rfl) rfl <| AM.qv (q_load_ptr rfl rfl .p1 rfl) rfl <| AM.qv (n_field_ptr rfl rfl) rfl <| AM.qv (q_load_ptr rfl rfl .p0 rfl) rfl <| AM.callp rfl (cmp_Compare_int_c rfl) (CoL.refl _) rfl <| AM.qv (n_field_ptr rfl rfl) rfl <| AM.qv (q_load_ptr rfl rfl .p1 rfl) rfl <| AM.qv (n_field_ptr rfl rfl) rfl <| AM.qv (q_load_ptr rfl rfl .p0 rfl) rfl <| AM.callp rfl (cmp_Compare_int_c rfl) (CoL.refl _) rfl <| AM.qv (n_field_ptr rfl rfl) rfl <| AM.qv (q_load_ptr rfl rfl .p1 rfl) rfl <| AM.qv (n_field_ptr rfl rfl) rfl <| AM.qv (q_load_ptr rfl rfl .p0 rfl) rfl <| AM.callp rfl (cmp_Compare_int_c rfl) (CoL.refl _) rfl <| AM.buildSliceL (xs := ([(cmp_Compare_int p0x0.Major p1x0.Major), (cmp_Compare_int p0x0.Minor p1x0.Minor), (cmp_Compare_int p0x0.Patch p1x0.Patch)] : List Int).map I) rfl rfl rfl rfl rfl rfl <| bndE h fun v3 e1 h => AM.callp rfl (cmp_Or_int_c e1) (CoL.refl _) rfl <| AM.qv (q_assign rfl) rfl <| AM.nil <| rN <| ATodo.ret <| ?_
  obtain rfl := Option.some.inj h
  exact ImpX.here ⟨_, .cons (.tmp _ _ rfl) .nil, rfl⟩

set_option maxHeartbeats 4000000 in
theorem campaign_Merge_1x_c [GI : GTab] {p0x0 : MarkS} {p1x0 : MarkS} {r : Int} (h : campaign_Merge_1x p0x0 p1x0 = some r) : Pu Tryz.prog 57 [.agg [I p0x0.At, .str p0x0.Device, I p0x0.Kind, I p0x0.Version.Major, I p0x0.Version.Minor, I p0x0.Version.Patch], .agg [I p1x0.At, .str p1x0.Device, I p1x0.Kind, I p1x0.Version.Major, I p1x0.Version.Minor, I p1x0.Version.Patch]] (I r) := by
  unfold campaign_Merge_1x at h
  refine ACall.bodyN Tryz.func57 rfl Tryz.ntmps57 Tryz.results57 rfl rfl ?_
  refine tSR <| n_box rfl rfl rfl rfl fun b1 => n_box rfl rfl rfl rfl fun b2 => rA rfl rfl <| rN <| tS <| ATodo.regionM (id := 1) (A := [0, 0, 3, 0, 8, 0, 32, 127, 0, 256, 0, 1024, 4095, 8191, 16383, 32767]) 16 mixed rfl (by kernel_rfl) (by kernel_rfl) <| AM.qv (q_load_ptr_all rfl rfl .p1 rfl) rfl <| AM.qv (q_load_ptr_all rfl rfl .p0 rfl) rfl <| bndE h fun v3 e1 h => AM.callp rfl (campaign_byMoment_c e1) (CoL.refl _) rfl <| AM.qv (n_field_ptr rfl rfl) rfl <| AM.qv (q_load_ptr rfl rfl .p1 rfl) rfl <| AM.qv (n_field_ptr rfl rfl) rfl <| AM.qv (q_load_ptr rfl rfl .p0 rfl) rfl <| AM.callp rfl (cmp_Compare_int_c rfl) (CoL.refl _) rfl <| AM.qv (n_field_ptr rfl rfl) rfl <| AM.qv (n_load_ptr_part rfl rfl .p1 rfl rfl) rfl <| AM.qv (n_field_ptr rfl rfl) rfl <| AM.qv (n_load_ptr_part rfl rfl .p0 rfl rfl) rfl <| bndE h fun v4 e2 h => AM.callp rfl (campaign_Compare_c e2) (CoL.refl _) rfl <| AM.buildSliceL (xs := ([v3, (cmp_Compare_int p0x0.Kind p1x0.Kind), v4] : List Int).map I) rfl rfl rfl rfl rfl rfl <| bndE h fun v5 e3 h => AM.callp rfl (cmp_Or_int_c e3) (CoL.refl _) rfl <| AM.qv (q_assign rfl) rfl <| AM.nil <| rN <| ATodo.ret <| ?_
  obtain rfl := Option.some.inj h
  exact ImpX.here ⟨_, .cons (.tmp _ _ rfl) .nil, rfl⟩

end Go.Proofs.YtmeliclfmnekkaaGreatDoor

