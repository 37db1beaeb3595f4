/- The code computes the plain functions: proofs written by shal.py. -/
import Derived.Test.YtohbdmanojgegaaDoorCelP
import Derived.Test.YtohbdmanojgegaaDoorLib
set_option maxRecDepth 100000
set_option linter.unusedVariables false
set_option linter.unusedSimpArgs false
namespace Go.Proofs.YtohbdmanojgegaaDoor
open Go Go.Eng Go.Proofs Go.Beacon
attribute [local irreducible] ARun ATodo AQ QV ACall ImpX AWp AM
instance eqg27 : EqGd Tryd.prog 27 := ⟨by kernel_rfl⟩
instance eqt27 : EqTy Tryd.prog 27 2 Spot.av := ⟨fun x y w S v u hv hu => by
  obtain ⟨vs, rfl, hl, ha⟩ := At.agg_inv hv
  obtain ⟨us, rfl, hl', ha'⟩ := At.agg_inv hu
  obtain ⟨v0, p0, q0⟩ := AtA.get hl ha (off := 0) rfl
  obtain ⟨u0, p0', q0'⟩ := AtA.get hl' ha' (off := 0) rfl
  obtain ⟨v1, p1, q1⟩ := AtA.get hl ha (off := 1) rfl
  obtain ⟨u1, p1', q1'⟩ := AtA.get hl' ha' (off := 1) rfl
  refine EqR.cast (EqR.struct Tryd.underlying27 (by kernel_rfl) (.cons (by decide) (part_one rfl p0) (part_one rfl p0') (EqR.up (EqTy.h (g := I) x.X y.X w S _ _ q0 q0') 0)  (.cons (by decide) (part_one rfl p1) (part_one rfl p1') (EqR.up (EqTy.h (g := I) x.Y y.Y w S _ _ q1 q1') 0) .nil))) ?_
  obtain ⟨_, _⟩ := x
  obtain ⟨_, _⟩ := y
  rw [Bool.eq_iff_iff]; simp [and_assoc]⟩
set_option maxHeartbeats 4000000 in
theorem Below_c [GI : GTab] {p0x0 : Int} {p1x0 : Int} {r : Int} (h : Below p0x0 p1x0 = some r) : Pu Tryd.prog 41 [I p0x0, I p1x0] (I r) := by
  unfold Below at h
  refine ACall.bodyN Tryd.func41 rfl Tryd.ntmps41 Tryd.results41 rfl rfl ?_
  refine tSR <| rA rfl rfl <| rN <| tS <| tSR <| rM rfl rfl <| ARun.qv (q_lss rfl rfl) rfl <| rN <| ATodo.cond_d rfl (fun hc => ?_) (fun hc => ?_)
  · refine have h := iteT hc h; tSR <| rA rfl rfl <| rN <| ATodo.ret <| ?_
    obtain rfl := Option.some.inj h
    exact ImpX.here ⟨_, .cons (.tmp _ _ rfl) .nil, rfl⟩
  · refine have h := iteF hc h; tK <| tSR <| rM rfl rfl <| rM rfl rfl <| bndE h fun n1 e1 h => ARun.qv (t_remS rfl rfl e1) rfl <| rA rfl rfl <| rN <| tS <| tSR <| rM rfl rfl <| ARun.qv (q_lss rfl rfl) rfl <| rN <| ATodo.cut (fun σ' => ∃ (n2 : Int), Below_j1 n2 = some r ∧ σ' = ⟨16, [(0, I n2)], []⟩) ?_ ?_
    · refine ATodo.cond_d rfl (fun hc => ?_) (fun hc => ?_)
      · exact have h := iteT hc h; tR <| rM rfl rfl <| rM rfl rfl <| ARun.qv (q_addw rfl rfl) rfl <| rA rfl rfl <| rN <| ATodo.stop <| ImpX.lq [] ⟨w64 (n1 + p1x0), h, rfl⟩ rfl rfl
      · exact have h := iteF hc h; tK <| ATodo.stop <| ImpX.lq [] ⟨n1, h, rfl⟩ rfl rfl
    · rintro σ' ⟨n2, h, rfl⟩
      unfold Below_j1 at h
      refine tSR <| rM rfl rfl <| rA rfl rfl <| rN <| ATodo.ret <| ?_
      obtain rfl := Option.some.inj h
      exact ImpX.here ⟨_, .cons (.tmp _ _ rfl) .nil, rfl⟩

set_option maxHeartbeats 4000000 in
theorem Stream_Next_c [GI : GTab] {b_0 : Bk} {p0x0 : Fleetmake_Stream} {p1x0 : Int} {r : Int × Fleetmake_Stream} (h : Stream_Next p0x0 p1x0 = some r) : ACall Tryd.prog 25 [.ptr b_0 0, I p1x0] [(b_0, .cells [.list 1 (p0x0.L.map I), I p0x0.at_])] (T0 ([(b_0, .cells [.list 1 (r.2.L.map I), I r.2.at_])]) (I r.1)) := by
  unfold Stream_Next at h
  refine ACall.lessH ?_
  refine ACall.bodyN Tryd.func25 rfl Tryd.ntmps25 Tryd.results25 rfl rfl ?_
  refine tSR <| rA rfl rfl <| rN <| tSR <| rM rfl rfl <| ARun.qv (q_nilCheck_ptr rfl) rfl <| rF rfl rfl rfl <| rL rfl rfl .p0 rfl rfl <| ARun.qv (q_addw rfl rfl) rfl <| ARun.qv (q_nilCheck_ptr rfl) rfl <| rF rfl rfl rfl <| n_store_ptr rfl rfl rfl rfl .p0 rfl rfl <| rN <| tS <| tSR <| rM rfl rfl <| ARun.qv (q_nilCheck_ptr rfl) rfl <| rF rfl rfl rfl <| rL rfl rfl .p0 rfl rfl <| ARun.qv (t_len rfl) rfl <| ARun.qv (q_eql rfl rfl) rfl <| rN <| ATodo.cond_d rfl (fun hc => ?_) (fun hc => ?_)
  · refine have h := iteT hc h; tSR <| rM rfl rfl <| ARun.qv (q_nilCheck_ptr rfl) rfl <| rF rfl rfl rfl <| rL rfl rfl .p0 rfl rfl <| ARun.qv (q_mulw rfl rfl) rfl <| rM rfl rfl <| bndE h fun v1 e1 h => r_callp rfl (Below_c e1) (CoL.refl _) rfl <| rA rfl rfl <| rN <| ATodo.ret <| ?_
    obtain rfl := Option.some.inj h
    exact ImpX.here ⟨_, .cons (.tmp _ _ rfl) .nil, _, .cons .p0 .nil, ⟨rfl, rfl⟩⟩
  · refine have h := iteF hc h; tK <| tS <| ATodo.regionM (id := 4) (A := [0, 1, 3, 7, 15, 0, 32, 96, 224, 480, 1023, 2047]) 12 mixed rfl (by kernel_rfl) (by kernel_rfl) <| AM.qv (q_move rfl) rfl <| AM.qv (q_nilCheck_ptr rfl) rfl <| AM.qv (n_field_ptr rfl rfl) rfl <| AM.qv (q_load_ptr rfl rfl .p0 rfl) rfl <| AM.qv (q_subw rfl rfl) rfl <| AM.qv (q_move rfl) rfl <| AM.qv (q_nilCheck_ptr rfl) rfl <| AM.qv (n_field_ptr rfl rfl) rfl <| AM.qv (q_load_ptr rfl rfl .p0 rfl) rfl <| AM.qv (t_len rfl) rfl <| bndE h fun n2 e2 h => AM.qv (t_remS rfl rfl e2) rfl <| AM.qv (q_assign rfl) rfl <| AM.nil <| rN <| tS <| ATodo.regionM (id := 5) (A := [0, 1, 3, 7, 15, 0, 32, 96, 224, 480, 1023, 2047]) 12 mixed rfl (by kernel_rfl) (by kernel_rfl) <| AM.qv (q_move rfl) rfl <| AM.qv (q_nilCheck_ptr rfl) rfl <| AM.qv (n_field_ptr rfl rfl) rfl <| AM.qv (q_load_ptr rfl rfl .p0 rfl) rfl <| AM.qv (q_subw rfl rfl) rfl <| AM.qv (q_move rfl) rfl <| AM.qv (q_nilCheck_ptr rfl) rfl <| AM.qv (n_field_ptr rfl rfl) rfl <| AM.qv (q_load_ptr rfl rfl .p0 rfl) rfl <| AM.qv (t_len rfl) rfl <| bndE h fun n3 e3 h => AM.qv (t_quoS rfl rfl e3) rfl <| AM.qv (q_assign rfl) rfl <| AM.nil <| rN <| tSR <| rM rfl rfl <| ARun.qv (q_nilCheck_ptr rfl) rfl <| rF rfl rfl rfl <| rL rfl rfl .p0 rfl rfl <| rM rfl rfl <| bndE h fun v4 e4 h => ARun.qv (t_index rfl rfl rfl e4 rfl rfl) rfl <| ARun.qv (q_load_rptr rfl rfl rfl) rfl <| bndE h fun v5 e5 h => r_callp rfl (Below_c e5) (CoL.refl _) rfl <| rM rfl rfl <| rM rfl rfl <| ARun.qv (q_addw rfl rfl) rfl <| ARun.qv (q_mulw rfl rfl) rfl <| ARun.qv (q_addw rfl rfl) rfl <| rM rfl rfl <| bndE h fun v6 e6 h => r_callp rfl (Below_c e6) (CoL.refl _) rfl <| rA rfl rfl <| rN <| ATodo.ret <| ?_
    obtain rfl := Option.some.inj h
    exact ImpX.here ⟨_, .cons (.tmp _ _ rfl) .nil, _, .cons .p0 .nil, ⟨rfl, rfl⟩⟩

set_option maxHeartbeats 4000000 in
theorem Stream_Pick_c [GI : GTab] {b_0 : Bk} {p0x0 : Fleetmake_Stream} {p1x0 : List Int} {r : Int × Fleetmake_Stream} (h : Stream_Pick p0x0 p1x0 = some r) : ACall Tryd.prog 5 [.ptr b_0 0, .list 1 (p1x0.map I)] [(b_0, .cells [.list 1 (p0x0.L.map I), I p0x0.at_])] (T0 ([(b_0, .cells [.list 1 (r.2.L.map I), I r.2.at_])]) (I r.1)) := by
  unfold Stream_Pick at h
  refine ACall.lessH ?_
  refine ACall.bodyN Tryd.func5 rfl Tryd.ntmps5 Tryd.results5 rfl rfl ?_
  refine tSR <| rA rfl rfl <| rN <| tSR <| rM rfl rfl <| rM rfl rfl <| rM rfl rfl <| ARun.qv (t_len rfl) rfl <| bndE h fun v1 e1 h => t_call0 rfl (Stream_Next_c e1) (CoL.refl _) (.cons .p0 .nil) rfl rfl <| bndE h fun v2 e2 h => ARun.qv (t_index rfl rfl rfl e2 rfl rfl) rfl <| ARun.qv (q_load_rptr rfl rfl rfl) rfl <| rA rfl rfl <| rN <| ATodo.ret <| ?_
  obtain rfl := Option.some.inj h
  exact ImpX.here ⟨_, .cons (.tmp _ _ rfl) .nil, _, .cons .p0 .nil, ⟨rfl, rfl⟩⟩

set_option maxHeartbeats 4000000 in
theorem Stream_Place_c [GI : GTab] {b_0 : Bk} {p0x0 : Fleetmake_Stream} {r : Spot × Fleetmake_Stream} (h : Stream_Place p0x0 = some r) : ACall Tryd.prog 23 [.ptr b_0 0] [(b_0, .cells [.list 1 (p0x0.L.map I), I p0x0.at_])] (T0 ([(b_0, .cells [.list 1 (r.2.L.map I), I r.2.at_])]) (.agg [I r.1.X, I r.1.Y])) := by
  unfold Stream_Place at h
  refine ACall.lessH ?_
  refine ACall.bodyN Tryd.func23 rfl Tryd.ntmps23 Tryd.results23 rfl rfl ?_
  refine tSR <| n_alloc rfl rfl rfl rfl fun b1 => rN <| tSR <| rM rfl rfl <| n_buildSliceL (xs := ([(0 : Int), (1 : Int), (2 : Int), (3 : Int), (4 : Int), (5 : Int), (6 : Int), (8 : Int), (10 : Int), (-1 : Int), (-5 : Int), (20 : Int)]).map I) rfl rfl rfl rfl rfl rfl <| bndE h fun v2 e1 h => t_call0 rfl (Stream_Pick_c e1) (CoL.refl _) (.cons .p1 .nil) rfl rfl <| rM rfl rfl <| n_buildSliceL (xs := ([(0 : Int), (1 : Int), (2 : Int), (3 : Int), (4 : Int), (5 : Int), (6 : Int), (8 : Int), (10 : Int), (-1 : Int), (-5 : Int), (20 : Int)]).map I) rfl rfl rfl rfl rfl rfl <| bndE h fun v3 e2 h => t_call0 rfl (Stream_Pick_c e2) (CoL.refl _) (.cons .p0 .nil) rfl rfl <| ARun.qv (n_build rfl rfl rfl rfl rfl) rfl <| n_store_ptr rfl rfl rfl rfl .p1 rfl rfl <| rN <| ATodo.ret <| ?_
  obtain rfl := Option.some.inj h
  exact ImpX.here ⟨_, .cons (.all _ _ _ _ _ _ rfl .p1 TUnder.h TInfo.h rfl rfl) .nil, _, .cons .p0 .nil, ⟨rfl, rfl⟩⟩

set_option maxHeartbeats 4000000 in
theorem Stream_Flip_c [GI : GTab] {b_0 : Bk} {p0x0 : Fleetmake_Stream} {p1x0 : Int} {r : Bool × Fleetmake_Stream} (h : Stream_Flip p0x0 p1x0 = some r) : ACall Tryd.prog 8 [.ptr b_0 0, I p1x0] [(b_0, .cells [.list 1 (p0x0.L.map I), I p0x0.at_])] (T0 ([(b_0, .cells [.list 1 (r.2.L.map I), I r.2.at_])]) (.bool r.1)) := by
  unfold Stream_Flip at h
  refine ACall.lessH ?_
  refine ACall.bodyN Tryd.func8 rfl Tryd.ntmps8 Tryd.results8 rfl rfl ?_
  refine tSR <| rA rfl rfl <| rN <| tSR <| rM rfl rfl <| rM rfl rfl <| bndE h fun v1 e1 h => t_call0 rfl (Stream_Next_c e1) (CoL.refl _) (.cons .p0 .nil) rfl rfl <| ARun.qv (q_eql rfl rfl) rfl <| rA rfl rfl <| rN <| ATodo.ret <| ?_
  obtain rfl := Option.some.inj h
  exact ImpX.here ⟨_, .cons (.tmp _ _ rfl) .nil, _, .cons .p0 .nil, ⟨rfl, rfl⟩⟩

set_option maxHeartbeats 4000000 in
theorem Stream_Range_c [GI : GTab] {b_0 : Bk} {p0x0 : Fleetmake_Stream} {p1x0 : Int} {p2x0 : Int} {r : Int × Fleetmake_Stream} (h : Stream_Range p0x0 p1x0 p2x0 = some r) : ACall Tryd.prog 9 [.ptr b_0 0, I p1x0, I p2x0] [(b_0, .cells [.list 1 (p0x0.L.map I), I p0x0.at_])] (T0 ([(b_0, .cells [.list 1 (r.2.L.map I), I r.2.at_])]) (I r.1)) := by
  unfold Stream_Range at h
  refine ACall.lessH ?_
  refine ACall.bodyN Tryd.func9 rfl Tryd.ntmps9 Tryd.results9 rfl rfl ?_
  refine tSR <| rA rfl rfl <| rN <| tS <| tSR <| rM rfl rfl <| rM rfl rfl <| ARun.qv (q_lss rfl rfl) rfl <| rN <| ATodo.cond_d rfl (fun hc => ?_) (fun hc => ?_)
  · refine have h := iteT hc h; tSR <| rM rfl rfl <| rA rfl rfl <| rN <| ATodo.ret <| ?_
    obtain rfl := Option.some.inj h
    exact ImpX.here ⟨_, .cons (.tmp _ _ rfl) .nil, _, .cons .p0 .nil, ⟨rfl, rfl⟩⟩
  · refine have h := iteF hc h; tK <| tSR <| rM rfl rfl <| rM rfl rfl <| rM rfl rfl <| rM rfl rfl <| ARun.qv (q_subw rfl rfl) rfl <| ARun.qv (q_addw rfl rfl) rfl <| bndE h fun v1 e1 h => t_call0 rfl (Stream_Next_c e1) (CoL.refl _) (.cons .p0 .nil) rfl rfl <| ARun.qv (q_addw rfl rfl) rfl <| rA rfl rfl <| rN <| ATodo.ret <| ?_
    obtain rfl := Option.some.inj h
    exact ImpX.here ⟨_, .cons (.tmp _ _ rfl) .nil, _, .cons .p0 .nil, ⟨rfl, rfl⟩⟩

set_option maxHeartbeats 4000000 in
theorem Stream_Odd_c [GI : GTab] {b_0 : Bk} {p0x0 : Fleetmake_Stream} {p1x0 : Int} {p2x0 : Int} {r : Int × Fleetmake_Stream} (h : Stream_Odd p0x0 p1x0 p2x0 = some r) : ACall Tryd.prog 24 [.ptr b_0 0, I p1x0, I p2x0] [(b_0, .cells [.list 1 (p0x0.L.map I), I p0x0.at_])] (T0 ([(b_0, .cells [.list 1 (r.2.L.map I), I r.2.at_])]) (I r.1)) := by
  unfold Stream_Odd at h
  refine ACall.lessH ?_
  refine ACall.bodyN Tryd.func24 rfl Tryd.ntmps24 Tryd.results24 rfl rfl ?_
  refine tSR <| rA rfl rfl <| rN <| tS <| tSR <| rM rfl rfl <| bndE h fun v1 e1 h => t_call0 rfl (Stream_Flip_c e1) (CoL.refl _) (.cons .p0 .nil) rfl rfl <| rN <| ATodo.cond rfl (fun hc => ?_) (fun hc => ?_)
  · refine have h := iteT hc h; tSR <| rM rfl rfl <| rM rfl rfl <| ARun.qv (q_subw rfl rfl) rfl <| rM rfl rfl <| ARun.qv (q_addw rfl rfl) rfl <| rM rfl rfl <| rM rfl rfl <| n_buildSliceL (xs := ([w64 (p1x0 - (1 : Int)), w64 (p2x0 + (1 : Int)), p1x0, p2x0, (-1099511627776 : Int), (1099511627776 : Int)]).map I) rfl rfl rfl rfl rfl rfl <| bndE h fun v2 e2 h => t_call0 rfl (Stream_Pick_c e2) (CoL.refl _) (.cons .p0 .nil) rfl rfl <| rA rfl rfl <| rN <| ATodo.ret <| ?_
    obtain rfl := Option.some.inj h
    exact ImpX.here ⟨_, .cons (.tmp _ _ rfl) .nil, _, .cons .p0 .nil, ⟨rfl, rfl⟩⟩
  · refine have h := iteFb hc h; tK <| tSR <| rM rfl rfl <| rM rfl rfl <| rM rfl rfl <| bndE h fun v3 e3 h => t_call0 rfl (Stream_Range_c e3) (CoL.refl _) (.cons .p0 .nil) rfl rfl <| rA rfl rfl <| rN <| ATodo.ret <| ?_
    obtain rfl := Option.some.inj h
    exact ImpX.here ⟨_, .cons (.tmp _ _ rfl) .nil, _, .cons .p0 .nil, ⟨rfl, rfl⟩⟩

set_option maxHeartbeats 4000000 in
theorem Stream_Spot_c [GI : GTab] {b_0 : Bk} {p0x0 : Fleetmake_Stream} {r : Spot × Fleetmake_Stream} (h : Stream_Spot p0x0 = some r) : ACall Tryd.prog 4 [.ptr b_0 0] [(b_0, .cells [.list 1 (p0x0.L.map I), I p0x0.at_])] (T0 ([(b_0, .cells [.list 1 (r.2.L.map I), I r.2.at_])]) (.agg [I r.1.X, I r.1.Y])) := by
  unfold Stream_Spot at h
  refine ACall.lessH ?_
  refine ACall.bodyN Tryd.func4 rfl Tryd.ntmps4 Tryd.results4 rfl rfl ?_
  refine tSR <| n_alloc rfl rfl rfl rfl fun b1 => rN <| tSR <| rM rfl rfl <| bndE h fun v2 e1 h => t_call0 rfl (Stream_Place_c e1) (CoL.refl _) (.cons .p1 .nil) rfl rfl <| n_alloc rfl rfl rfl rfl fun b3 => n_store_ptr rfl rfl rfl rfl .p0 rfl rfl <| rN <| tS <| tSR <| rM rfl rfl <| bndE h fun v4 e2 h => t_call0 rfl (Stream_Flip_c e2) (CoL.refl _) (.cons .p1 .nil) rfl rfl <| rN <| ATodo.cut (fun σ' => ∃ (l5 : List Int) (n6 : Int) (n7 : Int), Stream_Spot_j1 v2 l5 n6 n7 = some r ∧ σ' = ⟨12, [(2, .ptr b1 0), (3, .ptr b3 0)], [(b_0, .cells [.list 1 (l5.map I), I n6]), (b1, .cells [I (0 : Int), I (0 : Int)]), (b3, .cells [I n7, I v2.1.Y])]⟩) ?_ ?_
  · refine ATodo.cond rfl (fun hc => ?_) (fun hc => ?_)
    · exact have h := iteT hc h; tR <| rM rfl rfl <| bndE h fun v8 e3 h => t_call0 rfl (Stream_Odd_c e3) (CoL.refl _) (.cons .p0 .nil) rfl rfl <| rF rfl rfl rfl <| n_store_ptr rfl rfl rfl rfl .p1 rfl rfl <| rN <| ATodo.stop <| ImpX.lq [0, 1, 0] ⟨v8.2.L, v8.2.at_, v8.1, h, rfl⟩ rfl rfl
    · exact have h := iteFb hc h; tK <| ATodo.stop <| ImpX.lq [0, 1, 0] ⟨v4.2.L, v4.2.at_, v2.1.X, h, rfl⟩ rfl rfl
  · rintro σ' ⟨l5, n6, n7, h, rfl⟩
    unfold Stream_Spot_j1 at h
    refine tSR <| ARun.qv (q_load_ptr_all rfl rfl .p2 rfl) rfl <| n_store_ptr rfl rfl rfl rfl .p1 rfl rfl <| rN <| ATodo.ret <| ?_
    obtain rfl := Option.some.inj h
    exact ImpX.here ⟨_, .cons (.all _ _ _ _ _ _ rfl .p1 TUnder.h TInfo.h rfl rfl) .nil, _, .cons .p0 .nil, ⟨rfl, rfl⟩⟩

set_option maxHeartbeats 4000000 in
theorem Stream_Some_c [GI : GTab] {b_0 : Bk} {p0x0 : Fleetmake_Stream} {p1x0 : List Str} {r : Str × Fleetmake_Stream} (h : Stream_Some p0x0 p1x0 = some r) : ACall Tryd.prog 26 [.ptr b_0 0, .list 1 (p1x0.map AV.str)] [(b_0, .cells [.list 1 (p0x0.L.map I), I p0x0.at_])] (T0 ([(b_0, .cells [.list 1 (r.2.L.map I), I r.2.at_])]) (.str r.1)) := by
  unfold Stream_Some at h
  refine ACall.lessH ?_
  refine ACall.bodyN Tryd.func26 rfl Tryd.ntmps26 Tryd.results26 rfl rfl ?_
  refine tSR <| rA rfl rfl <| rN <| tSR <| rM rfl rfl <| rM rfl rfl <| rM rfl rfl <| ARun.qv (t_len rfl) rfl <| bndE h fun v1 e1 h => t_call0 rfl (Stream_Next_c e1) (CoL.refl _) (.cons .p0 .nil) rfl rfl <| bndE h fun v2 e2 h => ARun.qv (t_index rfl rfl rfl e2 rfl rfl) rfl <| ARun.qv (q_load_rptr rfl rfl rfl) rfl <| rA rfl rfl <| rN <| ATodo.ret <| ?_
  obtain rfl := Option.some.inj h
  exact ImpX.here ⟨_, .cons (.tmp _ _ rfl) .nil, _, .cons .p0 .nil, ⟨rfl, rfl⟩⟩

set_option maxHeartbeats 4000000 in
theorem Stream_CellKey_c [GI : GTab] {b_0 : Bk} {p0x0 : Fleetmake_Stream} {r : Str × Fleetmake_Stream} (h : Stream_CellKey p0x0 = some r) : ACall Tryd.prog 6 [.ptr b_0 0] [(b_0, .cells [.list 1 (p0x0.L.map I), I p0x0.at_])] (T0 ([(b_0, .cells [.list 1 (r.2.L.map I), I r.2.at_])]) (.str r.1)) := by
  unfold Stream_CellKey at h
  refine ACall.lessH ?_
  refine ACall.bodyN Tryd.func6 rfl Tryd.ntmps6 Tryd.results6 rfl rfl ?_
  refine tSR <| rA rfl rfl <| rN <| tSR <| rA rfl rfl <| rN <| tS <| tSR <| rM rfl rfl <| bndE h fun v1 e1 h => t_call0 rfl (Stream_Range_c e1) (CoL.refl _) (.cons .p0 .nil) rfl rfl <| rM rfl rfl <| rN <| ATodo.block <| ATodo.loopI (fun x : (List Int) × Int × Str × Int => Stream_CellKey_b1 v1 x.1 x.2.1 x.2.2.1 x.2.2.2) (fun x σ' => σ' = ⟨20, [(0, .ptr b_0 0), (3, .str x.2.2.1), (5, I v1.1), (6, I x.2.2.2)], [(b_0, .cells [.list 1 (x.1.map I), I x.2.1])]⟩) h ?_ ?_
  · exact ImpX.lq [0] rfl rfl rfl
  · intro x z1 σ' J1 hmk h hJ1 hA1
    obtain ⟨l6, n7, q8, n9⟩ := x
    obtain rfl := hmk
    replace h : Stream_CellKey_b1 v1 l6 n7 q8 n9 = some z1 := h
    unfold Stream_CellKey_b1 at h
    refine tSR <| ARun.qv (q_lss rfl rfl) rfl <| rN <| tS <| ATodo.cond_d rfl (fun hc => ?_) (fun hc => ?_)
    · refine have h := iteT hc h; tK <| tS <| ATodo.block <| tR <| rM rfl rfl <| rM rfl rfl <| n_buildSliceL (xs := ([([48] : Str), ([49] : Str), ([50] : Str), ([51] : Str)]).map AV.str) rfl rfl rfl rfl rfl rfl <| bndE h fun v10 e2 h => t_call0 rfl (Stream_Some_c e2) (CoL.refl _) (.cons .p0 .nil) rfl rfl <| bndE h fun q11 e3 h => ARun.qv (q_sadd e3 rfl rfl) rfl <| rA rfl rfl <| rN <| ATodo.blk <| tR <| ARun.qv (q_addw rfl rfl) rfl <| rM rfl rfl <| rN <| ATodo.stop <| ?_
      obtain rfl := Option.some.inj h
      exact hJ1 _ _ rfl <| ImpX.lq [0] rfl rfl rfl
    · refine have h := iteF hc h; ATodo.exit rfl <| have h := outL h hA1; ?_
      unfold Stream_CellKey_k2 at h
      refine tS <| tSR <| rM rfl rfl <| bndE h fun v12 e4 h => t_call0 rfl (Stream_Flip_c e4) (CoL.refl _) (.cons .p0 .nil) rfl rfl <| rN <| ATodo.cut (fun σ' => ∃ (l13 : List Int) (n14 : Int) (q15 : Str), Stream_CellKey_j1 l13 n14 q15 = some r ∧ σ' = ⟨20, [(3, .str q15)], [(b_0, .cells [.list 1 (l13.map I), I n14])]⟩) ?_ ?_
      · refine ATodo.cond rfl (fun hc => ?_) (fun hc => ?_)
        · exact have h := iteT hc h; tR <| rM rfl rfl <| n_buildSliceL (xs := ([([52] : Str), ([48, 49, 32] : Str), ([48, 49, 50, 51, 48, 49, 50, 51, 48, 49, 50, 51, 48, 49, 50, 51] : Str), ([97] : Str)]).map AV.str) rfl rfl rfl rfl rfl rfl <| bndE h fun v16 e5 h => t_call0 rfl (Stream_Some_c e5) (CoL.refl _) (.cons .p0 .nil) rfl rfl <| rA rfl rfl <| rN <| ATodo.stop <| ImpX.lq [0] ⟨v16.2.L, v16.2.at_, v16.1, h, rfl⟩ rfl rfl
        · exact have h := iteFb hc h; tK <| ATodo.stop <| ImpX.lq [0] ⟨v12.2.L, v12.2.at_, q8, h, rfl⟩ rfl rfl
      · rintro σ' ⟨l13, n14, q15, h, rfl⟩
        unfold Stream_CellKey_j1 at h
        refine tSR <| rM rfl rfl <| rA rfl rfl <| rN <| ATodo.ret <| ?_
        obtain rfl := Option.some.inj h
        exact ImpX.here ⟨_, .cons (.tmp _ _ rfl) .nil, _, .cons .p0 .nil, ⟨rfl, rfl⟩⟩

set_option maxHeartbeats 4000000 in
theorem Q_in_c [GI : GTab] {p0x0 : Int} {p1x0 : Int} {p2x0 : Int} {r : Bool} (h : Q_in p0x0 p1x0 p2x0 = r) : Pu Tryd.prog 35 [I p0x0, I p1x0, I p2x0] (.bool r) := by
  unfold Q_in at h
  refine ACall.bodyN Tryd.func35 rfl Tryd.ntmps35 Tryd.results35 rfl rfl ?_
  refine tSR <| rA rfl rfl <| rN <| tS <| ATodo.cut (fun σ' => ∃ (c1 : Bool), Q_in_j1 c1 = r ∧ σ' = ⟨15, [(6, .bool c1)], []⟩) ?_ ?_
  · refine tR <| rM rfl rfl <| rM rfl rfl <| ARun.qv (q_leq rfl rfl) rfl <| rM rfl rfl <| ARun.guard_dt rfl rfl rfl (fun hc => ?_) (fun hc => ?_)
    · rw [andTd hc] at h
      exact rM rfl rfl <| rY rfl rfl rfl <| rM rfl rfl <| rY rfl rfl rfl <| ARun.qv (q_leq rfl rfl) rfl <| rT rfl rfl rfl <| rA rfl rfl <| rN <| ATodo.stop <| ImpX.lq [] ⟨decide (p0x0 ≤ p2x0), h, rfl⟩ rfl rfl
    · rw [andFd hc] at h
      exact rG rfl rfl rfl rfl <| rG rfl rfl rfl rfl <| rE rfl rfl rfl <| rA rfl rfl <| rN <| ATodo.stop <| ImpX.lq [] ⟨false, h, rfl⟩ rfl rfl
  · rintro σ' ⟨c1, h, rfl⟩
    unfold Q_in_j1 at h
    refine ATodo.ret <| ?_
    obtain rfl := h
    exact ImpX.here ⟨_, .cons (.tmp _ _ rfl) .nil, rfl⟩

set_option maxHeartbeats 4000000 in
theorem Q_SpotFault_c [GI : GTab] {p0x0 : Spot} {r : Int} (h : Q_SpotFault p0x0 = r) : Pu Tryd.prog 14 [.agg [I p0x0.X, I p0x0.Y]] (I r) := by
  unfold Q_SpotFault at h
  refine ACall.bodyN Tryd.func14 rfl Tryd.ntmps14 Tryd.results14 rfl rfl ?_
  refine tSR <| n_box rfl rfl rfl rfl fun b1 => rA rfl rfl <| rN <| tS <| tS <| ATodo.cut (fun σ' => ∃ (c2 : Bool), Q_SpotFault_j1 c2 = r ∧ σ' = ⟨13, [(12, .bool c2)], []⟩) ?_ ?_
  · refine tR <| rF rfl rfl rfl <| rL rfl rfl .p0 rfl rfl <| r_callp rfl (Q_in_c rfl) (CoL.refl _) rfl <| ARun.qv (q_not rfl) rfl <| rM rfl rfl <| ARun.guard rfl rfl rfl (fun hc => ?_) (fun hc => ?_)
    · rw [orFb hc] at h
      exact rF rfl rfl rfl <| rY rfl rfl rfl <| rL rfl rfl .p0 rfl rfl <| rY rfl rfl rfl <| r_callp rfl (Q_in_c rfl) (CoL.refl _) rfl <| rY rfl rfl rfl <| ARun.qv (q_not rfl) rfl <| rE rfl rfl rfl <| rN <| ATodo.stop <| ImpX.lq [] ⟨!(Q_in p0x0.Y (-10000 : Int) (10000 : Int)), h, rfl⟩ rfl rfl
    · rw [orTb hc] at h
      exact rG rfl rfl rfl rfl <| rG rfl rfl rfl rfl <| rG rfl rfl rfl rfl <| rT rfl rfl rfl <| rN <| ATodo.stop <| ImpX.lq [] ⟨true, h, rfl⟩ rfl rfl
  · rintro σ' ⟨c2, h, rfl⟩
    unfold Q_SpotFault_j1 at h
    refine ATodo.cond rfl (fun hc => ?_) (fun hc => ?_)
    · refine have h := iteT hc h; tSR <| rA rfl rfl <| rN <| ATodo.ret <| ?_
      obtain rfl := h
      exact ImpX.here ⟨_, .cons (.tmp _ _ rfl) .nil, rfl⟩
    · refine have h := iteFb hc h; tK <| tSR <| rA rfl rfl <| rN <| ATodo.ret <| ?_
      obtain rfl := h
      exact ImpX.here ⟨_, .cons (.tmp _ _ rfl) .nil, rfl⟩

set_option maxHeartbeats 4000000 in
theorem slices_Index_Spot_Spot_c [GI : GTab] {p0x0 : List Spot} {p1x0 : Spot} {r : Int} (h : slices_Index_Spot_Spot p0x0 p1x0 = some r) : Pu Tryd.prog 63 [.list 2 (p0x0.map Spot.av), .agg [I p1x0.X, I p1x0.Y]] (I r) := by
  unfold slices_Index_Spot_Spot at h
  refine ACall.bodyN Tryd.func63 rfl Tryd.ntmps63 Tryd.results63 rfl rfl ?_
  refine tSR <| n_box rfl rfl rfl rfl fun b1 => rA rfl rfl <| rN <| tS <| tSR <| rM rfl rfl <| ARun.qv (t_len rfl) rfl <| rM rfl rfl <| rN <| ATodo.block <| ATodo.loopI (fun x : Int => slices_Index_Spot_Spot_b1 p0x0 p1x0 x) (fun x σ' => σ' = ⟨19, [(0, .list 2 (p0x0.map Spot.av)), (3, .ptr b1 0), (7, I (p0x0.length : Int)), (8, I x)], [(b1, .cells [I p1x0.X, I p1x0.Y])]⟩) h ?_ ?_
  · exact ImpX.lq [0] rfl rfl rfl
  · intro n3 z1 σ' J1 hmk h hJ1 hA1
    obtain rfl := hmk
    replace h : slices_Index_Spot_Spot_b1 p0x0 p1x0 n3 = some z1 := h
    unfold slices_Index_Spot_Spot_b1 at h
    refine tSR <| ARun.qv (q_lss rfl rfl) rfl <| rN <| tS <| ATodo.cond_d rfl (fun hc => ?_) (fun hc => ?_)
    · refine have h := iteT hc h; tK <| tS <| ATodo.block <| tSR <| rM rfl rfl <| rA rfl rfl <| rN <| tS <| ATodo.regionM (id := 4) (A := [0, 0, 0, 6, 14, 31]) 6 mixed rfl (by kernel_rfl) (by kernel_rfl) <| AM.qv (q_load_ptr_all rfl rfl .p0 rfl) rfl <| AM.qv (q_move rfl) rfl <| AM.qv (q_move rfl) rfl <| bndE h fun v4 e1 h => AM.qv (t_index rfl rfl rfl e1 rfl rfl) rfl <| AM.qv (q_load_rptr_agg rfl rfl rfl) rfl <| AM.qv (t_teq (g := Spot.av) (X := p1x0) (Y := v4) rfl rfl rfl rfl rfl) rfl <| AM.nil <| rN <| ATodo.cond_d rfl (fun hc => ?_) (fun hc => ?_)
      · refine have h := iteT hc h; tSR <| rM rfl rfl <| rA rfl rfl <| rN <| ATodo.ret <| have h := outL h hA1; ?_
        obtain rfl := Option.some.inj h
        exact ImpX.here ⟨_, .cons (.tmp _ _ rfl) .nil, rfl⟩
      · refine have h := iteF hc h; tK <| ATodo.blk <| tR <| ARun.qv (q_addw rfl rfl) rfl <| rM rfl rfl <| rN <| ATodo.stop <| ?_
        obtain rfl := Option.some.inj h
        exact hJ1 _ _ rfl <| ImpX.lq [0] rfl rfl rfl
    · refine have h := iteF hc h; ATodo.exit rfl <| have h := outL h hA1; tSR <| rA rfl rfl <| rN <| ATodo.ret <| ?_
      obtain rfl := Option.some.inj h
      exact ImpX.here ⟨_, .cons (.tmp _ _ rfl) .nil, rfl⟩

set_option maxHeartbeats 4000000 in
theorem slices_Contains_Spot_Spot_c [GI : GTab] {p0x0 : List Spot} {p1x0 : Spot} {r : Bool} (h : slices_Contains_Spot_Spot p0x0 p1x0 = some r) : Pu Tryd.prog 50 [.list 2 (p0x0.map Spot.av), .agg [I p1x0.X, I p1x0.Y]] (.bool r) := by
  unfold slices_Contains_Spot_Spot at h
  refine ACall.bodyN Tryd.func50 rfl Tryd.ntmps50 Tryd.results50 rfl rfl ?_
  refine tSR <| n_box rfl rfl rfl rfl fun b1 => rA rfl rfl <| rN <| tSR <| rM rfl rfl <| ARun.qv (q_load_ptr_all rfl rfl .p0 rfl) rfl <| bndE h fun v2 e1 h => r_callp rfl (slices_Index_Spot_Spot_c e1) (CoL.refl _) rfl <| ARun.qv (q_geq rfl rfl) rfl <| rA rfl rfl <| rN <| ATodo.ret <| ?_
  obtain rfl := Option.some.inj h
  exact ImpX.here ⟨_, .cons (.tmp _ _ rfl) .nil, rfl⟩

set_option maxHeartbeats 4000000 in
theorem Q_edge_c [GI : GTab] {p0x0 : List Spot} {p1x0 : Int} {r : Spot × Spot} (h : Q_edge p0x0 p1x0 = some r) : Pu Tryd.prog 54 [.list 2 (p0x0.map Spot.av), I p1x0] (.tup [.agg [I r.1.X, I r.1.Y], .agg [I r.2.X, I r.2.Y]]) := by
  unfold Q_edge at h
  refine ACall.bodyN Tryd.func54 rfl Tryd.ntmps54 Tryd.results54 rfl rfl ?_
  refine tSR <| n_alloc rfl rfl rfl rfl fun b1 => n_alloc rfl rfl rfl rfl fun b2 => rN <| tS <| bndE h fun v3 e1 h => bndE h fun n4 e2 h => bndE h fun v5 e3 h => ATodo.regionT (id := 1) (A := [0, 0, 3, 7, 0, 0, 32, 0, 128, 480, 1008, 2032, 15, 8191]) (H0 := [(b1, .cells [I (0 : Int), I (0 : Int)])]) (HH := fun β => [(b1, .cells [I v3.X, I v3.Y]), (b2, .cells [I (0 : Int), I (0 : Int)])]) 13 mixed rfl (by kernel_rfl) (by kernel_rfl) [⟨none, some 12, [], fun _ => (b1, .cells [I (0 : Int), I (0 : Int)]), none⟩, ⟨some 12, none, [], fun _ => (b1, .cells [I v3.X, I v3.Y]), none⟩] [] rfl (by kernel_rfl) rfl (.cons .p1 .nil) (fun _ => rfl) <| AT.am 12 rfl rfl <| AM.qv (q_move rfl) rfl <| AM.qv (q_move rfl) rfl <| AM.qv (t_index rfl rfl rfl e1 rfl rfl) rfl <| AM.qv (q_load_rptr_agg rfl rfl rfl) rfl <| AM.qv (q_move rfl) rfl <| AM.qv (q_move rfl) rfl <| AM.qv (q_addw rfl rfl) rfl <| AM.qv (q_move rfl) rfl <| AM.qv (t_len rfl) rfl <| AM.qv (t_remS rfl rfl e2) rfl <| AM.qv (t_index rfl rfl rfl e3 rfl rfl) rfl <| AM.qv (q_load_rptr_agg rfl rfl rfl) rfl <| AM.nil <| AT.run0 (Ti := [(b1, .cells [I (0 : Int), I (0 : Int)])]) (Pi := [(b1, .cells [I v3.X, I v3.Y])]) (fun _ => rfl) (fun _ => rfl) (fun _ => rfl) rfl rfl ?_ ?_
  · exact n_store_ptr rfl rfl rfl rfl .p0 rfl rfl <| ARun.nil ⟨_, rfl⟩
  refine AT.nilN (fun _ => rfl) fun β => n_store_ptr rfl rfl rfl rfl .p1 rfl rfl <| rN <| ATodo.ret <| ?_
  obtain rfl := Option.some.inj h
  exact ImpX.here ⟨_, .cons (.all _ _ _ _ _ _ rfl .p0 TUnder.h TInfo.h rfl rfl) (.cons (.all _ _ _ _ _ _ rfl .p1 TUnder.h TInfo.h rfl rfl) .nil), rfl⟩

set_option maxHeartbeats 4000000 in
theorem Q_minus_c [GI : GTab] {p0x0 : Spot} {p1x0 : Spot} {r : Spot} (h : Q_minus p0x0 p1x0 = r) : Pu Tryd.prog 73 [.agg [I p0x0.X, I p0x0.Y], .agg [I p1x0.X, I p1x0.Y]] (.agg [I r.X, I r.Y]) := by
  unfold Q_minus at h
  refine ACall.bodyN Tryd.func73 rfl Tryd.ntmps73 Tryd.results73 rfl rfl ?_
  refine tSR <| n_box rfl rfl rfl rfl fun b1 => n_box rfl rfl rfl rfl fun b2 => n_alloc rfl rfl rfl rfl fun b3 => rN <| tSR <| rF rfl rfl rfl <| rL rfl rfl .p2 rfl rfl <| rF rfl rfl rfl <| rL rfl rfl .p1 rfl rfl <| ARun.qv (q_subw rfl rfl) rfl <| rF rfl rfl rfl <| rL rfl rfl .p2 rfl rfl <| rF rfl rfl rfl <| rL rfl rfl .p1 rfl rfl <| ARun.qv (q_subw rfl rfl) rfl <| ARun.qv (n_build rfl rfl rfl rfl rfl) rfl <| n_store_ptr rfl rfl rfl rfl .p0 rfl rfl <| rN <| ATodo.ret <| ?_
  obtain rfl := h
  exact ImpX.here ⟨_, .cons (.all _ _ _ _ _ _ rfl .p0 TUnder.h TInfo.h rfl rfl) .nil, rfl⟩

set_option maxHeartbeats 4000000 in
theorem Q_cross_c [GI : GTab] {p0x0 : Spot} {p1x0 : Spot} {r : Int} (h : Q_cross p0x0 p1x0 = r) : Pu Tryd.prog 84 [.agg [I p0x0.X, I p0x0.Y], .agg [I p1x0.X, I p1x0.Y]] (I r) := by
  unfold Q_cross at h
  refine ACall.bodyN Tryd.func84 rfl Tryd.ntmps84 Tryd.results84 rfl rfl ?_
  refine tSR <| n_box rfl rfl rfl rfl fun b1 => n_box rfl rfl rfl rfl fun b2 => rA rfl rfl <| rN <| tSR <| rF rfl rfl rfl <| rL rfl rfl .p1 rfl rfl <| rF rfl rfl rfl <| rL rfl rfl .p0 rfl rfl <| ARun.qv (q_mulw rfl rfl) rfl <| rF rfl rfl rfl <| rL rfl rfl .p1 rfl rfl <| rF rfl rfl rfl <| rL rfl rfl .p0 rfl rfl <| ARun.qv (q_mulw rfl rfl) rfl <| ARun.qv (q_subw rfl rfl) rfl <| rA rfl rfl <| rN <| ATodo.ret <| ?_
  obtain rfl := h
  exact ImpX.here ⟨_, .cons (.tmp _ _ rfl) .nil, rfl⟩

set_option maxHeartbeats 4000000 in
theorem Q_sign_c [GI : GTab] {p0x0 : Int} {r : Int} (h : Q_sign p0x0 = r) : Pu Tryd.prog 83 [I p0x0] (I r) := by
  unfold Q_sign at h
  refine ACall.bodyN Tryd.func83 rfl Tryd.ntmps83 Tryd.results83 rfl rfl ?_
  refine tSR <| rA rfl rfl <| rN <| tS <| ATodo.block <| tSR <| rM rfl rfl <| ARun.qv (q_lss rfl rfl) rfl <| rA rfl rfl <| rN <| ATodo.cond_d rfl (fun hc => ?_) (fun hc => ?_)
  · refine have h := iteT hc h; tSR <| rA rfl rfl <| rN <| ATodo.ret <| ?_
    obtain rfl := h
    exact ImpX.here ⟨_, .cons (.tmp _ _ rfl) .nil, rfl⟩
  · refine have h := iteF hc h; tSR <| rM rfl rfl <| ARun.qv (q_gtr rfl rfl) rfl <| rA rfl rfl <| rN <| ATodo.cond_d rfl (fun hc => ?_) (fun hc => ?_)
    · refine have h := iteT hc h; tSR <| rA rfl rfl <| rN <| ATodo.ret <| ?_
      obtain rfl := h
      exact ImpX.here ⟨_, .cons (.tmp _ _ rfl) .nil, rfl⟩
    · refine have h := iteF hc h; tK <| ATodo.blk <| tSR <| rA rfl rfl <| rN <| ATodo.ret <| ?_
      obtain rfl := h
      exact ImpX.here ⟨_, .cons (.tmp _ _ rfl) .nil, rfl⟩

set_option maxHeartbeats 4000000 in
theorem Q_side_c [GI : GTab] {p0x0 : Spot} {p1x0 : Spot} {p2x0 : Spot} {r : Int} (h : Q_side p0x0 p1x0 p2x0 = r) : Pu Tryd.prog 71 [.agg [I p0x0.X, I p0x0.Y], .agg [I p1x0.X, I p1x0.Y], .agg [I p2x0.X, I p2x0.Y]] (I r) := by
  unfold Q_side at h
  refine ACall.bodyN Tryd.func71 rfl Tryd.ntmps71 Tryd.results71 rfl rfl ?_
  refine tSR <| n_box rfl rfl rfl rfl fun b1 => n_box rfl rfl rfl rfl fun b2 => n_box rfl rfl rfl rfl fun b3 => rA rfl rfl <| rN <| tS <| ATodo.regionM (id := 1) (A := [0, 0, 3, 0, 0, 31, 63, 127, 255]) 9 mixed rfl (by kernel_rfl) (by kernel_rfl) <| AM.qv (q_load_ptr_all rfl rfl .p1 rfl) rfl <| AM.qv (q_load_ptr_all rfl rfl .p2 rfl) rfl <| AM.callp rfl (Q_minus_c rfl) (CoL.refl _) rfl <| AM.qv (q_load_ptr_all rfl rfl .p0 rfl) rfl <| AM.qv (q_load_ptr_all rfl rfl .p2 rfl) rfl <| AM.callp rfl (Q_minus_c rfl) (CoL.refl _) rfl <| AM.callp rfl (Q_cross_c rfl) (CoL.refl _) rfl <| AM.callp rfl (Q_sign_c rfl) (CoL.refl _) rfl <| AM.qv (q_assign rfl) rfl <| AM.nil <| rN <| ATodo.ret <| ?_
  obtain rfl := h
  exact ImpX.here ⟨_, .cons (.tmp _ _ rfl) .nil, rfl⟩

set_option maxHeartbeats 4000000 in
theorem Q_dot_c [GI : GTab] {p0x0 : Spot} {p1x0 : Spot} {r : Int} (h : Q_dot p0x0 p1x0 = r) : Pu Tryd.prog 72 [.agg [I p0x0.X, I p0x0.Y], .agg [I p1x0.X, I p1x0.Y]] (I r) := by
  unfold Q_dot at h
  refine ACall.bodyN Tryd.func72 rfl Tryd.ntmps72 Tryd.results72 rfl rfl ?_
  refine tSR <| n_box rfl rfl rfl rfl fun b1 => n_box rfl rfl rfl rfl fun b2 => rA rfl rfl <| rN <| tSR <| rF rfl rfl rfl <| rL rfl rfl .p1 rfl rfl <| rF rfl rfl rfl <| rL rfl rfl .p0 rfl rfl <| ARun.qv (q_mulw rfl rfl) rfl <| rF rfl rfl rfl <| rL rfl rfl .p1 rfl rfl <| rF rfl rfl rfl <| rL rfl rfl .p0 rfl rfl <| ARun.qv (q_mulw rfl rfl) rfl <| ARun.qv (q_addw rfl rfl) rfl <| rA rfl rfl <| rN <| ATodo.ret <| ?_
  obtain rfl := h
  exact ImpX.here ⟨_, .cons (.tmp _ _ rfl) .nil, rfl⟩

set_option maxHeartbeats 4000000 in
theorem Q_onWay_c [GI : GTab] {p0x0 : Spot} {p1x0 : Spot} {p2x0 : Spot} {r : Bool} (h : Q_onWay p0x0 p1x0 p2x0 = r) : Pu Tryd.prog 55 [.agg [I p0x0.X, I p0x0.Y], .agg [I p1x0.X, I p1x0.Y], .agg [I p2x0.X, I p2x0.Y]] (.bool r) := by
  unfold Q_onWay at h
  refine ACall.bodyN Tryd.func55 rfl Tryd.ntmps55 Tryd.results55 rfl rfl ?_
  refine tSR <| n_box rfl rfl rfl rfl fun b1 => n_box rfl rfl rfl rfl fun b2 => n_box rfl rfl rfl rfl fun b3 => rA rfl rfl <| rN <| tS <| ATodo.cut (fun σ' => ∃ (c4 : Bool), Q_onWay_j1 c4 = r ∧ σ' = ⟨22, [(6, .bool c4)], []⟩) ?_ ?_
  · refine ATodo.regionM (id := 1) (A := [0, 0, 0, 7, 15, 31, 63, 63, 255, 63, 63, 2047, 4095, 8191, 16383, 32767]) 16 mixed rfl (by kernel_rfl) (by kernel_rfl) <| AM.qv (q_load_ptr_all rfl rfl .p2 rfl) rfl <| AM.qv (q_load_ptr_all rfl rfl .p1 rfl) rfl <| AM.qv (q_load_ptr_all rfl rfl .p0 rfl) rfl <| AM.callp rfl (Q_side_c rfl) (CoL.refl _) rfl <| AM.qv (q_eql rfl rfl) rfl <| AM.qv (q_move rfl) rfl <| AM.guard_dt rfl rfl rfl (fun hc => ?_) (fun hc => ?_)
    · rw [andTd hc] at h
      exact AM.qv (q_load_ptr_all rfl rfl .p2 rfl) rfl <| AM.guard_yes rfl rfl rfl <| AM.qv (q_load_ptr_all rfl rfl .p0 rfl) rfl <| AM.guard_yes rfl rfl rfl <| AM.callp rfl (Q_minus_c rfl) (CoL.refl _) rfl <| AM.guard_yes rfl rfl rfl <| AM.qv (q_load_ptr_all rfl rfl .p1 rfl) rfl <| AM.guard_yes rfl rfl rfl <| AM.qv (q_load_ptr_all rfl rfl .p0 rfl) rfl <| AM.guard_yes rfl rfl rfl <| AM.callp rfl (Q_minus_c rfl) (CoL.refl _) rfl <| AM.guard_yes rfl rfl rfl <| AM.callp rfl (Q_dot_c rfl) (CoL.refl _) rfl <| AM.guard_yes rfl rfl rfl <| AM.qv (q_leq rfl rfl) rfl <| AM.qv (q_pick_t rfl rfl) rfl <| AM.qv (q_assign rfl) rfl <| AM.nil <| rN <| ATodo.stop <| ImpX.lq [] ⟨decide ((Q_dot (Q_minus p0x0 p2x0) (Q_minus p1x0 p2x0)) ≤ (0 : Int)), h, rfl⟩ rfl rfl
    · rw [andFd hc] at h
      exact AM.guard_no rfl rfl rfl rfl <| AM.guard_no rfl rfl rfl rfl <| AM.guard_no rfl rfl rfl rfl <| AM.guard_no rfl rfl rfl rfl <| AM.guard_no rfl rfl rfl rfl <| AM.guard_no rfl rfl rfl rfl <| AM.guard_no rfl rfl rfl rfl <| AM.qv (q_pick_f rfl rfl) rfl <| AM.qv (q_assign rfl) rfl <| AM.nil <| rN <| ATodo.stop <| ImpX.lq [] ⟨false, h, rfl⟩ rfl rfl
  · rintro σ' ⟨c4, h, rfl⟩
    unfold Q_onWay_j1 at h
    refine ATodo.ret <| ?_
    obtain rfl := h
    exact ImpX.here ⟨_, .cons (.tmp _ _ rfl) .nil, rfl⟩

set_option maxHeartbeats 4000000 in
theorem Q_touches_c [GI : GTab] {p0x0 : Spot} {p1x0 : Spot} {p2x0 : Spot} {p3x0 : Spot} {r : Bool} (h : Q_touches p0x0 p1x0 p2x0 p3x0 = r) : Pu Tryd.prog 56 [.agg [I p0x0.X, I p0x0.Y], .agg [I p1x0.X, I p1x0.Y], .agg [I p2x0.X, I p2x0.Y], .agg [I p3x0.X, I p3x0.Y]] (.bool r) := by
  unfold Q_touches at h
  refine ACall.bodyN Tryd.func56 rfl Tryd.ntmps56 Tryd.results56 rfl rfl ?_
  refine tSR <| n_box rfl rfl rfl rfl fun b1 => n_box rfl rfl rfl rfl fun b2 => n_box rfl rfl rfl rfl fun b3 => n_box rfl rfl rfl rfl fun b4 => rA rfl rfl <| rN <| tS <| tS <| ATodo.cut (fun σ' => ∃ (c5 : Bool), Q_touches_j1 p0x0 p1x0 p2x0 p3x0 c5 = r ∧ σ' = ⟨53, [(4, .ptr b1 0), (5, .ptr b2 0), (6, .ptr b3 0), (7, .ptr b4 0), (30, .bool c5)], [(b1, .cells [I p0x0.X, I p0x0.Y]), (b2, .cells [I p1x0.X, I p1x0.Y]), (b3, .cells [I p2x0.X, I p2x0.Y]), (b4, .cells [I p3x0.X, I p3x0.Y])]⟩) ?_ ?_
  · refine tR <| ARun.qv (q_load_ptr_all rfl rfl .p3 rfl) rfl <| ARun.qv (q_load_ptr_all rfl rfl .p2 rfl) rfl <| ARun.qv (q_load_ptr_all rfl rfl .p1 rfl) rfl <| r_callp rfl (Q_onWay_c rfl) (CoL.refl _) rfl <| rM rfl rfl <| ARun.guard rfl rfl rfl (fun hc => ?_) (fun hc => ?_)
    · rw [orFb hc] at h
      refine ARun.qv (q_load_ptr_all rfl rfl .p3 rfl) rfl <| rY rfl rfl rfl <| ARun.qv (q_load_ptr_all rfl rfl .p2 rfl) rfl <| rY rfl rfl rfl <| ARun.qv (q_load_ptr_all rfl rfl .p0 rfl) rfl <| rY rfl rfl rfl <| r_callp rfl (Q_onWay_c rfl) (CoL.refl _) rfl <| rE rfl rfl rfl <| rM rfl rfl <| ARun.guard rfl rfl rfl (fun hc => ?_) (fun hc => ?_)
      · rw [orFb hc] at h
        refine ARun.qv (q_load_ptr_all rfl rfl .p1 rfl) rfl <| rY rfl rfl rfl <| ARun.qv (q_load_ptr_all rfl rfl .p0 rfl) rfl <| rY rfl rfl rfl <| ARun.qv (q_load_ptr_all rfl rfl .p3 rfl) rfl <| rY rfl rfl rfl <| r_callp rfl (Q_onWay_c rfl) (CoL.refl _) rfl <| rE rfl rfl rfl <| rM rfl rfl <| ARun.guard rfl rfl rfl (fun hc => ?_) (fun hc => ?_)
        · rw [orFb hc] at h
          exact ARun.qv (q_load_ptr_all rfl rfl .p1 rfl) rfl <| rY rfl rfl rfl <| ARun.qv (q_load_ptr_all rfl rfl .p0 rfl) rfl <| rY rfl rfl rfl <| ARun.qv (q_load_ptr_all rfl rfl .p2 rfl) rfl <| rY rfl rfl rfl <| r_callp rfl (Q_onWay_c rfl) (CoL.refl _) rfl <| rE rfl rfl rfl <| rN <| ATodo.stop <| ImpX.lq [3, 2, 1, 0] ⟨(Q_onWay p2x0 p3x0 p1x0), h, rfl⟩ rfl rfl
        · rw [orTb hc] at h
          exact rG rfl rfl rfl rfl <| rG rfl rfl rfl rfl <| rG rfl rfl rfl rfl <| rT rfl rfl rfl <| rN <| ATodo.stop <| ImpX.lq [3, 2, 1, 0] ⟨true, h, rfl⟩ rfl rfl
      · rw [orTb hc] at h
        exact rG rfl rfl rfl rfl <| rG rfl rfl rfl rfl <| rG rfl rfl rfl rfl <| rT rfl rfl rfl <| rM rfl rfl <| rG rfl rfl rfl rfl <| rG rfl rfl rfl rfl <| rG rfl rfl rfl rfl <| rG rfl rfl rfl rfl <| rT rfl rfl rfl <| rN <| ATodo.stop <| ImpX.lq [3, 2, 1, 0] ⟨true, h, rfl⟩ rfl rfl
    · rw [orTb hc] at h
      exact rG rfl rfl rfl rfl <| rG rfl rfl rfl rfl <| rG rfl rfl rfl rfl <| rT rfl rfl rfl <| rM rfl rfl <| rG rfl rfl rfl rfl <| rG rfl rfl rfl rfl <| rG rfl rfl rfl rfl <| rG rfl rfl rfl rfl <| rT rfl rfl rfl <| rM rfl rfl <| rG rfl rfl rfl rfl <| rG rfl rfl rfl rfl <| rG rfl rfl rfl rfl <| rG rfl rfl rfl rfl <| rT rfl rfl rfl <| rN <| ATodo.stop <| ImpX.lq [3, 2, 1, 0] ⟨true, h, rfl⟩ rfl rfl
  · rintro σ' ⟨c5, h, rfl⟩
    unfold Q_touches_j1 at h
    refine ATodo.cond rfl (fun hc => ?_) (fun hc => ?_)
    · refine have h := iteT hc h; tSR <| rA rfl rfl <| rN <| ATodo.ret <| ?_
      obtain rfl := h
      exact ImpX.here ⟨_, .cons (.tmp _ _ rfl) .nil, rfl⟩
    · refine have h := iteFb hc h; tK <| tS <| ATodo.cut (fun σ' => ∃ (c6 : Bool), Q_touches_j2 c6 = r ∧ σ' = ⟨53, [(8, .bool c6)], []⟩) ?_ ?_
      · refine ATodo.regionM (id := 3) (A := [0, 0, 0, 7, 0, 0, 0, 127, 255, 511, 1023, 2047, 2047, 2047, 16383, 2047, 2047, 2047, 262143, 524287, 1048575, 2097151, 4194303]) 23 mixed rfl (by kernel_rfl) (by kernel_rfl) <| AM.qv (q_load_ptr_all rfl rfl .p0 rfl) rfl <| AM.qv (q_load_ptr_all rfl rfl .p1 rfl) rfl <| AM.qv (q_load_ptr_all rfl rfl .p2 rfl) rfl <| AM.callp rfl (Q_side_c rfl) (CoL.refl _) rfl <| AM.qv (q_load_ptr_all rfl rfl .p0 rfl) rfl <| AM.qv (q_load_ptr_all rfl rfl .p1 rfl) rfl <| AM.qv (q_load_ptr_all rfl rfl .p3 rfl) rfl <| AM.callp rfl (Q_side_c rfl) (CoL.refl _) rfl <| AM.qv (q_mulw rfl rfl) rfl <| AM.qv (q_lss rfl rfl) rfl <| AM.qv (q_move rfl) rfl <| AM.guard_dt rfl rfl rfl (fun hc => ?_) (fun hc => ?_)
        · rw [andTd hc] at h
          exact AM.qv (q_load_ptr_all rfl rfl .p2 rfl) rfl <| AM.guard_yes rfl rfl rfl <| AM.qv (q_load_ptr_all rfl rfl .p3 rfl) rfl <| AM.guard_yes rfl rfl rfl <| AM.qv (q_load_ptr_all rfl rfl .p0 rfl) rfl <| AM.guard_yes rfl rfl rfl <| AM.callp rfl (Q_side_c rfl) (CoL.refl _) rfl <| AM.guard_yes rfl rfl rfl <| AM.qv (q_load_ptr_all rfl rfl .p2 rfl) rfl <| AM.guard_yes rfl rfl rfl <| AM.qv (q_load_ptr_all rfl rfl .p3 rfl) rfl <| AM.guard_yes rfl rfl rfl <| AM.qv (q_load_ptr_all rfl rfl .p1 rfl) rfl <| AM.guard_yes rfl rfl rfl <| AM.callp rfl (Q_side_c rfl) (CoL.refl _) rfl <| AM.guard_yes rfl rfl rfl <| AM.qv (q_mulw rfl rfl) rfl <| AM.guard_yes rfl rfl rfl <| AM.qv (q_lss rfl rfl) rfl <| AM.qv (q_pick_t rfl rfl) rfl <| AM.qv (q_assign rfl) rfl <| AM.nil <| rN <| ATodo.stop <| ImpX.lq [] ⟨decide ((w64 ((Q_side p2x0 p3x0 p0x0) * (Q_side p2x0 p3x0 p1x0))) < (0 : Int)), h, rfl⟩ rfl rfl
        · rw [andFd hc] at h
          exact AM.guard_no rfl rfl rfl rfl <| AM.guard_no rfl rfl rfl rfl <| AM.guard_no rfl rfl rfl rfl <| AM.guard_no rfl rfl rfl rfl <| AM.guard_no rfl rfl rfl rfl <| AM.guard_no rfl rfl rfl rfl <| AM.guard_no rfl rfl rfl rfl <| AM.guard_no rfl rfl rfl rfl <| AM.guard_no rfl rfl rfl rfl <| AM.qv (q_pick_f rfl rfl) rfl <| AM.qv (q_assign rfl) rfl <| AM.nil <| rN <| ATodo.stop <| ImpX.lq [] ⟨false, h, rfl⟩ rfl rfl
      · rintro σ' ⟨c6, h, rfl⟩
        unfold Q_touches_j2 at h
        refine ATodo.ret <| ?_
        obtain rfl := h
        exact ImpX.here ⟨_, .cons (.tmp _ _ rfl) .nil, rfl⟩

set_option maxHeartbeats 4000000 in
theorem Q_CornersFault_c [GI : GTab] {p0x0 : List Spot} {r : Int} (h : Q_CornersFault p0x0 = some r) : Pu Tryd.prog 38 [.list 2 (p0x0.map Spot.av)] (I r) := by
  unfold Q_CornersFault at h
  refine ACall.bodyN Tryd.func38 rfl Tryd.ntmps38 Tryd.results38 rfl rfl ?_
  refine tSR <| rA rfl rfl <| rN <| tS <| ATodo.block <| tSR <| rM rfl rfl <| ARun.qv (t_len rfl) rfl <| ARun.qv (q_lss rfl rfl) rfl <| rA rfl rfl <| rN <| ATodo.cond_d rfl (fun hc => ?_) (fun hc => ?_)
  · refine have h := iteT hc h; tSR <| rA rfl rfl <| rN <| ATodo.ret <| ?_
    obtain rfl := Option.some.inj h
    exact ImpX.here ⟨_, .cons (.tmp _ _ rfl) .nil, rfl⟩
  · refine have h := iteF hc h; tSR <| rM rfl rfl <| ARun.qv (t_len rfl) rfl <| ARun.qv (q_gtr rfl rfl) rfl <| rA rfl rfl <| rN <| ATodo.cond_d rfl (fun hc => ?_) (fun hc => ?_)
    · refine have h := iteT hc h; tSR <| rA rfl rfl <| rN <| ATodo.ret <| ?_
      obtain rfl := Option.some.inj h
      exact ImpX.here ⟨_, .cons (.tmp _ _ rfl) .nil, rfl⟩
    · refine have h := iteF hc h; tK <| ATodo.blk <| tS <| tSR <| rM rfl rfl <| ARun.qv (t_len rfl) rfl <| rM rfl rfl <| rN <| ATodo.block <| ATodo.loopI (fun x : Int => Q_CornersFault_b1 p0x0 x) (fun x σ' => σ' = ⟨90, [(0, .list 2 (p0x0.map Spot.av)), (20, .list 2 (p0x0.map Spot.av)), (21, I (p0x0.length : Int)), (22, I x)], []⟩) h ?_ ?_
      · exact ImpX.lq [] rfl rfl rfl
      · intro n2 z1 σ' J1 hmk h hJ1 hA1
        obtain rfl := hmk
        replace h : Q_CornersFault_b1 p0x0 n2 = some z1 := h
        unfold Q_CornersFault_b1 at h
        refine tSR <| ARun.qv (q_lss rfl rfl) rfl <| rN <| tS <| ATodo.cond_d rfl (fun hc => ?_) (fun hc => ?_)
        · refine have h := iteT hc h; tK <| tS <| ATodo.block <| tSR <| rM rfl rfl <| bndE h fun v3 e1 h => ARun.qv (t_index rfl rfl rfl e1 rfl rfl) rfl <| ARun.qv (q_load_rptr_agg rfl rfl rfl) rfl <| n_alloc rfl rfl rfl rfl fun b4 => rA rfl rfl <| n_store_ptr rfl rfl rfl rfl .p0 rfl rfl <| rN <| tS <| tSR <| ARun.qv (q_load_ptr_all rfl rfl .p0 rfl) rfl <| r_callp rfl (Q_SpotFault_c rfl) (CoL.refl _) rfl <| rA rfl rfl <| rN <| tSR <| rM rfl rfl <| ARun.qv (q_neq rfl rfl) rfl <| rN <| ATodo.cond_d rfl (fun hc => ?_) (fun hc => ?_)
          · refine have h := iteT hc h; tSR <| rM rfl rfl <| rA rfl rfl <| rN <| ATodo.ret <| have h := outL h hA1; ?_
            obtain rfl := Option.some.inj h
            exact ImpX.here ⟨_, .cons (.tmp _ _ rfl) .nil, rfl⟩
          · refine have h := iteF hc h; tK <| tS <| ATodo.regionM (id := 11) (A := [0, 0, 3, 0, 15]) 5 mixed rfl (by kernel_rfl) (by kernel_rfl) <| AM.qv (q_move rfl) rfl <| AM.qv (q_move rfl) rfl <| bndE h fun l5 e2 h => AM.qv (t_slice_list rfl rfl .none (.some _ _ _ rfl) rfl rfl e2) rfl <| AM.qv (q_load_ptr_all rfl rfl .p0 rfl) rfl <| bndE h fun v6 e3 h => AM.callp rfl (slices_Contains_Spot_Spot_c e3) (CoL.refl _) rfl <| AM.nil <| rN <| ATodo.cond rfl (fun hc => ?_) (fun hc => ?_)
            · refine have h := iteT hc h; tSR <| rA rfl rfl <| rN <| ATodo.ret <| have h := outL h hA1; ?_
              obtain rfl := Option.some.inj h
              exact ImpX.here ⟨_, .cons (.tmp _ _ rfl) .nil, rfl⟩
            · refine have h := iteFb hc h; tK <| ATodo.blk <| tR <| ARun.qv (q_addw rfl rfl) rfl <| rM rfl rfl <| rN <| ATodo.stop <| ?_
              obtain rfl := Option.some.inj h
              exact hJ1 _ _ rfl <| ImpX.lq [] rfl rfl rfl
        · refine have h := iteF hc h; ATodo.exit rfl <| have h := outL h hA1; tS <| tSR <| rM rfl rfl <| ARun.qv (t_len rfl) rfl <| rM rfl rfl <| rN <| ATodo.block <| ATodo.loopI (fun x : Int => Q_CornersFault_b2 p0x0 x) (fun x σ' => σ' = ⟨90, [(0, .list 2 (p0x0.map Spot.av)), (39, I (p0x0.length : Int)), (40, I x)], []⟩) h ?_ ?_
          · exact ImpX.lq [] rfl rfl rfl
          · intro n8 z2 σ' J2 hmk h hJ2 hA2
            obtain rfl := hmk
            replace h : Q_CornersFault_b2 p0x0 n8 = some z2 := h
            unfold Q_CornersFault_b2 at h
            refine tSR <| ARun.qv (q_lss rfl rfl) rfl <| rN <| tS <| ATodo.cond_d rfl (fun hc => ?_) (fun hc => ?_)
            · refine have h := iteT hc h; tK <| tS <| ATodo.block <| tSR <| rM rfl rfl <| rA rfl rfl <| rN <| tSR <| rM rfl rfl <| rM rfl rfl <| bndE h fun v9 e4 h => r_callp rfl (Q_edge_c e4) (CoL.refl _) rfl <| rM rfl rfl <| rX rfl rfl rfl <| rX rfl rfl rfl <| n_alloc rfl rfl rfl rfl fun b10 => n_alloc rfl rfl rfl rfl fun b11 => n_store_ptr rfl rfl rfl rfl .p1 rfl rfl <| n_store_ptr rfl rfl rfl rfl .p0 rfl rfl <| rN <| tSR <| rM rfl rfl <| ARun.qv (t_len rfl) rfl <| rM rfl rfl <| rN <| ATodo.block <| ATodo.loopI (fun x : Int => Q_CornersFault_b3 p0x0 n8 v9 x) (fun x σ' => σ' = ⟨90, [(0, .list 2 (p0x0.map Spot.av)), (6, I n8), (7, .ptr b10 0), (8, .ptr b11 0), (39, I (p0x0.length : Int)), (40, I n8), (50, I (p0x0.length : Int)), (51, I x)], [(b10, .cells [I v9.1.X, I v9.1.Y]), (b11, .cells [I v9.2.X, I v9.2.Y])]⟩) h ?_ ?_
              · exact ImpX.lq [1, 0] rfl rfl rfl
              · intro n13 z3 σ' J3 hmk h hJ3 hA3
                obtain rfl := hmk
                replace h : Q_CornersFault_b3 p0x0 n8 v9 n13 = some z3 := h
                unfold Q_CornersFault_b3 at h
                refine tSR <| ARun.qv (q_lss rfl rfl) rfl <| rN <| tS <| ATodo.cond_d rfl (fun hc => ?_) (fun hc => ?_)
                · refine have h := iteT hc h; tK <| tS <| ATodo.block <| tSR <| rM rfl rfl <| rA rfl rfl <| rN <| tSR <| rM rfl rfl <| rM rfl rfl <| bndE h fun v14 e5 h => r_callp rfl (Q_edge_c e5) (CoL.refl _) rfl <| rM rfl rfl <| rX rfl rfl rfl <| rX rfl rfl rfl <| n_alloc rfl rfl rfl rfl fun b15 => n_alloc rfl rfl rfl rfl fun b16 => n_store_ptr rfl rfl rfl rfl .p1 rfl rfl <| n_store_ptr rfl rfl rfl rfl .p0 rfl rfl <| rN <| ATodo.block <| tSR <| rM rfl rfl <| rM rfl rfl <| ARun.qv (q_eql rfl rfl) rfl <| rA rfl rfl <| rN <| ATodo.cut (fun σ' => Q_CornersFault_j1 n13 = some z3 ∧ σ' = ⟨90, [(0, .list 2 (p0x0.map Spot.av)), (6, I n8), (7, .ptr b10 0), (8, .ptr b11 0), (39, I (p0x0.length : Int)), (40, I n8), (50, I (p0x0.length : Int)), (51, I n13)], [(b10, .cells [I v9.1.X, I v9.1.Y]), (b11, .cells [I v9.2.X, I v9.2.Y])]⟩) ?_ ?_
                  · refine ATodo.cond_d rfl (fun hc => ?_) (fun hc => ?_)
                    · exact have h := iteT hc h; tK <| ATodo.stop <| ImpX.lq [2, 2] ⟨h, rfl⟩ rfl rfl
                    · refine have h := iteF hc h; tSR <| ARun.qv (q_load_ptr_all rfl rfl .p3 rfl) rfl <| ARun.qv (q_load_ptr_all rfl rfl .p1 rfl) rfl <| ARun.qv (t_teq (g := Spot.av) (X := v9.2) (Y := v14.1) rfl rfl rfl rfl rfl) rfl <| rA rfl rfl <| rN <| ATodo.cut (fun σ' => Q_CornersFault_j2 n13 = some z3 ∧ σ' = ⟨90, [(0, .list 2 (p0x0.map Spot.av)), (6, I n8), (7, .ptr b10 0), (8, .ptr b11 0), (39, I (p0x0.length : Int)), (40, I n8), (50, I (p0x0.length : Int)), (51, I n13)], [(b10, .cells [I v9.1.X, I v9.1.Y]), (b11, .cells [I v9.2.X, I v9.2.Y])]⟩) ?_ ?_
                      · refine ATodo.cond_d rfl (fun hc => ?_) (fun hc => ?_)
                        · refine have h := iteT hc h; tS <| ATodo.cut (fun σ' => ∃ (c17 : Bool), Q_CornersFault_j3 n13 c17 = some z3 ∧ σ' = ⟨90, [(0, .list 2 (p0x0.map Spot.av)), (6, I n8), (7, .ptr b10 0), (8, .ptr b11 0), (39, I (p0x0.length : Int)), (40, I n8), (50, I (p0x0.length : Int)), (51, I n13), (77, .bool c17)], [(b10, .cells [I v9.1.X, I v9.1.Y]), (b11, .cells [I v9.2.X, I v9.2.Y])]⟩) ?_ ?_
                          · refine tR <| ARun.qv (q_load_ptr_all rfl rfl .p2 rfl) rfl <| ARun.qv (q_load_ptr_all rfl rfl .p3 rfl) rfl <| ARun.qv (q_load_ptr_all rfl rfl .p0 rfl) rfl <| r_callp rfl (Q_onWay_c rfl) (CoL.refl _) rfl <| rM rfl rfl <| ARun.guard rfl rfl rfl (fun hc => ?_) (fun hc => ?_)
                            · rw [orFb hc] at h
                              exact ARun.qv (q_load_ptr_all rfl rfl .p1 rfl) rfl <| rY rfl rfl rfl <| ARun.qv (q_load_ptr_all rfl rfl .p0 rfl) rfl <| rY rfl rfl rfl <| ARun.qv (q_load_ptr_all rfl rfl .p2 rfl) rfl <| rY rfl rfl rfl <| r_callp rfl (Q_onWay_c rfl) (CoL.refl _) rfl <| rE rfl rfl rfl <| rN <| ATodo.stop <| ImpX.lq [2, 2] ⟨(Q_onWay v14.1 v14.2 v9.1), h, rfl⟩ rfl rfl
                            · rw [orTb hc] at h
                              exact rG rfl rfl rfl rfl <| rG rfl rfl rfl rfl <| rG rfl rfl rfl rfl <| rT rfl rfl rfl <| rN <| ATodo.stop <| ImpX.lq [2, 2] ⟨true, h, rfl⟩ rfl rfl
                          · rintro σ' ⟨c17, h, rfl⟩
                            unfold Q_CornersFault_j3 at h
                            refine ATodo.cond rfl (fun hc => ?_) (fun hc => ?_)
                            · refine have h := iteT hc h; tSR <| rA rfl rfl <| rN <| ATodo.ret <| have h := outL h hA3; have h := outL h hA2; ?_
                              obtain rfl := Option.some.inj h
                              exact ImpX.here ⟨_, .cons (.tmp _ _ rfl) .nil, rfl⟩
                            · exact have h := iteFb hc h; tK <| ATodo.stop <| ImpX.lq [0, 0] ⟨h, rfl⟩ rfl rfl
                        · refine have h := iteF hc h; tSR <| ARun.qv (q_load_ptr_all rfl rfl .p0 rfl) rfl <| ARun.qv (q_load_ptr_all rfl rfl .p2 rfl) rfl <| ARun.qv (t_teq (g := Spot.av) (X := v14.2) (Y := v9.1) rfl rfl rfl rfl rfl) rfl <| rA rfl rfl <| rN <| ATodo.cut (fun σ' => Q_CornersFault_j4 n13 = some z3 ∧ σ' = ⟨90, [(0, .list 2 (p0x0.map Spot.av)), (6, I n8), (7, .ptr b10 0), (8, .ptr b11 0), (39, I (p0x0.length : Int)), (40, I n8), (50, I (p0x0.length : Int)), (51, I n13)], [(b10, .cells [I v9.1.X, I v9.1.Y]), (b11, .cells [I v9.2.X, I v9.2.Y])]⟩) ?_ ?_
                          · refine ATodo.cond_d rfl (fun hc => ?_) (fun hc => ?_)
                            · exact have h := iteT hc h; tK <| ATodo.stop <| ImpX.lq [2, 2] ⟨h, rfl⟩ rfl rfl
                            · refine have h := iteF hc h; tSR <| ARun.qv (q_load_ptr_all rfl rfl .p2 rfl) rfl <| ARun.qv (q_load_ptr_all rfl rfl .p3 rfl) rfl <| ARun.qv (q_load_ptr_all rfl rfl .p1 rfl) rfl <| ARun.qv (q_load_ptr_all rfl rfl .p0 rfl) rfl <| r_callp rfl (Q_touches_c rfl) (CoL.refl _) rfl <| rA rfl rfl <| rN <| ATodo.cond rfl (fun hc => ?_) (fun hc => ?_)
                              · refine have h := iteT hc h; tSR <| rA rfl rfl <| rN <| ATodo.ret <| have h := outL h hA3; have h := outL h hA2; ?_
                                obtain rfl := Option.some.inj h
                                exact ImpX.here ⟨_, .cons (.tmp _ _ rfl) .nil, rfl⟩
                              · exact have h := iteFb hc h; tK <| ATodo.stop <| ImpX.lq [2, 2] ⟨h, rfl⟩ rfl rfl
                          · rintro σ' ⟨h, rfl⟩
                            unfold Q_CornersFault_j4 at h
                            exact ATodo.stop <| ImpX.lq [0, 0] ⟨h, rfl⟩ rfl rfl
                      · rintro σ' ⟨h, rfl⟩
                        unfold Q_CornersFault_j2 at h
                        exact ATodo.stop <| ImpX.lq [0, 0] ⟨h, rfl⟩ rfl rfl
                  · rintro σ' ⟨h, rfl⟩
                    unfold Q_CornersFault_j1 at h
                    refine ATodo.blk <| ATodo.blk <| tR <| ARun.qv (q_addw rfl rfl) rfl <| rM rfl rfl <| rN <| ATodo.stop <| ?_
                    obtain rfl := Option.some.inj h
                    exact hJ3 _ _ rfl <| ImpX.lq [0, 0] rfl rfl rfl
                · refine have h := iteF hc h; ATodo.exit rfl <| have h := outL h hA3; ATodo.blk <| tR <| ARun.qv (q_addw rfl rfl) rfl <| rM rfl rfl <| rN <| ATodo.stop <| ?_
                  obtain rfl := Option.some.inj h
                  exact hJ2 _ _ rfl <| ImpX.lq [] rfl rfl rfl
            · refine have h := iteF hc h; ATodo.exit rfl <| have h := outL h hA2; tSR <| rA rfl rfl <| rN <| ATodo.ret <| ?_
              obtain rfl := Option.some.inj h
              exact ImpX.here ⟨_, .cons (.tmp _ _ rfl) .nil, rfl⟩

set_option maxHeartbeats 4000000 in
theorem Stream_RightFence_c [GI : GTab] {b_0 : Bk} {p0x0 : Fleetmake_Stream} {r : FenceS × Fleetmake_Stream} (h : Stream_RightFence p0x0 = some r) : ACall Tryd.prog 27 [.ptr b_0 0] [(b_0, .cells [.list 1 (p0x0.L.map I), I p0x0.at_])] (T0 ([(b_0, .cells [.list 1 (r.2.L.map I), I r.2.at_])]) (.agg [.str r.1.Key, .list 2 (r.1.Corners.map Spot.av)])) := by
  unfold Stream_RightFence at h
  refine ACall.lessH ?_
  refine ACall.bodyN Tryd.func27 rfl Tryd.ntmps27 Tryd.results27 rfl rfl ?_
  refine tSR <| n_alloc rfl rfl rfl rfl fun b1 => rN <| tSR <| ARun.qv (n_build rfl rfl rfl rfl rfl) rfl <| ARun.qv (n_build rfl rfl rfl rfl rfl) rfl <| ARun.qv (n_build rfl rfl rfl rfl rfl) rfl <| ARun.qv (n_build rfl rfl rfl rfl rfl) rfl <| n_buildSliceL (xs := ([(⟨(0 : Int), (0 : Int)⟩ : Spot), (⟨(10 : Int), (0 : Int)⟩ : Spot), (⟨(10 : Int), (10 : Int)⟩ : Spot), (⟨(0 : Int), (10 : Int)⟩ : Spot)]).map Spot.av) rfl rfl rfl rfl rfl rfl <| ARun.qv (n_build rfl rfl rfl rfl rfl) rfl <| n_alloc rfl rfl rfl rfl fun b2 => n_store_ptr rfl rfl rfl rfl .p0 rfl rfl <| rN <| tS <| tSR <| rM rfl rfl <| rN <| ATodo.block <| ATodo.loopI (fun x : (List Int) × Int × Int => Stream_RightFence_b1 x.1 x.2.1 x.2.2) (fun x σ' => σ' = ⟨82, [(0, .ptr b_0 0), (2, .ptr b1 0), (3, .ptr b2 0), (12, I x.2.2)], [(b_0, .cells [.list 1 (x.1.map I), I x.2.1]), (b1, .cells [.str [], .nil]), (b2, .cells [.str ([102] : Str), .list 2 ([(⟨(0 : Int), (0 : Int)⟩ : Spot), (⟨(10 : Int), (0 : Int)⟩ : Spot), (⟨(10 : Int), (10 : Int)⟩ : Spot), (⟨(0 : Int), (10 : Int)⟩ : Spot)].map Spot.av)])]⟩) h ?_ ?_
  · exact ImpX.lq [2, 1, 0] rfl rfl rfl
  · intro x z1 σ' J1 hmk h hJ1 hA1
    obtain ⟨l6, n7, n8⟩ := x
    obtain rfl := hmk
    replace h : Stream_RightFence_b1 l6 n7 n8 = some z1 := h
    unfold Stream_RightFence_b1 at h
    refine tSR <| ARun.qv (q_lss rfl rfl) rfl <| rN <| tS <| ATodo.cond_d rfl (fun hc => ?_) (fun hc => ?_)
    · refine have h := iteT hc h; tK <| tS <| ATodo.block <| tSR <| rA rfl rfl <| rN <| tS <| tSR <| rM rfl rfl <| bndE h fun v9 e1 h => t_call0 rfl (Stream_Range_c e1) (CoL.refl _) (.cons .p0 .nil) rfl rfl <| rM rfl rfl <| rN <| ATodo.block <| ATodo.loopI (fun x : (List Int) × Int × (List Spot) × Int => Stream_RightFence_b2 n8 v9 x.1 x.2.1 x.2.2.1 x.2.2.2) (fun x σ' => ∃ (b17 : Bk), σ' = ⟨82, [(0, .ptr b_0 0), (2, .ptr b1 0), (3, .ptr b2 0), (4, .sl 2 b17 0 x.2.2.1.length), (12, I n8), (15, I v9.1), (16, I x.2.2.2)], [(b_0, .cells [.list 1 (x.1.map I), I x.2.1]), (b1, .cells [.str [], .nil]), (b2, .cells [.str ([102] : Str), .list 2 ([(⟨(0 : Int), (0 : Int)⟩ : Spot), (⟨(10 : Int), (0 : Int)⟩ : Spot), (⟨(10 : Int), (10 : Int)⟩ : Spot), (⟨(0 : Int), (10 : Int)⟩ : Spot)].map Spot.av)]), (b17, .arr 2 (x.2.2.1.map Spot.av))]⟩) h ?_ ?_
      · exact ImpX.arr (s := 4) 2 rfl fun b20 => ImpX.lq [1, 1, 1, 0] ⟨b20, rfl⟩ rfl rfl
      · intro x z2 σ' J2 hmk h hJ2 hA2
        obtain ⟨l15, n16, l18, n19⟩ := x
        obtain ⟨b17, rfl⟩ := hmk
        replace h : Stream_RightFence_b2 n8 v9 l15 n16 l18 n19 = some z2 := h
        unfold Stream_RightFence_b2 at h
        refine tSR <| ARun.qv (q_lss rfl rfl) rfl <| rN <| tS <| ATodo.cond_d rfl (fun hc => ?_) (fun hc => ?_)
        · refine have h := iteT hc h; tK <| tS <| ATodo.block <| tR <| rM rfl rfl <| rM rfl rfl <| bndE h fun v21 e2 h => t_call0 rfl (Stream_Place_c e2) (CoL.refl _) (.cons .p0 .nil) rfl rfl <| n_buildSliceL (xs := ([v21.1] : List Spot).map Spot.av) rfl rfl rfl rfl rfl rfl <| bndE h fun l22 e3 h => t_append (g := Spot.av) rfl rfl rfl rfl rfl rfl rfl rfl (.list _) e3 (fun _ => .p3) rfl fun b23 => rA rfl rfl <| rN <| ATodo.blk <| tR <| ARun.qv (q_addw rfl rfl) rfl <| rM rfl rfl <| rN <| ATodo.stop <| ?_
          obtain rfl := Option.some.inj h
          exact hJ2 _ _ rfl <| ImpX.lq [0, 0, 0, 0] ⟨b23, rfl⟩ rfl rfl
        · refine have h := iteF hc h; ATodo.exit rfl <| have h := outL h hA2; ?_
          unfold Stream_RightFence_k2 at h
          refine tS <| tSR <| rM rfl rfl <| bndE h fun v24 e4 h => t_call0 rfl (Stream_Flip_c e4) (CoL.refl _) (.cons .p0 .nil) rfl rfl <| rN <| ATodo.cut (fun σ' => ∃ (l25 : List Int) (n26 : Int) (l27 : List Spot), Stream_RightFence_j1 n8 l25 n26 l27 = some z1 ∧ σ' = ⟨82, [(0, .ptr b_0 0), (2, .ptr b1 0), (3, .ptr b2 0), (4, .sl 2 b17 0 l27.length), (12, I n8)], [(b_0, .cells [.list 1 (l25.map I), I n26]), (b1, .cells [.str [], .nil]), (b2, .cells [.str ([102] : Str), .list 2 ([(⟨(0 : Int), (0 : Int)⟩ : Spot), (⟨(10 : Int), (0 : Int)⟩ : Spot), (⟨(10 : Int), (10 : Int)⟩ : Spot), (⟨(0 : Int), (10 : Int)⟩ : Spot)].map Spot.av)]), (b17, .arr 2 (l27.map Spot.av))]⟩) ?_ ?_
          · refine ATodo.cond rfl (fun hc => ?_) (fun hc => ?_)
            · refine have h := iteT hc h; tSR <| rM rfl rfl <| ARun.qv (t_len_sl rfl) rfl <| rM rfl rfl <| rN <| ATodo.block <| ATodo.loopI (fun x : (List Int) × Int × (List Spot) × Int => Stream_RightFence_b3 n8 l18 x.1 x.2.1 x.2.2.1 x.2.2.2) (fun x σ' => σ' = ⟨82, [(0, .ptr b_0 0), (2, .ptr b1 0), (3, .ptr b2 0), (4, .sl 2 b17 0 x.2.2.1.length), (12, I n8), (27, I (l18.length : Int)), (28, I x.2.2.2)], [(b_0, .cells [.list 1 (x.1.map I), I x.2.1]), (b1, .cells [.str [], .nil]), (b2, .cells [.str ([102] : Str), .list 2 ([(⟨(0 : Int), (0 : Int)⟩ : Spot), (⟨(10 : Int), (0 : Int)⟩ : Spot), (⟨(10 : Int), (10 : Int)⟩ : Spot), (⟨(0 : Int), (10 : Int)⟩ : Spot)].map Spot.av)]), (b17, .arr 2 (x.2.2.1.map Spot.av))]⟩) h ?_ ?_
              · exact ImpX.lq [0, 0, 0, 0] rfl rfl rfl
              · intro x z3 σ' J3 hmk h hJ3 hA3
                obtain ⟨l32, n33, l34, n35⟩ := x
                obtain rfl := hmk
                replace h : Stream_RightFence_b3 n8 l18 l32 n33 l34 n35 = some z3 := h
                unfold Stream_RightFence_b3 at h
                refine tSR <| ARun.qv (q_lss rfl rfl) rfl <| rN <| tS <| ATodo.cond_d rfl (fun hc => ?_) (fun hc => ?_)
                · refine have h := iteT hc h; tK <| tS <| ATodo.block <| tSR <| rM rfl rfl <| rA rfl rfl <| rN <| bndE h fun v36 e5 h => bndE h fun v37 e6 h => ATodo.regionT (id := 13) (A := [0, 0, 3, 7, 15, 0, 0, 96, 255, 511, 1023, 2047]) (H0 := [(b_0, .cells [.list 1 (l32.map I), I n33])]) (HH := fun β => [(b_0, .cells [.list 1 (v37.2.L.map I), I v37.2.at_]), (b1, .cells [.str [], .nil]), (b2, .cells [.str ([102] : Str), .list 2 ([(⟨(0 : Int), (0 : Int)⟩ : Spot), (⟨(10 : Int), (0 : Int)⟩ : Spot), (⟨(10 : Int), (10 : Int)⟩ : Spot), (⟨(0 : Int), (10 : Int)⟩ : Spot)].map Spot.av)]), (b17, .arr 2 (l34.map Spot.av))]) 8 mixed rfl (by kernel_rfl) (by kernel_rfl) [⟨none, some 7, [], fun _ => (b_0, .cells [.list 1 (l32.map I), I n33]), none⟩, ⟨some 7, none, [], fun _ => (b_0, .cells [.list 1 (v37.2.L.map I), I v37.2.at_]), none⟩] [] rfl (by kernel_rfl) rfl (.cons .p0 .nil) (fun _ => rfl) <| AT.am 7 rfl rfl <| AM.qv (q_move rfl) rfl <| AM.qv (q_move rfl) rfl <| AM.qv (t_index_sl rfl rfl rfl e5) rfl <| AM.qv (t_field_aptr rfl rfl) rfl <| AM.qv (t_load_aptr (g := Spot.av) rfl rfl (.inl .p2) e5 rfl) rfl <| AM.qv (q_move rfl) rfl <| AM.buildSliceL (xs := ([(1 : Int), (100 : Int), (-400 : Int)]).map I) rfl rfl rfl rfl rfl rfl <| AM.nil <| AT.runS (av := I v37.1) (Ti := [(b_0, .cells [.list 1 (l32.map I), I n33])]) (Pi := [(b_0, .cells [.list 1 (v37.2.L.map I), I v37.2.at_])]) (fun _ => rfl) (fun _ => rfl) (fun _ => rfl) rfl rfl rfl ?_ ?_
                  · exact t_call0 rfl (Stream_Pick_c e6) (CoL.refl _) (.cons .p0 .nil) rfl rfl <| ARun.nil ⟨_, rfl, rfl⟩
                  refine AT.nilN (fun _ => rfl) fun β => ARun.qv (q_mulw rfl rfl) rfl <| bndE h fun v38 e7 h => ARun.qv (t_index_sl rfl rfl rfl e7) rfl <| ARun.qv (t_field_aptr rfl rfl) rfl <| t_store_aptr1 (g := Spot.av) (el' := (⟨w64 (v36.X * v37.1), v38.Y⟩ : Spot)) rfl rfl rfl rfl e7 rfl .p3 rfl <| ARun.ghost <| ImpX.eqs (s := 4) (av' := .sl 2 b17 0 (l34.set n35.toNat (⟨w64 (v36.X * v37.1), v38.Y⟩ : Spot)).length) rfl (by rw [List.length_set]) <| ImpX.here <| ARun.ghost <| ImpX.eqs (s := 31) (av' := .sl 2 b17 0 (l34.set n35.toNat (⟨w64 (v36.X * v37.1), v38.Y⟩ : Spot)).length) rfl (by rw [List.length_set]) <| ImpX.here <| rN <| ATodo.blk <| tR <| ARun.qv (q_addw rfl rfl) rfl <| rM rfl rfl <| rN <| ATodo.stop <| ?_
                  obtain rfl := Option.some.inj h
                  exact hJ3 _ _ rfl <| ImpX.lq [0, 0, 0, 0] rfl rfl rfl
                · exact have h := iteF hc h; ATodo.exit rfl <| have h := outL h hA3; ATodo.stop <| ImpX.lq [0, 0, 0, 0] ⟨l32, n33, l34, h, rfl⟩ rfl rfl
            · exact have h := iteFb hc h; tK <| ATodo.stop <| ImpX.lq [0, 0, 0, 0] ⟨v24.2.L, v24.2.at_, l18, h, rfl⟩ rfl rfl
          · rintro σ' ⟨l25, n26, l27, h, rfl⟩
            unfold Stream_RightFence_j1 at h
            refine tSR <| rM rfl rfl <| bndE h fun v39 e8 h => r_callpB rfl (Q_CornersFault_c e8) (.cons (CoB.arrT .p3) .nil) rfl rfl <| ARun.qv (q_eql rfl rfl) rfl <| rN <| ATodo.cond_d rfl (fun hc => ?_) (fun hc => ?_)
            · refine have h := iteT hc h; tSR <| rM rfl rfl <| rF rfl rfl rfl <| n_store_ptr rfl rfl rfl rfl .p2 rfl rfl <| rN <| tSR <| ARun.qv (q_load_ptr_all rfl rfl .p2 rfl) rfl <| n_store_ptr rfl rfl rfl rfl .p1 rfl rfl <| rN <| ATodo.ret <| have h := outL h hA1; ?_
              obtain rfl := Option.some.inj h
              exact ImpX.freeze .p3 <| ImpX.coBox (j := 1) .p1 rfl (Co.froT .p3) rfl rfl <| ImpX.here ⟨_, .cons (.all _ _ _ _ _ _ rfl .p1 TUnder.h TInfo.h rfl rfl) .nil, _, .cons .p0 .nil, ⟨rfl, rfl⟩⟩
            · refine have h := iteF hc h; tK <| ATodo.blk <| tR <| ARun.qv (q_addw rfl rfl) rfl <| rM rfl rfl <| rN <| ATodo.stop <| ?_
              obtain rfl := Option.some.inj h
              exact hJ1 _ _ rfl <| ImpX.lq [0, 0, 0] rfl rfl rfl
    · refine have h := iteF hc h; ATodo.exit rfl <| have h := outL h hA1; ?_
      unfold Stream_RightFence_k6 at h
      refine tS <| tSR <| rM rfl rfl <| bndE h fun v40 e9 h => t_call0 rfl (Stream_Next_c e9) (CoL.refl _) (.cons .p0 .nil) rfl rfl <| rN <| ATodo.block <| tSR <| ARun.qv (q_eql rfl rfl) rfl <| rA rfl rfl <| rN <| ATodo.cut (fun σ' => ∃ (l41 : List Spot), Stream_RightFence_j3 v40 l41 = some r ∧ σ' = ⟨82, [(2, .ptr b1 0), (3, .ptr b2 0)], [(b_0, .cells [.list 1 (v40.2.L.map I), I v40.2.at_]), (b1, .cells [.str [], .nil]), (b2, .cells [.str ([102] : Str), .list 2 (l41.map Spot.av)])]⟩) ?_ ?_
      · refine ATodo.cond_d rfl (fun hc => ?_) (fun hc => ?_)
        · exact have h := iteT hc h; tR <| ARun.qv (n_build rfl rfl rfl rfl rfl) rfl <| ARun.qv (n_build rfl rfl rfl rfl rfl) rfl <| ARun.qv (n_build rfl rfl rfl rfl rfl) rfl <| ARun.qv (n_build rfl rfl rfl rfl rfl) rfl <| ARun.qv (n_build rfl rfl rfl rfl rfl) rfl <| n_buildSliceL (xs := ([(⟨(0 : Int), (0 : Int)⟩ : Spot), (⟨(10 : Int), (0 : Int)⟩ : Spot), (⟨(10 : Int), (10 : Int)⟩ : Spot), (⟨(5 : Int), (3 : Int)⟩ : Spot), (⟨(0 : Int), (10 : Int)⟩ : Spot)]).map Spot.av) rfl rfl rfl rfl rfl rfl <| rF rfl rfl rfl <| n_store_ptr rfl rfl rfl rfl .p2 rfl rfl <| rN <| ATodo.stop <| ImpX.lq [0, 0, 0] ⟨[(⟨(0 : Int), (0 : Int)⟩ : Spot), (⟨(10 : Int), (0 : Int)⟩ : Spot), (⟨(10 : Int), (10 : Int)⟩ : Spot), (⟨(5 : Int), (3 : Int)⟩ : Spot), (⟨(0 : Int), (10 : Int)⟩ : Spot)], h, rfl⟩ rfl rfl
        · refine have h := iteF hc h; tSR <| ARun.qv (q_eql rfl rfl) rfl <| rA rfl rfl <| rN <| ATodo.cut (fun σ' => ∃ (l42 : List Spot), Stream_RightFence_j4 v40 l42 = some r ∧ σ' = ⟨82, [(2, .ptr b1 0), (3, .ptr b2 0)], [(b_0, .cells [.list 1 (v40.2.L.map I), I v40.2.at_]), (b1, .cells [.str [], .nil]), (b2, .cells [.str ([102] : Str), .list 2 (l42.map Spot.av)])]⟩) ?_ ?_
          · refine ATodo.cond_d rfl (fun hc => ?_) (fun hc => ?_)
            · exact have h := iteT hc h; tR <| ARun.qv (n_build rfl rfl rfl rfl rfl) rfl <| ARun.qv (n_build rfl rfl rfl rfl rfl) rfl <| ARun.qv (n_build rfl rfl rfl rfl rfl) rfl <| ARun.qv (n_build rfl rfl rfl rfl rfl) rfl <| n_buildSliceL (xs := ([(⟨(0 : Int), (10 : Int)⟩ : Spot), (⟨(10 : Int), (10 : Int)⟩ : Spot), (⟨(10 : Int), (0 : Int)⟩ : Spot), (⟨(0 : Int), (0 : Int)⟩ : Spot)]).map Spot.av) rfl rfl rfl rfl rfl rfl <| rF rfl rfl rfl <| n_store_ptr rfl rfl rfl rfl .p2 rfl rfl <| rN <| ATodo.stop <| ImpX.lq [0, 0, 0] ⟨[(⟨(0 : Int), (10 : Int)⟩ : Spot), (⟨(10 : Int), (10 : Int)⟩ : Spot), (⟨(10 : Int), (0 : Int)⟩ : Spot), (⟨(0 : Int), (0 : Int)⟩ : Spot)], h, rfl⟩ rfl rfl
            · refine have h := iteF hc h; tSR <| ARun.qv (q_eql rfl rfl) rfl <| rA rfl rfl <| rN <| ATodo.cut (fun σ' => ∃ (l43 : List Spot), Stream_RightFence_j5 v40 l43 = some r ∧ σ' = ⟨82, [(2, .ptr b1 0), (3, .ptr b2 0)], [(b_0, .cells [.list 1 (v40.2.L.map I), I v40.2.at_]), (b1, .cells [.str [], .nil]), (b2, .cells [.str ([102] : Str), .list 2 (l43.map Spot.av)])]⟩) ?_ ?_
              · refine ATodo.cond_d rfl (fun hc => ?_) (fun hc => ?_)
                · exact have h := iteT hc h; tR <| ARun.qv (n_build rfl rfl rfl rfl rfl) rfl <| ARun.qv (n_build rfl rfl rfl rfl rfl) rfl <| ARun.qv (n_build rfl rfl rfl rfl rfl) rfl <| ARun.qv (n_build rfl rfl rfl rfl rfl) rfl <| ARun.qv (n_build rfl rfl rfl rfl rfl) rfl <| ARun.qv (n_build rfl rfl rfl rfl rfl) rfl <| ARun.qv (n_build rfl rfl rfl rfl rfl) rfl <| ARun.qv (n_build rfl rfl rfl rfl rfl) rfl <| n_buildSliceL (xs := ([(⟨(0 : Int), (0 : Int)⟩ : Spot), (⟨(8 : Int), (0 : Int)⟩ : Spot), (⟨(8 : Int), (2 : Int)⟩ : Spot), (⟨(2 : Int), (2 : Int)⟩ : Spot), (⟨(2 : Int), (6 : Int)⟩ : Spot), (⟨(8 : Int), (6 : Int)⟩ : Spot), (⟨(8 : Int), (8 : Int)⟩ : Spot), (⟨(0 : Int), (8 : Int)⟩ : Spot)]).map Spot.av) rfl rfl rfl rfl rfl rfl <| rF rfl rfl rfl <| n_store_ptr rfl rfl rfl rfl .p2 rfl rfl <| rN <| ATodo.stop <| ImpX.lq [0, 0, 0] ⟨[(⟨(0 : Int), (0 : Int)⟩ : Spot), (⟨(8 : Int), (0 : Int)⟩ : Spot), (⟨(8 : Int), (2 : Int)⟩ : Spot), (⟨(2 : Int), (2 : Int)⟩ : Spot), (⟨(2 : Int), (6 : Int)⟩ : Spot), (⟨(8 : Int), (6 : Int)⟩ : Spot), (⟨(8 : Int), (8 : Int)⟩ : Spot), (⟨(0 : Int), (8 : Int)⟩ : Spot)], h, rfl⟩ rfl rfl
                · exact have h := iteF hc h; tK <| ATodo.stop <| ImpX.lq [0, 0, 0] ⟨[(⟨(0 : Int), (0 : Int)⟩ : Spot), (⟨(10 : Int), (0 : Int)⟩ : Spot), (⟨(10 : Int), (10 : Int)⟩ : Spot), (⟨(0 : Int), (10 : Int)⟩ : Spot)], h, rfl⟩ rfl rfl
              · rintro σ' ⟨l43, h, rfl⟩
                unfold Stream_RightFence_j5 at h
                exact ATodo.stop <| ImpX.lq [0, 0, 0] ⟨l43, h, rfl⟩ rfl rfl
          · rintro σ' ⟨l42, h, rfl⟩
            unfold Stream_RightFence_j4 at h
            exact ATodo.stop <| ImpX.lq [0, 0, 0] ⟨l42, h, rfl⟩ rfl rfl
      · rintro σ' ⟨l41, h, rfl⟩
        unfold Stream_RightFence_j3 at h
        refine ATodo.blk <| tSR <| ARun.qv (q_load_ptr_all rfl rfl .p2 rfl) rfl <| n_store_ptr rfl rfl rfl rfl .p1 rfl rfl <| rN <| ATodo.ret <| ?_
        obtain rfl := Option.some.inj h
        exact ImpX.here ⟨_, .cons (.all _ _ _ _ _ _ rfl .p1 TUnder.h TInfo.h rfl rfl) .nil, _, .cons .p0 .nil, ⟨rfl, rfl⟩⟩

set_option maxHeartbeats 4000000 in
theorem slices_Clone_Spot_Spot_c [GI : GTab] {p0x0 : List Spot} {r : (List Spot)} (h : slices_Clone_Spot_Spot p0x0 = some r) : ACall Tryd.prog 28 [.list 2 (p0x0.map Spot.av)] [] (T1 (fun d_0 => [(d_0, .arr 2 (r.map Spot.av))]) (fun d_0 => .sl 2 d_0 0 r.length)) := by
  unfold slices_Clone_Spot_Spot at h
  refine ACall.lessH ?_
  refine ACall.bodyN Tryd.func28 rfl Tryd.ntmps28 Tryd.results28 rfl rfl ?_
  refine ATodo.seq ?_
  refine ATodo.region ?_
  refine ARun.qv (q_assign rfl) rfl ?_
  refine ARun.nil ?_
  refine ATodo.seq ?_
  refine ATodo.seq ?_
  refine ATodo.region ?_
  refine ARun.qv (q_move rfl) rfl ?_
  refine r_eqnil rfl rfl rfl rfl (fun c hc => ?_)
  refine ARun.nil ?_
  refine ATodo.cond rfl (fun hT => ?_) (fun hF => ?_)
  · obtain rfl := app_nil_some h (List.map_eq_nil_iff.1 (hc hT))
    refine ATodo.seq ?_
    refine ATodo.region ?_
    refine ARun.qv (q_assign rfl) rfl ?_
    refine ARun.nil ?_
    refine ATodo.ret ?_
    refine ImpX.arr (s := 2) 2 rfl (fun b1 => ?_)
    exact ImpX.here ⟨_, .cons (.tmp _ _ rfl) .nil, _, .cons .here .nil, ⟨b1, rfl, rfl⟩⟩
  · refine ATodo.skip ?_
    refine ATodo.seq ?_
    refine ATodo.region ?_
    refine n_buildSlice (xs := ([] : List Spot).map Spot.av) rfl rfl rfl rfl rfl rfl (fun b2 => ?_)
    refine ARun.qv (q_move rfl) rfl ?_
    refine t_append (g := Spot.av) (Xs := []) rfl rfl rfl rfl rfl rfl rfl rfl (.list _) h (fun _ => .here) rfl (fun b3 => ?_)
    refine ARun.qv (q_assign rfl) rfl ?_
    refine ARun.nil ?_
    refine ATodo.ret ?_
    exact ImpX.here ⟨_, .cons (.tmp _ _ rfl) .nil, _, .cons .here .nil, ⟨b3, rfl, rfl⟩⟩

set_option maxHeartbeats 4000000 in
theorem Stream_Fence_c [GI : GTab] {b_0 : Bk} {p0x0 : Fleetmake_Stream} {r : FenceS × Fleetmake_Stream} (h : Stream_Fence p0x0 = some r) : ACall Tryd.prog 7 [.ptr b_0 0] [(b_0, .cells [.list 1 (p0x0.L.map I), I p0x0.at_])] (T0 ([(b_0, .cells [.list 1 (r.2.L.map I), I r.2.at_])]) (.agg [.str r.1.Key, .list 2 (r.1.Corners.map Spot.av)])) := by
  unfold Stream_Fence at h
  refine ACall.lessH ?_
  refine ACall.bodyN Tryd.func7 rfl Tryd.ntmps7 Tryd.results7 rfl rfl ?_
  refine tSR <| n_alloc rfl rfl rfl rfl fun b1 => rN <| tSR <| rM rfl rfl <| bndE h fun v2 e1 h => t_call0 rfl (Stream_RightFence_c e1) (CoL.refl _) (.cons .p1 .nil) rfl rfl <| n_alloc rfl rfl rfl rfl fun b3 => n_store_ptr rfl rfl rfl rfl .p0 rfl rfl <| rN <| tS <| tSR <| rM rfl rfl <| bndE h fun v4 e2 h => t_call0 rfl (Stream_Flip_c e2) (CoL.refl _) (.cons .p1 .nil) rfl rfl <| rN <| ATodo.cut (fun σ' => ∃ (l5 : List Int) (n6 : Int) (q7 : Str) (l8 : List Spot), Stream_Fence_j1 l5 n6 q7 l8 = some r ∧ σ' = ⟨45, [(2, .ptr b1 0), (3, .ptr b3 0)], [(b_0, .cells [.list 1 (l5.map I), I n6]), (b1, .cells [.str [], .nil]), (b3, .cells [.str q7, .list 2 (l8.map Spot.av)])]⟩) ?_ ?_
  · refine ATodo.cond rfl (fun hc => ?_) (fun hc => ?_)
    · refine have h := iteT hc h; tSR <| rM rfl rfl <| bndE h fun v9 e3 h => t_call0 rfl (Stream_Next_c e3) (CoL.refl _) (.cons .p0 .nil) rfl rfl <| rN <| ATodo.block <| tSR <| ARun.qv (q_eql rfl rfl) rfl <| rA rfl rfl <| rN <| ATodo.cut (fun σ' => ∃ (l10 : List Int) (n11 : Int) (q12 : Str) (l13 : List Spot), Stream_Fence_j2 l10 n11 q12 l13 = some r ∧ σ' = ⟨45, [(2, .ptr b1 0), (3, .ptr b3 0)], [(b_0, .cells [.list 1 (l10.map I), I n11]), (b1, .cells [.str [], .nil]), (b3, .cells [.str q12, .list 2 (l13.map Spot.av)])]⟩) ?_ ?_
      · refine ATodo.cond_d rfl (fun hc => ?_) (fun hc => ?_)
        · exact have h := iteT hc h; tR <| rM rfl rfl <| n_buildSliceL (xs := ([([] : Str), ([65] : Str)]).map AV.str) rfl rfl rfl rfl rfl rfl <| bndE h fun v14 e4 h => t_call0 rfl (Stream_Some_c e4) (CoL.refl _) (.cons .p0 .nil) rfl rfl <| rF rfl rfl rfl <| n_store_ptr rfl rfl rfl rfl .p1 rfl rfl <| rN <| ATodo.stop <| ImpX.lq [0, 1, 0] ⟨v14.2.L, v14.2.at_, v14.1, v2.1.Corners, h, rfl⟩ rfl rfl
        · refine have h := iteF hc h; tSR <| ARun.qv (q_eql rfl rfl) rfl <| rA rfl rfl <| rN <| ATodo.cut (fun σ' => ∃ (l15 : List Int) (n16 : Int) (l17 : List Spot), Stream_Fence_j3 v2 l15 n16 l17 = some r ∧ σ' = ⟨45, [(2, .ptr b1 0), (3, .ptr b3 0)], [(b_0, .cells [.list 1 (l15.map I), I n16]), (b1, .cells [.str [], .nil]), (b3, .cells [.str v2.1.Key, .list 2 (l17.map Spot.av)])]⟩) ?_ ?_
          · refine ATodo.cond_d rfl (fun hc => ?_) (fun hc => ?_)
            · refine have h := iteT hc h; bndE h fun v18 e5 h => ATodo.regionT (id := 8) (A := [0, 1, 0, 4, 15, 31, 63]) (H0 := [(b_0, .cells [.list 1 (v9.2.L.map I), I v9.2.at_])]) (HH := fun β => [(b_0, .cells [.list 1 (v18.2.L.map I), I v18.2.at_]), (b3, .cells [.str v2.1.Key, .list 2 (v2.1.Corners.map Spot.av)]), (b1, .cells [.str [], .nil])]) 4 mixed rfl (by kernel_rfl) (by kernel_rfl) [⟨none, some 3, [], fun _ => (b_0, .cells [.list 1 (v9.2.L.map I), I v9.2.at_]), none⟩, ⟨some 3, none, [], fun _ => (b_0, .cells [.list 1 (v18.2.L.map I), I v18.2.at_]), none⟩] [] rfl (by kernel_rfl) rfl (.cons .p0 .nil) (fun _ => rfl) <| AT.am 3 rfl rfl <| AM.qv (n_field_ptr rfl rfl) rfl <| AM.qv (q_load_ptr rfl rfl .p0 rfl) rfl <| AM.qv (q_move rfl) rfl <| AM.nil <| AT.runS (av := I v18.1) (Ti := [(b_0, .cells [.list 1 (v9.2.L.map I), I v9.2.at_])]) (Pi := [(b_0, .cells [.list 1 (v18.2.L.map I), I v18.2.at_])]) (fun _ => rfl) (fun _ => rfl) (fun _ => rfl) rfl rfl rfl ?_ ?_
              · exact t_call0 rfl (Stream_Next_c e5) (CoL.refl _) (.cons .p0 .nil) rfl rfl <| ARun.nil ⟨_, rfl, rfl⟩
              exact AT.nilN (fun _ => rfl) fun β => bndE h fun l19 e6 h => ARun.qv (t_slice_list rfl rfl .none (.some _ _ _ rfl) rfl rfl e6) rfl <| rF rfl rfl rfl <| n_store_ptr rfl rfl rfl rfl .p1 rfl rfl <| rN <| ATodo.stop <| ImpX.lq [0, 1, 0] ⟨v18.2.L, v18.2.at_, l19, h, rfl⟩ rfl rfl
            · refine have h := iteF hc h; tSR <| ARun.qv (q_eql rfl rfl) rfl <| rA rfl rfl <| rN <| ATodo.cut (fun σ' => ∃ (b22 : Bk) (l20 : List Int) (n21 : Int) (l23 : List Spot), Stream_Fence_j4 v2 l20 n21 l23 = some r ∧ σ' = ⟨45, [(2, .ptr b1 0), (3, .ptr b3 0)], [(b_0, .cells [.list 1 (l20.map I), I n21]), (b1, .cells [.str [], .nil]), (b3, .cells [.str v2.1.Key, .sl 2 b22 0 l23.length]), (b22, .arr 2 (l23.map Spot.av))]⟩) ?_ ?_
              · refine ATodo.cond_d rfl (fun hc => ?_) (fun hc => ?_)
                · exact have h := iteT hc h; tR <| rF rfl rfl rfl <| rL rfl rfl .p1 rfl rfl <| bndE h fun v24 e7 h => t_call1 rfl (slices_Clone_Spot_Spot_c e7) (CoL.refl _) .nil (fun _ => rfl) rfl fun b25 => rM rfl rfl <| bndE h fun v26 e8 h => t_call0 rfl (Stream_Spot_c e8) (CoL.refl _) (.cons .p1 .nil) rfl rfl <| n_buildSliceL (xs := ([v26.1] : List Spot).map Spot.av) rfl rfl rfl rfl rfl rfl <| bndE h fun l27 e9 h => t_append (g := Spot.av) rfl rfl rfl rfl rfl rfl rfl rfl (.list _) e9 (fun _ => .p1) rfl fun b28 => rF rfl rfl rfl <| n_store_ptr rfl rfl rfl rfl .p2 rfl rfl <| rN <| ATodo.stop <| ImpX.lq [0, 2, 1, 0] ⟨b28, v26.2.L, v26.2.at_, l27, h, rfl⟩ rfl rfl
                · exact have h := iteF hc h; tR <| rM rfl rfl <| bndE h fun v29 e10 h => t_call0 rfl (Stream_Place_c e10) (CoL.refl _) (.cons .p0 .nil) rfl rfl <| rM rfl rfl <| bndE h fun v30 e11 h => t_call0 rfl (Stream_Place_c e11) (CoL.refl _) (.cons .p0 .nil) rfl rfl <| rM rfl rfl <| bndE h fun v31 e12 h => t_call0 rfl (Stream_Place_c e12) (CoL.refl _) (.cons .p0 .nil) rfl rfl <| rM rfl rfl <| bndE h fun v32 e13 h => t_call0 rfl (Stream_Place_c e13) (CoL.refl _) (.cons .p0 .nil) rfl rfl <| n_buildSlice rfl rfl rfl rfl rfl rfl fun b33 => rF rfl rfl rfl <| n_store_ptr rfl rfl rfl rfl .p2 rfl rfl <| rN <| ATodo.stop <| ImpX.lq [1, 2, 1, 0] ⟨b33, v32.2.L, v32.2.at_, [v29.1, v30.1, v31.1, v32.1], h, rfl⟩ rfl rfl
              · rintro σ' ⟨b22, l20, n21, l23, h, rfl⟩
                unfold Stream_Fence_j4 at h
                exact ATodo.stop <| ImpX.freeze .p3 <| ImpX.coBox (j := 1) .p2 rfl (Co.froT .p3) rfl rfl <| ImpX.lq [0, 0, 0] ⟨l20, n21, l23, h, rfl⟩ rfl rfl
          · rintro σ' ⟨l15, n16, l17, h, rfl⟩
            unfold Stream_Fence_j3 at h
            exact ATodo.stop <| ImpX.lq [0, 0, 0] ⟨l15, n16, v2.1.Key, l17, h, rfl⟩ rfl rfl
      · rintro σ' ⟨l10, n11, q12, l13, h, rfl⟩
        unfold Stream_Fence_j2 at h
        exact ATodo.blk <| ATodo.stop <| ImpX.lq [0, 0, 0] ⟨l10, n11, q12, l13, h, rfl⟩ rfl rfl
    · exact have h := iteFb hc h; tK <| ATodo.stop <| ImpX.lq [0, 1, 0] ⟨v4.2.L, v4.2.at_, v2.1.Key, v2.1.Corners, h, rfl⟩ rfl rfl
  · rintro σ' ⟨l5, n6, q7, l8, h, rfl⟩
    unfold Stream_Fence_j1 at h
    refine tSR <| ARun.qv (q_load_ptr_all rfl rfl .p2 rfl) rfl <| n_store_ptr rfl rfl rfl rfl .p1 rfl rfl <| rN <| ATodo.ret <| ?_
    obtain rfl := Option.some.inj h
    exact ImpX.here ⟨_, .cons (.all _ _ _ _ _ _ rfl .p1 TUnder.h TInfo.h rfl rfl) .nil, _, .cons .p0 .nil, ⟨rfl, rfl⟩⟩

set_option maxHeartbeats 4000000 in
theorem base_Out_c [GI : GTab] {p0x0 : Int} {p1x0 : Int} {p2x0 : Int} {r : Bool} (h : base_Out p0x0 p1x0 p2x0 = r) : Pu Tryd.prog 30 [I p0x0, I p1x0, I p2x0] (.bool r) := by
  unfold base_Out at h
  refine ACall.bodyN Tryd.func30 rfl Tryd.ntmps30 Tryd.results30 rfl rfl ?_
  refine tSR <| rA rfl rfl <| rN <| tS <| ATodo.cut (fun σ' => ∃ (c1 : Bool), base_Out_j1 c1 = r ∧ σ' = ⟨15, [(6, .bool c1)], []⟩) ?_ ?_
  · refine tR <| rM rfl rfl <| rM rfl rfl <| ARun.qv (q_lss rfl rfl) rfl <| rM rfl rfl <| ARun.guard_df rfl rfl rfl (fun hc => ?_) (fun hc => ?_)
    · rw [orFd hc] at h
      exact rM rfl rfl <| rY rfl rfl rfl <| rM rfl rfl <| rY rfl rfl rfl <| ARun.qv (q_gtr rfl rfl) rfl <| rE rfl rfl rfl <| rA rfl rfl <| rN <| ATodo.stop <| ImpX.lq [] ⟨decide (p2x0 < p0x0), h, rfl⟩ rfl rfl
    · rw [orTd hc] at h
      exact rG rfl rfl rfl rfl <| rG rfl rfl rfl rfl <| rT rfl rfl rfl <| rA rfl rfl <| rN <| ATodo.stop <| ImpX.lq [] ⟨true, h, rfl⟩ rfl rfl
  · rintro σ' ⟨c1, h, rfl⟩
    unfold base_Out_j1 at h
    refine ATodo.ret <| ?_
    obtain rfl := h
    exact ImpX.here ⟨_, .cons (.tmp _ _ rfl) .nil, rfl⟩

set_option maxHeartbeats 4000000 in
theorem place_isSpot_c [GI : GTab] {p0x0 : Spot} {r : Bool} (h : place_isSpot p0x0 = r) : Pu Tryd.prog 29 [.agg [I p0x0.X, I p0x0.Y]] (.bool r) := by
  unfold place_isSpot at h
  refine ACall.bodyN Tryd.func29 rfl Tryd.ntmps29 Tryd.results29 rfl rfl ?_
  refine tSR <| n_box rfl rfl rfl rfl fun b1 => rA rfl rfl <| rN <| tS <| ATodo.cut (fun σ' => ∃ (c2 : Bool), place_isSpot_j1 c2 = r ∧ σ' = ⟨13, [(2, .bool c2)], []⟩) ?_ ?_
  · refine tR <| rF rfl rfl rfl <| rL rfl rfl .p0 rfl rfl <| r_callp rfl (base_Out_c rfl) (CoL.refl _) rfl <| ARun.qv (q_not rfl) rfl <| rM rfl rfl <| ARun.guard rfl rfl rfl (fun hc => ?_) (fun hc => ?_)
    · rw [andTb hc] at h
      exact rF rfl rfl rfl <| rY rfl rfl rfl <| rL rfl rfl .p0 rfl rfl <| rY rfl rfl rfl <| r_callp rfl (base_Out_c rfl) (CoL.refl _) rfl <| rY rfl rfl rfl <| ARun.qv (q_not rfl) rfl <| rT rfl rfl rfl <| rA rfl rfl <| rN <| ATodo.stop <| ImpX.lq [] ⟨!(base_Out p0x0.Y (-10000 : Int) (10000 : Int)), h, rfl⟩ rfl rfl
    · rw [andFb hc] at h
      exact rG rfl rfl rfl rfl <| rG rfl rfl rfl rfl <| rG rfl rfl rfl rfl <| rE rfl rfl rfl <| rA rfl rfl <| rN <| ATodo.stop <| ImpX.lq [] ⟨false, h, rfl⟩ rfl rfl
  · rintro σ' ⟨c2, h, rfl⟩
    unfold place_isSpot_j1 at h
    refine ATodo.ret <| ?_
    obtain rfl := h
    exact ImpX.here ⟨_, .cons (.tmp _ _ rfl) .nil, rfl⟩

set_option maxHeartbeats 4000000 in
theorem place_Cell_c [GI : GTab] {p0x0 : Spot} {p1x0 : Int} {r : Str × Int} (h : place_Cell p0x0 p1x0 = some r) : Pu Tryd.prog 10 [.agg [I p0x0.X, I p0x0.Y], I p1x0] (.tup [.str r.1, I r.2]) := by
  unfold place_Cell at h
  refine ACall.bodyN Tryd.func10 rfl Tryd.ntmps10 Tryd.results10 rfl rfl ?_
  refine tSR <| n_box rfl rfl rfl rfl fun b1 => rA rfl rfl <| rA rfl rfl <| rN <| tS <| tS <| ATodo.cut (fun σ' => ∃ (c2 : Bool), place_Cell_j1 p0x0 p1x0 c2 = some r ∧ σ' = ⟨47, [(1, I p1x0), (2, .ptr b1 0), (16, .bool c2)], [(b1, .cells [I p0x0.X, I p0x0.Y])]⟩) ?_ ?_
  · refine tR <| ARun.qv (q_load_ptr_all rfl rfl .p0 rfl) rfl <| r_callp rfl (place_isSpot_c rfl) (CoL.refl _) rfl <| ARun.qv (q_not rfl) rfl <| rM rfl rfl <| ARun.guard rfl rfl rfl (fun hc => ?_) (fun hc => ?_)
    · rw [orFb hc] at h
      exact rM rfl rfl <| rY rfl rfl rfl <| r_callp rfl (base_Out_c rfl) (CoL.refl _) rfl <| rE rfl rfl rfl <| rN <| ATodo.stop <| ImpX.lq [0] ⟨(base_Out p1x0 (0 : Int) (15 : Int)), h, rfl⟩ rfl rfl
    · rw [orTb hc] at h
      exact rG rfl rfl rfl rfl <| rT rfl rfl rfl <| rN <| ATodo.stop <| ImpX.lq [0] ⟨true, h, rfl⟩ rfl rfl
  · rintro σ' ⟨c2, h, rfl⟩
    unfold place_Cell_j1 at h
    refine ATodo.cond rfl (fun hc => ?_) (fun hc => ?_)
    · refine have h := iteT hc h; tSR <| rA rfl rfl <| rA rfl rfl <| rN <| ATodo.ret <| ?_
      obtain rfl := Option.some.inj h
      exact ImpX.here ⟨_, .cons (.tmp _ _ rfl) (.cons (.tmp _ _ rfl) .nil), rfl⟩
    · refine have h := iteFb hc h; tK <| tSR <| rA rfl rfl <| rN <| tS <| ATodo.regionM (id := 4) (A := [0, 1, 3, 0, 8, 24, 7, 127, 255]) 9 mixed rfl (by kernel_rfl) (by kernel_rfl) <| AM.qv (n_field_ptr rfl rfl) rfl <| AM.qv (q_load_ptr rfl rfl .p0 rfl) rfl <| AM.qv (q_subw rfl rfl) rfl <| AM.qv (n_field_ptr rfl rfl) rfl <| AM.qv (q_load_ptr rfl rfl .p0 rfl) rfl <| AM.qv (q_subw rfl rfl) rfl <| AM.qv (q_assign rfl) rfl <| AM.qv (q_assign rfl) rfl <| AM.qv (q_assign rfl) rfl <| AM.nil <| rN <| tS <| tSR <| rM rfl rfl <| rM rfl rfl <| rN <| ATodo.block <| ATodo.loopI (fun x : (List Int) × Int × Int => place_Cell_b1 p0x0 p1x0 x.1 x.2.1 x.2.2) (fun x σ' => ∃ (b7 : Bk), σ' = ⟨47, [(6, .sl 1 b7 0 x.1.length), (7, I (w64 (p0x0.X - (-16384 : Int)))), (8, I (w64 (p0x0.Y - (-16384 : Int)))), (9, I x.2.1), (23, I p1x0), (24, I x.2.2)], [(b7, .arr 1 (x.1.map (AV.int .u8)))]⟩) h ?_ ?_
      · exact ImpX.arr (s := 6) 1 rfl fun b11 => ImpX.lq [0] ⟨b11, rfl⟩ rfl rfl
      · intro x z1 σ' J1 hmk h hJ1 hA1
        obtain ⟨l8, n9, n10⟩ := x
        obtain ⟨b7, rfl⟩ := hmk
        replace h : place_Cell_b1 p0x0 p1x0 l8 n9 n10 = some z1 := h
        unfold place_Cell_b1 at h
        refine tSR <| ARun.qv (q_lss rfl rfl) rfl <| rN <| tS <| ATodo.cond_d rfl (fun hc => ?_) (fun hc => ?_)
        · refine have h := iteT hc h; tK <| tS <| ATodo.block <| tSR <| rM rfl rfl <| ARun.qv (t_quo rfl rfl (by decide)) rfl <| rA rfl rfl <| rN <| ATodo.regionM (id := 8) (A := [0, 0, 0, 6, 14, 30, 62, 0, 0, 384, 896, 1920, 3968, 8190, 16382, 32767, 65535]) 15 mixed rfl (by kernel_rfl) (by kernel_rfl) <| AM.qv (q_move rfl) rfl <| AM.qv (q_move rfl) rfl <| AM.qv (q_move rfl) rfl <| bndE h fun n12 e1 h => AM.qv (t_quoS rfl rfl e1) rfl <| AM.qv (q_rem rfl rfl (by decide)) rfl <| AM.qv (q_conv_int rfl) rfl <| AM.qv (q_addw rfl rfl) rfl <| AM.qv (q_move rfl) rfl <| AM.qv (q_move rfl) rfl <| bndE h fun n13 e2 h => AM.qv (t_quoS rfl rfl e2) rfl <| AM.qv (q_rem rfl rfl (by decide)) rfl <| AM.qv (q_conv_int rfl) rfl <| AM.qv (q_mulw rfl rfl) rfl <| AM.qv (q_addw rfl rfl) rfl <| AM.buildSliceL (xs := ([IntKind.u8.wrap ((IntKind.u8.wrap ((48 : Int) + (IntKind.u8.wrap (n12.tmod (2 : Int))))) + (IntKind.u8.wrap ((2 : Int) * (IntKind.u8.wrap (n13.tmod (2 : Int))))))]).map (AV.int .u8)) rfl rfl rfl rfl rfl rfl <| AM.nil <| bndE h fun l14 e3 h => t_append (g := (AV.int .u8)) rfl rfl rfl rfl rfl rfl rfl rfl (.list _) e3 (fun _ => .p0) rfl fun b15 => rA rfl rfl <| rN <| ATodo.blk <| tR <| ARun.qv (q_addw rfl rfl) rfl <| rM rfl rfl <| rN <| ATodo.stop <| ?_
          obtain rfl := Option.some.inj h
          exact hJ1 _ _ rfl <| ImpX.lq [0] ⟨b15, rfl⟩ rfl rfl
        · refine have h := iteF hc h; ATodo.exit rfl <| have h := outL h hA1; tSR <| rM rfl rfl <| ARun.qv (q_conv_bs rfl (CoB.arrT .p0)) rfl <| rA rfl rfl <| rA rfl rfl <| rN <| ATodo.ret <| ?_
          obtain rfl := Option.some.inj h
          exact ImpX.here ⟨_, .cons (.tmp _ _ rfl) (.cons (.tmp _ _ rfl) .nil), rfl⟩

set_option maxHeartbeats 4000000 in
theorem place_cellBox_c [GI : GTab] {p0x0 : Str} {r : Spot × Int} (h : place_cellBox p0x0 = some r) : Pu Tryd.prog 32 [.str p0x0] (.tup [.agg [I r.1.X, I r.1.Y], I r.2]) := by
  unfold place_cellBox at h
  refine ACall.bodyN Tryd.func32 rfl Tryd.ntmps32 Tryd.results32 rfl rfl ?_
  refine tSR <| n_alloc rfl rfl rfl rfl fun b1 => rA rfl rfl <| rN <| tSR <| ARun.qv (n_build rfl rfl rfl rfl rfl) rfl <| n_alloc rfl rfl rfl rfl fun b2 => n_store_ptr rfl rfl rfl rfl .p0 rfl rfl <| rA rfl rfl <| rN <| tS <| tSR <| rM rfl rfl <| ARun.qv (q_len_str rfl) rfl <| rM rfl rfl <| rN <| ATodo.block <| ATodo.loopI (fun x : Int × Int × Int × Int => place_cellBox_b1 p0x0 x.1 x.2.1 x.2.2.1 x.2.2.2) (fun x σ' => σ' = ⟨42, [(0, .str p0x0), (2, .ptr b1 0), (4, .ptr b2 0), (5, I x.2.2.1), (9, I (p0x0.length : Int)), (10, I x.2.2.2)], [(b1, .cells [I (0 : Int), I (0 : Int)]), (b2, .cells [I x.1, I x.2.1])]⟩) h ?_ ?_
  · exact ImpX.lq [1, 0] rfl rfl rfl
  · intro x z1 σ' J1 hmk h hJ1 hA1
    obtain ⟨n7, n8, n9, n10⟩ := x
    obtain rfl := hmk
    replace h : place_cellBox_b1 p0x0 n7 n8 n9 n10 = some z1 := h
    unfold place_cellBox_b1 at h
    refine tSR <| ARun.qv (q_lss rfl rfl) rfl <| rN <| tS <| ATodo.cond_d rfl (fun hc => ?_) (fun hc => ?_)
    · refine have h := iteT hc h; tK <| tS <| ATodo.block <| tSR <| rM rfl rfl <| rA rfl rfl <| rN <| tSR <| rM rfl rfl <| ARun.qv (t_quo rfl rfl (by decide)) rfl <| rA rfl rfl <| rN <| tS <| ATodo.regionM (id := 6) (A := [0, 1, 0, 0, 12, 28, 60, 124, 0, 508, 1023, 2047, 4095]) 12 mixed rfl (by kernel_rfl) (by kernel_rfl) <| AM.qv (n_field_ptr rfl rfl) rfl <| AM.qv (q_load_ptr rfl rfl .p1 rfl) rfl <| AM.qv (q_move rfl) rfl <| AM.qv (q_move rfl) rfl <| bndE h fun c11 e1 h => AM.qv (t_index_str rfl rfl e1) rfl <| AM.qv (q_subw rfl rfl) rfl <| AM.qv (q_conv_int rfl) rfl <| AM.qv (q_rem rfl rfl (by decide)) rfl <| AM.qv (q_move rfl) rfl <| AM.qv (q_mulw rfl rfl) rfl <| AM.qv (q_addw rfl rfl) rfl <| AM.qv (n_field_ptr rfl rfl) rfl <| AM.nil <| n_store_ptr rfl rfl rfl rfl .p1 rfl rfl <| rN <| ATodo.regionM (id := 7) (A := [0, 1, 0, 0, 12, 28, 60, 124, 0, 508, 1023, 2047, 4095]) 12 mixed rfl (by kernel_rfl) (by kernel_rfl) <| AM.qv (n_field_ptr rfl rfl) rfl <| AM.qv (q_load_ptr rfl rfl .p1 rfl) rfl <| AM.qv (q_move rfl) rfl <| AM.qv (q_move rfl) rfl <| bndE h fun c12 e2 h => AM.qv (t_index_str rfl rfl e2) rfl <| AM.qv (q_subw rfl rfl) rfl <| AM.qv (q_conv_int rfl) rfl <| AM.qv (t_quo rfl rfl (by decide)) rfl <| AM.qv (q_move rfl) rfl <| AM.qv (q_mulw rfl rfl) rfl <| AM.qv (q_addw rfl rfl) rfl <| AM.qv (n_field_ptr rfl rfl) rfl <| AM.nil <| n_store_ptr rfl rfl rfl rfl .p1 rfl rfl <| rN <| ATodo.blk <| tR <| ARun.qv (q_addw rfl rfl) rfl <| rM rfl rfl <| rN <| ATodo.stop <| ?_
      obtain rfl := Option.some.inj h
      exact hJ1 _ _ rfl <| ImpX.lq [0, 0] rfl rfl rfl
    · refine have h := iteF hc h; ATodo.exit rfl <| have h := outL h hA1; tSR <| ARun.qv (q_load_ptr_all rfl rfl .p1 rfl) rfl <| rM rfl rfl <| n_store_ptr rfl rfl rfl rfl .p0 rfl rfl <| rA rfl rfl <| rN <| ATodo.ret <| ?_
      obtain rfl := Option.some.inj h
      exact ImpX.here ⟨_, .cons (.all _ _ _ _ _ _ rfl .p0 TUnder.h TInfo.h rfl rfl) (.cons (.tmp _ _ rfl) .nil), rfl⟩

set_option maxHeartbeats 4000000 in
theorem place_CellBox_c {p0x0 : Str} {r : Spot × Int × Int} (h : place_CellBox p0x0 = some r) : Pu Tryd.prog 11 [.str p0x0] (.tup [.agg [I r.1.X, I r.1.Y], I r.2.1, I r.2.2]) := by
  unfold place_CellBox at h
  refine ACall.bodyN Tryd.func11 rfl Tryd.ntmps11 Tryd.results11 rfl rfl ?_
  refine tSR <| n_alloc rfl rfl rfl rfl fun b1 => rA rfl rfl <| rA rfl rfl <| rN <| tS <| tS <| ATodo.cut (fun σ' => ∃ (c2 : Bool), place_CellBox_j1 p0x0 c2 = some r ∧ σ' = ⟨23, [(0, .str p0x0), (2, .ptr b1 0), (14, .bool c2)], [(b1, .cells [I (0 : Int), I (0 : Int)])]⟩) ?_ ?_
  · refine tR <| rM rfl rfl <| ARun.qv (q_len_str rfl) rfl <| ARun.qv (q_gtr rfl rfl) rfl <| rM rfl rfl <| ARun.guard_df rfl rfl rfl (fun hc => ?_) (fun hc => ?_)
    · exact have h := iteF hc h; rM rfl rfl <| rY rfl rfl rfl <| bndE h fun v3 e1 h => r_callp rfl (strings_Trim_c e1) (CoL.refl _) rfl <| rY rfl rfl rfl <| ARun.qv (q_sne rfl rfl) rfl <| rE rfl rfl rfl <| rN <| ATodo.stop <| ImpX.lq [0] ⟨decide (v3 ≠ ([] : Str)), h, rfl⟩ rfl rfl
    · exact have h := iteT hc h; rG rfl rfl rfl rfl <| rG rfl rfl rfl rfl <| rT rfl rfl rfl <| rN <| ATodo.stop <| ImpX.lq [0] ⟨true, h, rfl⟩ rfl rfl
  · rintro σ' ⟨c2, h, rfl⟩
    unfold place_CellBox_j1 at h
    refine ATodo.cond rfl (fun hc => ?_) (fun hc => ?_)
    · refine have h := iteT hc h; tSR <| ARun.qv (n_build rfl rfl rfl rfl rfl) rfl <| n_store_ptr rfl rfl rfl rfl .p0 rfl rfl <| rA rfl rfl <| rA rfl rfl <| rN <| ATodo.ret <| ?_
      obtain rfl := Option.some.inj h
      exact ImpX.here ⟨_, .cons (.all _ _ _ _ _ _ rfl .p0 TUnder.h TInfo.h rfl rfl) (.cons (.tmp _ _ rfl) (.cons (.tmp _ _ rfl) .nil)), rfl⟩
    · refine have h := iteFb hc h; tK <| tSR <| rM rfl rfl <| bndE h fun v4 e2 h => r_callp rfl (place_cellBox_c e2) (CoL.refl _) rfl <| rM rfl rfl <| rX rfl rfl rfl <| rX rfl rfl rfl <| n_alloc rfl rfl rfl rfl fun b5 => n_store_ptr rfl rfl rfl rfl .p0 rfl rfl <| rA rfl rfl <| rN <| tSR <| ARun.qv (q_load_ptr_all rfl rfl .p0 rfl) rfl <| rM rfl rfl <| n_store_ptr rfl rfl rfl rfl .p1 rfl rfl <| rA rfl rfl <| rA rfl rfl <| rN <| ATodo.ret <| ?_
      obtain rfl := Option.some.inj h
      exact ImpX.here ⟨_, .cons (.all _ _ _ _ _ _ rfl .p1 TUnder.h TInfo.h rfl rfl) (.cons (.tmp _ _ rfl) (.cons (.tmp _ _ rfl) .nil)), rfl⟩

set_option maxHeartbeats 4000000 in
theorem base_Key_c [GI : GTab] {p0x0 : Str} {r : Bool} (h : base_Key p0x0 = some r) : Pu Tryd.prog 49 [.str p0x0] (.bool r) := by
  unfold base_Key at h
  refine ACall.bodyN Tryd.func49 rfl Tryd.ntmps49 Tryd.results49 rfl rfl ?_
  refine tSR <| rA rfl rfl <| rN <| tS <| tS <| ATodo.cut (fun σ' => ∃ (c1 : Bool), base_Key_j1 p0x0 c1 = some r ∧ σ' = ⟨54, [(0, .str p0x0), (21, .bool c1)], []⟩) ?_ ?_
  · refine tR <| rM rfl rfl <| ARun.qv (q_seq rfl rfl) rfl <| rM rfl rfl <| ARun.guard_df rfl rfl rfl (fun hc => ?_) (fun hc => ?_)
    · refine have h := iteF hc h; rM rfl rfl <| rY rfl rfl rfl <| ARun.qv (q_len_str rfl) rfl <| rY rfl rfl rfl <| ARun.qv (q_gtr rfl rfl) rfl <| rE rfl rfl rfl <| rM rfl rfl <| ARun.guard_df rfl rfl rfl (fun hc => ?_) (fun hc => ?_)
      · refine have h := iteF hc h; rM rfl rfl <| rY rfl rfl rfl <| bndE h fun c2 e1 h => ARun.qv (t_index_str rfl rfl e1) rfl <| rY rfl rfl rfl <| ARun.qv (q_lss rfl rfl) rfl <| rE rfl rfl rfl <| rM rfl rfl <| ARun.guard_df rfl rfl rfl (fun hc => ?_) (fun hc => ?_)
        · exact have h := iteF hc h; rM rfl rfl <| rY rfl rfl rfl <| bndE h fun c3 e2 h => ARun.qv (t_index_str rfl rfl e2) rfl <| rY rfl rfl rfl <| ARun.qv (q_gtr rfl rfl) rfl <| rE rfl rfl rfl <| rN <| ATodo.stop <| ImpX.lq [] ⟨decide ((122 : Int) < (c3.toNat : Int)), h, rfl⟩ rfl rfl
        · exact have h := iteT hc h; rG rfl rfl rfl rfl <| rG rfl rfl rfl rfl <| rT rfl rfl rfl <| rN <| ATodo.stop <| ImpX.lq [] ⟨true, h, rfl⟩ rfl rfl
      · exact have h := iteT hc h; rG rfl rfl rfl rfl <| rG rfl rfl rfl rfl <| rT rfl rfl rfl <| rM rfl rfl <| rG rfl rfl rfl rfl <| rG rfl rfl rfl rfl <| rG rfl rfl rfl rfl <| rT rfl rfl rfl <| rN <| ATodo.stop <| ImpX.lq [] ⟨true, h, rfl⟩ rfl rfl
    · exact have h := iteT hc h; rG rfl rfl rfl rfl <| rG rfl rfl rfl rfl <| rT rfl rfl rfl <| rM rfl rfl <| rG rfl rfl rfl rfl <| rG rfl rfl rfl rfl <| rG rfl rfl rfl rfl <| rT rfl rfl rfl <| rM rfl rfl <| rG rfl rfl rfl rfl <| rG rfl rfl rfl rfl <| rG rfl rfl rfl rfl <| rT rfl rfl rfl <| rN <| ATodo.stop <| ImpX.lq [] ⟨true, h, rfl⟩ rfl rfl
  · rintro σ' ⟨c1, h, rfl⟩
    unfold base_Key_j1 at h
    refine ATodo.cond rfl (fun hc => ?_) (fun hc => ?_)
    · refine have h := iteT hc h; tSR <| rA rfl rfl <| rN <| ATodo.ret <| ?_
      obtain rfl := Option.some.inj h
      exact ImpX.here ⟨_, .cons (.tmp _ _ rfl) .nil, rfl⟩
    · refine have h := iteFb hc h; tK <| tS <| tSR <| rM rfl rfl <| ARun.qv (q_len_str rfl) rfl <| rM rfl rfl <| rN <| ATodo.block <| ATodo.loopI (fun x : Int => base_Key_b1 p0x0 x) (fun x σ' => σ' = ⟨54, [(0, .str p0x0), (23, I (p0x0.length : Int)), (24, I x)], []⟩) h ?_ ?_
      · exact ImpX.lq [] rfl rfl rfl
      · intro n5 z1 σ' J1 hmk h hJ1 hA1
        obtain rfl := hmk
        replace h : base_Key_b1 p0x0 n5 = some z1 := h
        unfold base_Key_b1 at h
        refine tSR <| ARun.qv (q_lss rfl rfl) rfl <| rN <| tS <| ATodo.cond_d rfl (fun hc => ?_) (fun hc => ?_)
        · refine have h := iteT hc h; tK <| tS <| ATodo.block <| tSR <| rM rfl rfl <| rA rfl rfl <| rN <| tSR <| rM rfl rfl <| rM rfl rfl <| bndE h fun c6 e3 h => ARun.qv (t_index_str rfl rfl e3) rfl <| rA rfl rfl <| rN <| tS <| ATodo.cut (fun σ' => ∃ (c7 : Bool), base_Key_j2 n5 c7 = some z1 ∧ σ' = ⟨54, [(0, .str p0x0), (23, I (p0x0.length : Int)), (24, I n5), (52, .bool c7)], []⟩) ?_ ?_
          · refine tR <| rM rfl rfl <| ARun.qv (q_geq rfl rfl) rfl <| rM rfl rfl <| ARun.guard_dt rfl rfl rfl (fun hc => ?_) (fun hc => ?_)
            · rw [if_pos hc] at h
              refine rM rfl rfl <| rY rfl rfl rfl <| ARun.qv (q_leq rfl rfl) rfl <| rT rfl rfl rfl <| rM rfl rfl <| ARun.guard_df rfl rfl rfl (fun hc => ?_) (fun hc => ?_)
              · rw [if_neg hc] at h
                refine rM rfl rfl <| rY rfl rfl rfl <| ARun.qv (q_geq rfl rfl) rfl <| rY rfl rfl rfl <| rM rfl rfl <| ARun.guard_dt rfl rfl rfl (fun hc => ?_) (fun hc => ?_)
                · rw [if_pos hc] at h
                  refine rM rfl rfl <| rY rfl rfl rfl <| ARun.qv (q_leq rfl rfl) rfl <| rY rfl rfl rfl <| rT rfl rfl rfl <| rE rfl rfl rfl <| rM rfl rfl <| ARun.guard_df rfl rfl rfl (fun hc => ?_) (fun hc => ?_)
                  · rw [if_neg hc] at h
                    refine rM rfl rfl <| rY rfl rfl rfl <| ARun.qv (q_eql rfl rfl) rfl <| rE rfl rfl rfl <| rM rfl rfl <| ARun.guard_df rfl rfl rfl (fun hc => ?_) (fun hc => ?_)
                    · rw [if_neg hc] at h
                      exact rM rfl rfl <| rY rfl rfl rfl <| ARun.qv (q_eql rfl rfl) rfl <| rE rfl rfl rfl <| ARun.qv (q_not_d rfl) rfl <| rN <| ATodo.stop <| ImpX.lq [] ⟨decide (¬ ((c6.toNat : Int) = (95 : Int))), h, rfl⟩ rfl rfl
                    · rw [if_pos hc] at h
                      exact rG rfl rfl rfl rfl <| rT rfl rfl rfl <| ARun.qv (q_not rfl) rfl <| rN <| ATodo.stop <| ImpX.lq [] ⟨!true, h, rfl⟩ rfl rfl
                  · rw [if_pos hc] at h
                    exact rG rfl rfl rfl rfl <| rT rfl rfl rfl <| rM rfl rfl <| rG rfl rfl rfl rfl <| rG rfl rfl rfl rfl <| rT rfl rfl rfl <| ARun.qv (q_not rfl) rfl <| rN <| ATodo.stop <| ImpX.lq [] ⟨!true, h, rfl⟩ rfl rfl
                · rw [if_neg hc] at h
                  refine rG rfl rfl rfl rfl <| rY rfl rfl rfl <| rE rfl rfl rfl <| rE rfl rfl rfl <| rM rfl rfl <| rY rfl rfl rfl <| rM rfl rfl <| rY rfl rfl rfl <| ARun.qv (q_eql rfl rfl) rfl <| rE rfl rfl rfl <| rM rfl rfl <| ARun.guard_df rfl rfl rfl (fun hc => ?_) (fun hc => ?_)
                  · rw [if_neg hc] at h
                    exact rM rfl rfl <| rY rfl rfl rfl <| ARun.qv (q_eql rfl rfl) rfl <| rE rfl rfl rfl <| ARun.qv (q_not_d rfl) rfl <| rN <| ATodo.stop <| ImpX.lq [] ⟨decide (¬ ((c6.toNat : Int) = (95 : Int))), h, rfl⟩ rfl rfl
                  · rw [if_pos hc] at h
                    exact rG rfl rfl rfl rfl <| rT rfl rfl rfl <| ARun.qv (q_not rfl) rfl <| rN <| ATodo.stop <| ImpX.lq [] ⟨!true, h, rfl⟩ rfl rfl
              · rw [if_pos hc] at h
                exact rG rfl rfl rfl rfl <| rG rfl rfl rfl rfl <| ARun.guard_und rfl rfl rfl <| ARun.guard_und rfl rfl rfl <| rG rfl rfl rfl rfl <| rT rfl rfl rfl <| rM rfl rfl <| rG rfl rfl rfl rfl <| rG rfl rfl rfl rfl <| rT rfl rfl rfl <| rM rfl rfl <| rG rfl rfl rfl rfl <| rG rfl rfl rfl rfl <| rT rfl rfl rfl <| ARun.qv (q_not rfl) rfl <| rN <| ATodo.stop <| ImpX.lq [] ⟨!true, h, rfl⟩ rfl rfl
            · rw [if_neg hc] at h
              refine rG rfl rfl rfl rfl <| rE rfl rfl rfl <| rM rfl rfl <| rY rfl rfl rfl <| rM rfl rfl <| rY rfl rfl rfl <| ARun.qv (q_geq rfl rfl) rfl <| rY rfl rfl rfl <| rM rfl rfl <| ARun.guard_dt rfl rfl rfl (fun hc => ?_) (fun hc => ?_)
              · rw [if_pos hc] at h
                refine rM rfl rfl <| rY rfl rfl rfl <| ARun.qv (q_leq rfl rfl) rfl <| rY rfl rfl rfl <| rT rfl rfl rfl <| rE rfl rfl rfl <| rM rfl rfl <| ARun.guard_df rfl rfl rfl (fun hc => ?_) (fun hc => ?_)
                · rw [if_neg hc] at h
                  refine rM rfl rfl <| rY rfl rfl rfl <| ARun.qv (q_eql rfl rfl) rfl <| rE rfl rfl rfl <| rM rfl rfl <| ARun.guard_df rfl rfl rfl (fun hc => ?_) (fun hc => ?_)
                  · rw [if_neg hc] at h
                    exact rM rfl rfl <| rY rfl rfl rfl <| ARun.qv (q_eql rfl rfl) rfl <| rE rfl rfl rfl <| ARun.qv (q_not_d rfl) rfl <| rN <| ATodo.stop <| ImpX.lq [] ⟨decide (¬ ((c6.toNat : Int) = (95 : Int))), h, rfl⟩ rfl rfl
                  · rw [if_pos hc] at h
                    exact rG rfl rfl rfl rfl <| rT rfl rfl rfl <| ARun.qv (q_not rfl) rfl <| rN <| ATodo.stop <| ImpX.lq [] ⟨!true, h, rfl⟩ rfl rfl
                · rw [if_pos hc] at h
                  exact rG rfl rfl rfl rfl <| rT rfl rfl rfl <| rM rfl rfl <| rG rfl rfl rfl rfl <| rG rfl rfl rfl rfl <| rT rfl rfl rfl <| ARun.qv (q_not rfl) rfl <| rN <| ATodo.stop <| ImpX.lq [] ⟨!true, h, rfl⟩ rfl rfl
              · rw [if_neg hc] at h
                refine rG rfl rfl rfl rfl <| rY rfl rfl rfl <| rE rfl rfl rfl <| rE rfl rfl rfl <| rM rfl rfl <| rY rfl rfl rfl <| rM rfl rfl <| rY rfl rfl rfl <| ARun.qv (q_eql rfl rfl) rfl <| rE rfl rfl rfl <| rM rfl rfl <| ARun.guard_df rfl rfl rfl (fun hc => ?_) (fun hc => ?_)
                · rw [if_neg hc] at h
                  exact rM rfl rfl <| rY rfl rfl rfl <| ARun.qv (q_eql rfl rfl) rfl <| rE rfl rfl rfl <| ARun.qv (q_not_d rfl) rfl <| rN <| ATodo.stop <| ImpX.lq [] ⟨decide (¬ ((c6.toNat : Int) = (95 : Int))), h, rfl⟩ rfl rfl
                · rw [if_pos hc] at h
                  exact rG rfl rfl rfl rfl <| rT rfl rfl rfl <| ARun.qv (q_not rfl) rfl <| rN <| ATodo.stop <| ImpX.lq [] ⟨!true, h, rfl⟩ rfl rfl
          · rintro σ' ⟨c7, h, rfl⟩
            unfold base_Key_j2 at h
            refine ATodo.cond rfl (fun hc => ?_) (fun hc => ?_)
            · refine have h := iteT hc h; tSR <| rA rfl rfl <| rN <| ATodo.ret <| have h := outL h hA1; ?_
              obtain rfl := Option.some.inj h
              exact ImpX.here ⟨_, .cons (.tmp _ _ rfl) .nil, rfl⟩
            · refine have h := iteFb hc h; tK <| ATodo.blk <| tR <| ARun.qv (q_addw rfl rfl) rfl <| rM rfl rfl <| rN <| ATodo.stop <| ?_
              obtain rfl := Option.some.inj h
              exact hJ1 _ _ rfl <| ImpX.lq [] rfl rfl rfl
        · refine have h := iteF hc h; ATodo.exit rfl <| have h := outL h hA1; tSR <| rA rfl rfl <| rN <| ATodo.ret <| ?_
          obtain rfl := Option.some.inj h
          exact ImpX.here ⟨_, .cons (.tmp _ _ rfl) .nil, rfl⟩

set_option maxHeartbeats 4000000 in
theorem place_side_c [GI : GTab] {p0x0 : Spot} {p1x0 : Spot} {p2x0 : Spot} {r : Int} (h : place_side p0x0 p1x0 p2x0 = r) : Pu Tryd.prog 79 [.agg [I p0x0.X, I p0x0.Y], .agg [I p1x0.X, I p1x0.Y], .agg [I p2x0.X, I p2x0.Y]] (I r) := by
  unfold place_side at h
  refine ACall.bodyN Tryd.func79 rfl Tryd.ntmps79 Tryd.results79 rfl rfl ?_
  refine tSR <| n_box rfl rfl rfl rfl fun b1 => n_box rfl rfl rfl rfl fun b2 => n_box rfl rfl rfl rfl fun b3 => rA rfl rfl <| rN <| tSR <| rF rfl rfl rfl <| rL rfl rfl .p1 rfl rfl <| rF rfl rfl rfl <| rL rfl rfl .p2 rfl rfl <| ARun.qv (q_subw rfl rfl) rfl <| rF rfl rfl rfl <| rL rfl rfl .p0 rfl rfl <| rF rfl rfl rfl <| rL rfl rfl .p2 rfl rfl <| ARun.qv (q_subw rfl rfl) rfl <| ARun.qv (q_mulw rfl rfl) rfl <| rF rfl rfl rfl <| rL rfl rfl .p1 rfl rfl <| rF rfl rfl rfl <| rL rfl rfl .p2 rfl rfl <| ARun.qv (q_subw rfl rfl) rfl <| rF rfl rfl rfl <| rL rfl rfl .p0 rfl rfl <| rF rfl rfl rfl <| rL rfl rfl .p2 rfl rfl <| ARun.qv (q_subw rfl rfl) rfl <| ARun.qv (q_mulw rfl rfl) rfl <| ARun.qv (q_subw rfl rfl) rfl <| rA rfl rfl <| rN <| ATodo.ret <| ?_
  obtain rfl := h
  exact ImpX.here ⟨_, .cons (.tmp _ _ rfl) .nil, rfl⟩

set_option maxHeartbeats 4000000 in
theorem place_on_c [GI : GTab] {p0x0 : Spot} {p1x0 : Spot} {p2x0 : Spot} {r : Bool} (h : place_on p0x0 p1x0 p2x0 = r) : Pu Tryd.prog 65 [.agg [I p0x0.X, I p0x0.Y], .agg [I p1x0.X, I p1x0.Y], .agg [I p2x0.X, I p2x0.Y]] (.bool r) := by
  unfold place_on at h
  refine ACall.bodyN Tryd.func65 rfl Tryd.ntmps65 Tryd.results65 rfl rfl ?_
  refine tSR <| n_box rfl rfl rfl rfl fun b1 => n_box rfl rfl rfl rfl fun b2 => n_box rfl rfl rfl rfl fun b3 => rA rfl rfl <| rN <| tS <| ATodo.cut (fun σ' => ∃ (c4 : Bool), place_on_j1 c4 = r ∧ σ' = ⟨52, [(6, .bool c4)], []⟩) ?_ ?_
  · refine tR <| ARun.qv (q_load_ptr_all rfl rfl .p2 rfl) rfl <| ARun.qv (q_load_ptr_all rfl rfl .p1 rfl) rfl <| ARun.qv (q_load_ptr_all rfl rfl .p0 rfl) rfl <| r_callp rfl (place_side_c rfl) (CoL.refl _) rfl <| ARun.qv (q_eql rfl rfl) rfl <| rM rfl rfl <| ARun.guard_dt rfl rfl rfl (fun hc => ?_) (fun hc => ?_)
    · rw [andTd hc] at h
      refine rF rfl rfl rfl <| rY rfl rfl rfl <| rL rfl rfl .p0 rfl rfl <| rY rfl rfl rfl <| rF rfl rfl rfl <| rY rfl rfl rfl <| rL rfl rfl .p2 rfl rfl <| rY rfl rfl rfl <| rF rfl rfl rfl <| rY rfl rfl rfl <| rL rfl rfl .p1 rfl rfl <| rY rfl rfl rfl <| ARun.qv (q_min rfl rfl) rfl <| rY rfl rfl rfl <| ARun.qv (q_geq rfl rfl) rfl <| rT rfl rfl rfl <| rM rfl rfl <| ARun.guard_dt rfl rfl rfl (fun hc => ?_) (fun hc => ?_)
      · rw [andTd hc] at h
        refine rF rfl rfl rfl <| rY rfl rfl rfl <| rL rfl rfl .p0 rfl rfl <| rY rfl rfl rfl <| rF rfl rfl rfl <| rY rfl rfl rfl <| rL rfl rfl .p2 rfl rfl <| rY rfl rfl rfl <| rF rfl rfl rfl <| rY rfl rfl rfl <| rL rfl rfl .p1 rfl rfl <| rY rfl rfl rfl <| ARun.qv (q_max rfl rfl) rfl <| rY rfl rfl rfl <| ARun.qv (q_leq rfl rfl) rfl <| rT rfl rfl rfl <| rM rfl rfl <| ARun.guard_dt rfl rfl rfl (fun hc => ?_) (fun hc => ?_)
        · rw [andTd hc] at h
          refine rF rfl rfl rfl <| rY rfl rfl rfl <| rL rfl rfl .p0 rfl rfl <| rY rfl rfl rfl <| rF rfl rfl rfl <| rY rfl rfl rfl <| rL rfl rfl .p2 rfl rfl <| rY rfl rfl rfl <| rF rfl rfl rfl <| rY rfl rfl rfl <| rL rfl rfl .p1 rfl rfl <| rY rfl rfl rfl <| ARun.qv (q_min rfl rfl) rfl <| rY rfl rfl rfl <| ARun.qv (q_geq rfl rfl) rfl <| rT rfl rfl rfl <| rM rfl rfl <| ARun.guard_dt rfl rfl rfl (fun hc => ?_) (fun hc => ?_)
          · rw [andTd hc] at h
            exact rF rfl rfl rfl <| rY rfl rfl rfl <| rL rfl rfl .p0 rfl rfl <| rY rfl rfl rfl <| rF rfl rfl rfl <| rY rfl rfl rfl <| rL rfl rfl .p2 rfl rfl <| rY rfl rfl rfl <| rF rfl rfl rfl <| rY rfl rfl rfl <| rL rfl rfl .p1 rfl rfl <| rY rfl rfl rfl <| ARun.qv (q_max rfl rfl) rfl <| rY rfl rfl rfl <| ARun.qv (q_leq rfl rfl) rfl <| rT rfl rfl rfl <| rA rfl rfl <| rN <| ATodo.stop <| ImpX.lq [] ⟨decide (p2x0.Y ≤ (max p0x0.Y p1x0.Y)), h, rfl⟩ rfl rfl
          · rw [andFd hc] at h
            exact rG rfl rfl rfl rfl <| rG rfl rfl rfl rfl <| rG rfl rfl rfl rfl <| rG rfl rfl rfl rfl <| rG rfl rfl rfl rfl <| rG rfl rfl rfl rfl <| rG rfl rfl rfl rfl <| rE rfl rfl rfl <| rA rfl rfl <| rN <| ATodo.stop <| ImpX.lq [] ⟨false, h, rfl⟩ rfl rfl
        · rw [andFd hc] at h
          exact rG rfl rfl rfl rfl <| rG rfl rfl rfl rfl <| rG rfl rfl rfl rfl <| rG rfl rfl rfl rfl <| rG rfl rfl rfl rfl <| rG rfl rfl rfl rfl <| rG rfl rfl rfl rfl <| rE rfl rfl rfl <| rM rfl rfl <| rG rfl rfl rfl rfl <| rG rfl rfl rfl rfl <| rG rfl rfl rfl rfl <| rG rfl rfl rfl rfl <| rG rfl rfl rfl rfl <| rG rfl rfl rfl rfl <| rG rfl rfl rfl rfl <| rG rfl rfl rfl rfl <| rE rfl rfl rfl <| rA rfl rfl <| rN <| ATodo.stop <| ImpX.lq [] ⟨false, h, rfl⟩ rfl rfl
      · rw [andFd hc] at h
        exact rG rfl rfl rfl rfl <| rG rfl rfl rfl rfl <| rG rfl rfl rfl rfl <| rG rfl rfl rfl rfl <| rG rfl rfl rfl rfl <| rG rfl rfl rfl rfl <| rG rfl rfl rfl rfl <| rE rfl rfl rfl <| rM rfl rfl <| rG rfl rfl rfl rfl <| rG rfl rfl rfl rfl <| rG rfl rfl rfl rfl <| rG rfl rfl rfl rfl <| rG rfl rfl rfl rfl <| rG rfl rfl rfl rfl <| rG rfl rfl rfl rfl <| rG rfl rfl rfl rfl <| rE rfl rfl rfl <| rM rfl rfl <| rG rfl rfl rfl rfl <| rG rfl rfl rfl rfl <| rG rfl rfl rfl rfl <| rG rfl rfl rfl rfl <| rG rfl rfl rfl rfl <| rG rfl rfl rfl rfl <| rG rfl rfl rfl rfl <| rG rfl rfl rfl rfl <| rE rfl rfl rfl <| rA rfl rfl <| rN <| ATodo.stop <| ImpX.lq [] ⟨false, h, rfl⟩ rfl rfl
    · rw [andFd hc] at h
      exact rG rfl rfl rfl rfl <| rG rfl rfl rfl rfl <| rG rfl rfl rfl rfl <| rG rfl rfl rfl rfl <| rG rfl rfl rfl rfl <| rG rfl rfl rfl rfl <| rG rfl rfl rfl rfl <| rE rfl rfl rfl <| rM rfl rfl <| rG rfl rfl rfl rfl <| rG rfl rfl rfl rfl <| rG rfl rfl rfl rfl <| rG rfl rfl rfl rfl <| rG rfl rfl rfl rfl <| rG rfl rfl rfl rfl <| rG rfl rfl rfl rfl <| rG rfl rfl rfl rfl <| rE rfl rfl rfl <| rM rfl rfl <| rG rfl rfl rfl rfl <| rG rfl rfl rfl rfl <| rG rfl rfl rfl rfl <| rG rfl rfl rfl rfl <| rG rfl rfl rfl rfl <| rG rfl rfl rfl rfl <| rG rfl rfl rfl rfl <| rG rfl rfl rfl rfl <| rE rfl rfl rfl <| rM rfl rfl <| rG rfl rfl rfl rfl <| rG rfl rfl rfl rfl <| rG rfl rfl rfl rfl <| rG rfl rfl rfl rfl <| rG rfl rfl rfl rfl <| rG rfl rfl rfl rfl <| rG rfl rfl rfl rfl <| rG rfl rfl rfl rfl <| rE rfl rfl rfl <| rA rfl rfl <| rN <| ATodo.stop <| ImpX.lq [] ⟨false, h, rfl⟩ rfl rfl
  · rintro σ' ⟨c4, h, rfl⟩
    unfold place_on_j1 at h
    refine ATodo.ret <| ?_
    obtain rfl := h
    exact ImpX.here ⟨_, .cons (.tmp _ _ rfl) .nil, rfl⟩

set_option maxHeartbeats 4000000 in
theorem cmp_isNaN_int_c [GI : GTab] {p0x0 : Int} {r : Bool} (h : cmp_isNaN_int p0x0 = r) : Pu Tryd.prog 92 [I p0x0] (.bool r) := by
  unfold cmp_isNaN_int at h
  refine ACall.bodyN Tryd.func92 rfl Tryd.ntmps92 Tryd.results92 rfl rfl ?_
  refine tSR <| rA rfl rfl <| rN <| tSR <| rM rfl rfl <| rM rfl rfl <| ARun.qv (q_neq rfl rfl) rfl <| rA rfl rfl <| rN <| ATodo.ret <| ?_
  obtain rfl := h
  exact ImpX.here ⟨_, .cons (.tmp _ _ rfl) .nil, rfl⟩

set_option maxHeartbeats 4000000 in
theorem cmp_Compare_int_c [GI : GTab] {p0x0 : Int} {p1x0 : Int} {r : Int} (h : cmp_Compare_int p0x0 p1x0 = r) : Pu Tryd.prog 78 [I p0x0, I p1x0] (I r) := by
  unfold cmp_Compare_int at h
  refine ACall.bodyN Tryd.func78 rfl Tryd.ntmps78 Tryd.results78 rfl rfl ?_
  refine tSR <| rA rfl rfl <| rN <| tSR <| rM rfl rfl <| r_callp rfl (cmp_isNaN_int_c rfl) (CoL.refl _) rfl <| rA rfl rfl <| rN <| tSR <| rM rfl rfl <| r_callp rfl (cmp_isNaN_int_c rfl) (CoL.refl _) rfl <| rA rfl rfl <| rN <| tS <| tSR <| rM rfl rfl <| rN <| ATodo.cond rfl (fun hc => ?_) (fun hc => ?_)
  · refine have h := iteT hc h; tS <| tSR <| rM rfl rfl <| rN <| ATodo.cond rfl (fun hc => ?_) (fun hc => ?_)
    · refine have h := iteT hc h; tSR <| rA rfl rfl <| rN <| ATodo.ret <| ?_
      obtain rfl := h
      exact ImpX.here ⟨_, .cons (.tmp _ _ rfl) .nil, rfl⟩
    · refine have h := iteFb hc h; tK <| tSR <| rA rfl rfl <| rN <| ATodo.ret <| ?_
      obtain rfl := h
      exact ImpX.here ⟨_, .cons (.tmp _ _ rfl) .nil, rfl⟩
  · refine have h := iteFb hc h; tK <| tS <| tSR <| rM rfl rfl <| rN <| ATodo.cond rfl (fun hc => ?_) (fun hc => ?_)
    · refine have h := iteT hc h; tSR <| rA rfl rfl <| rN <| ATodo.ret <| ?_
      obtain rfl := h
      exact ImpX.here ⟨_, .cons (.tmp _ _ rfl) .nil, rfl⟩
    · refine have h := iteFb hc h; tK <| tS <| tSR <| rM rfl rfl <| rM rfl rfl <| ARun.qv (q_lss rfl rfl) rfl <| rN <| ATodo.cond_d rfl (fun hc => ?_) (fun hc => ?_)
      · refine have h := iteT hc h; tSR <| rA rfl rfl <| rN <| ATodo.ret <| ?_
        obtain rfl := h
        exact ImpX.here ⟨_, .cons (.tmp _ _ rfl) .nil, rfl⟩
      · refine have h := iteF hc h; tK <| tS <| tSR <| rM rfl rfl <| rM rfl rfl <| ARun.qv (q_gtr rfl rfl) rfl <| rN <| ATodo.cond_d rfl (fun hc => ?_) (fun hc => ?_)
        · refine have h := iteT hc h; tSR <| rA rfl rfl <| rN <| ATodo.ret <| ?_
          obtain rfl := h
          exact ImpX.here ⟨_, .cons (.tmp _ _ rfl) .nil, rfl⟩
        · refine have h := iteF hc h; tK <| tSR <| rA rfl rfl <| rN <| ATodo.ret <| ?_
          obtain rfl := h
          exact ImpX.here ⟨_, .cons (.tmp _ _ rfl) .nil, rfl⟩

set_option maxHeartbeats 4000000 in
theorem place_meets_c [GI : GTab] {p0x0 : Spot} {p1x0 : Spot} {p2x0 : Spot} {p3x0 : Spot} {r : Bool} (h : place_meets p0x0 p1x0 p2x0 p3x0 = r) : Pu Tryd.prog 64 [.agg [I p0x0.X, I p0x0.Y], .agg [I p1x0.X, I p1x0.Y], .agg [I p2x0.X, I p2x0.Y], .agg [I p3x0.X, I p3x0.Y]] (.bool r) := by
  unfold place_meets at h
  refine ACall.bodyN Tryd.func64 rfl Tryd.ntmps64 Tryd.results64 rfl rfl ?_
  refine tSR <| n_box rfl rfl rfl rfl fun b1 => n_box rfl rfl rfl rfl fun b2 => n_box rfl rfl rfl rfl fun b3 => n_box rfl rfl rfl rfl fun b4 => rA rfl rfl <| rN <| tS <| tS <| ATodo.cut (fun σ' => ∃ (c5 : Bool), place_meets_j1 p0x0 p1x0 p2x0 p3x0 c5 = r ∧ σ' = ⟨65, [(4, .ptr b1 0), (5, .ptr b2 0), (6, .ptr b3 0), (7, .ptr b4 0), (34, .bool c5)], [(b1, .cells [I p0x0.X, I p0x0.Y]), (b2, .cells [I p1x0.X, I p1x0.Y]), (b3, .cells [I p2x0.X, I p2x0.Y]), (b4, .cells [I p3x0.X, I p3x0.Y])]⟩) ?_ ?_
  · refine tR <| ARun.qv (q_load_ptr_all rfl rfl .p3 rfl) rfl <| ARun.qv (q_load_ptr_all rfl rfl .p2 rfl) rfl <| ARun.qv (q_load_ptr_all rfl rfl .p1 rfl) rfl <| r_callp rfl (place_on_c rfl) (CoL.refl _) rfl <| rM rfl rfl <| ARun.guard rfl rfl rfl (fun hc => ?_) (fun hc => ?_)
    · rw [orFb hc] at h
      refine ARun.qv (q_load_ptr_all rfl rfl .p3 rfl) rfl <| rY rfl rfl rfl <| ARun.qv (q_load_ptr_all rfl rfl .p2 rfl) rfl <| rY rfl rfl rfl <| ARun.qv (q_load_ptr_all rfl rfl .p0 rfl) rfl <| rY rfl rfl rfl <| r_callp rfl (place_on_c rfl) (CoL.refl _) rfl <| rE rfl rfl rfl <| rM rfl rfl <| ARun.guard rfl rfl rfl (fun hc => ?_) (fun hc => ?_)
      · rw [orFb hc] at h
        refine ARun.qv (q_load_ptr_all rfl rfl .p1 rfl) rfl <| rY rfl rfl rfl <| ARun.qv (q_load_ptr_all rfl rfl .p0 rfl) rfl <| rY rfl rfl rfl <| ARun.qv (q_load_ptr_all rfl rfl .p3 rfl) rfl <| rY rfl rfl rfl <| r_callp rfl (place_on_c rfl) (CoL.refl _) rfl <| rE rfl rfl rfl <| rM rfl rfl <| ARun.guard rfl rfl rfl (fun hc => ?_) (fun hc => ?_)
        · rw [orFb hc] at h
          exact ARun.qv (q_load_ptr_all rfl rfl .p1 rfl) rfl <| rY rfl rfl rfl <| ARun.qv (q_load_ptr_all rfl rfl .p0 rfl) rfl <| rY rfl rfl rfl <| ARun.qv (q_load_ptr_all rfl rfl .p2 rfl) rfl <| rY rfl rfl rfl <| r_callp rfl (place_on_c rfl) (CoL.refl _) rfl <| rE rfl rfl rfl <| rN <| ATodo.stop <| ImpX.lq [3, 2, 1, 0] ⟨(place_on p2x0 p3x0 p1x0), h, rfl⟩ rfl rfl
        · rw [orTb hc] at h
          exact rG rfl rfl rfl rfl <| rG rfl rfl rfl rfl <| rG rfl rfl rfl rfl <| rT rfl rfl rfl <| rN <| ATodo.stop <| ImpX.lq [3, 2, 1, 0] ⟨true, h, rfl⟩ rfl rfl
      · rw [orTb hc] at h
        exact rG rfl rfl rfl rfl <| rG rfl rfl rfl rfl <| rG rfl rfl rfl rfl <| rT rfl rfl rfl <| rM rfl rfl <| rG rfl rfl rfl rfl <| rG rfl rfl rfl rfl <| rG rfl rfl rfl rfl <| rG rfl rfl rfl rfl <| rT rfl rfl rfl <| rN <| ATodo.stop <| ImpX.lq [3, 2, 1, 0] ⟨true, h, rfl⟩ rfl rfl
    · rw [orTb hc] at h
      exact rG rfl rfl rfl rfl <| rG rfl rfl rfl rfl <| rG rfl rfl rfl rfl <| rT rfl rfl rfl <| rM rfl rfl <| rG rfl rfl rfl rfl <| rG rfl rfl rfl rfl <| rG rfl rfl rfl rfl <| rG rfl rfl rfl rfl <| rT rfl rfl rfl <| rM rfl rfl <| rG rfl rfl rfl rfl <| rG rfl rfl rfl rfl <| rG rfl rfl rfl rfl <| rG rfl rfl rfl rfl <| rT rfl rfl rfl <| rN <| ATodo.stop <| ImpX.lq [3, 2, 1, 0] ⟨true, h, rfl⟩ rfl rfl
  · rintro σ' ⟨c5, h, rfl⟩
    unfold place_meets_j1 at h
    refine ATodo.cond rfl (fun hc => ?_) (fun hc => ?_)
    · refine have h := iteT hc h; tSR <| rA rfl rfl <| rN <| ATodo.ret <| ?_
      obtain rfl := h
      exact ImpX.here ⟨_, .cons (.tmp _ _ rfl) .nil, rfl⟩
    · refine have h := iteFb hc h; tK <| tS <| ATodo.regionM (id := 3) (A := [0, 0, 0, 7, 15, 0, 0, 0, 255, 511, 0, 0, 0, 8191, 16383, 0, 0, 0, 262143, 524287, 1048575, 2097151, 4194303, 8388607]) 24 mixed rfl (by kernel_rfl) (by kernel_rfl) <| AM.qv (q_load_ptr_all rfl rfl .p0 rfl) rfl <| AM.qv (q_load_ptr_all rfl rfl .p1 rfl) rfl <| AM.qv (q_load_ptr_all rfl rfl .p2 rfl) rfl <| AM.callp rfl (place_side_c rfl) (CoL.refl _) rfl <| AM.callp rfl (cmp_Compare_int_c rfl) (CoL.refl _) rfl <| AM.qv (q_load_ptr_all rfl rfl .p0 rfl) rfl <| AM.qv (q_load_ptr_all rfl rfl .p1 rfl) rfl <| AM.qv (q_load_ptr_all rfl rfl .p3 rfl) rfl <| AM.callp rfl (place_side_c rfl) (CoL.refl _) rfl <| AM.callp rfl (cmp_Compare_int_c rfl) (CoL.refl _) rfl <| AM.qv (q_load_ptr_all rfl rfl .p2 rfl) rfl <| AM.qv (q_load_ptr_all rfl rfl .p3 rfl) rfl <| AM.qv (q_load_ptr_all rfl rfl .p0 rfl) rfl <| AM.callp rfl (place_side_c rfl) (CoL.refl _) rfl <| AM.callp rfl (cmp_Compare_int_c rfl) (CoL.refl _) rfl <| AM.qv (q_load_ptr_all rfl rfl .p2 rfl) rfl <| AM.qv (q_load_ptr_all rfl rfl .p3 rfl) rfl <| AM.qv (q_load_ptr_all rfl rfl .p1 rfl) rfl <| AM.callp rfl (place_side_c rfl) (CoL.refl _) rfl <| AM.callp rfl (cmp_Compare_int_c rfl) (CoL.refl _) rfl <| AM.qv (q_assign rfl) rfl <| AM.qv (q_assign rfl) rfl <| AM.qv (q_assign rfl) rfl <| AM.qv (q_assign rfl) rfl <| AM.nil <| rN <| tS <| ATodo.cut (fun σ' => ∃ (c6 : Bool), place_meets_j2 c6 = r ∧ σ' = ⟨65, [(8, .bool c6)], []⟩) ?_ ?_
      · refine tR <| rM rfl rfl <| rM rfl rfl <| ARun.qv (q_mulw rfl rfl) rfl <| ARun.qv (q_lss rfl rfl) rfl <| rM rfl rfl <| ARun.guard_dt rfl rfl rfl (fun hc => ?_) (fun hc => ?_)
        · rw [andTd hc] at h
          exact rM rfl rfl <| rY rfl rfl rfl <| rM rfl rfl <| rY rfl rfl rfl <| ARun.qv (q_mulw rfl rfl) rfl <| rY rfl rfl rfl <| ARun.qv (q_lss rfl rfl) rfl <| rT rfl rfl rfl <| rA rfl rfl <| rN <| ATodo.stop <| ImpX.lq [] ⟨decide ((w64 ((cmp_Compare_int (place_side p2x0 p3x0 p0x0) (0 : Int)) * (cmp_Compare_int (place_side p2x0 p3x0 p1x0) (0 : Int)))) < (0 : Int)), h, rfl⟩ rfl rfl
        · rw [andFd hc] at h
          exact rG rfl rfl rfl rfl <| rG rfl rfl rfl rfl <| rG rfl rfl rfl rfl <| rE rfl rfl rfl <| rA rfl rfl <| rN <| ATodo.stop <| ImpX.lq [] ⟨false, h, rfl⟩ rfl rfl
      · rintro σ' ⟨c6, h, rfl⟩
        unfold place_meets_j2 at h
        refine ATodo.ret <| ?_
        obtain rfl := h
        exact ImpX.here ⟨_, .cons (.tmp _ _ rfl) .nil, rfl⟩

set_option maxHeartbeats 4000000 in
theorem place_crossed_c [GI : GTab] {p0x0 : List Spot} {r : Bool} (h : place_crossed p0x0 = some r) : Pu Tryd.prog 51 [.list 2 (p0x0.map Spot.av)] (.bool r) := by
  unfold place_crossed at h
  refine ACall.bodyN Tryd.func51 rfl Tryd.ntmps51 Tryd.results51 rfl rfl ?_
  refine tSR <| rA rfl rfl <| rN <| tSR <| rM rfl rfl <| ARun.qv (t_len rfl) rfl <| rA rfl rfl <| rN <| tS <| tSR <| rM rfl rfl <| ARun.qv (t_len rfl) rfl <| rM rfl rfl <| rN <| ATodo.block <| ATodo.loopI (fun x : Int => place_crossed_b1 p0x0 x) (fun x σ' => σ' = ⟨99, [(0, .list 2 (p0x0.map Spot.av)), (3, I (p0x0.length : Int)), (14, .list 2 (p0x0.map Spot.av)), (15, I (p0x0.length : Int)), (16, I x)], []⟩) h ?_ ?_
  · exact ImpX.lq [] rfl rfl rfl
  · intro n2 z1 σ' J1 hmk h hJ1 hA1
    obtain rfl := hmk
    replace h : place_crossed_b1 p0x0 n2 = some z1 := h
    unfold place_crossed_b1 at h
    refine tSR <| ARun.qv (q_lss rfl rfl) rfl <| rN <| tS <| ATodo.cond_d rfl (fun hc => ?_) (fun hc => ?_)
    · refine have h := iteT hc h; tK <| tS <| ATodo.block <| tSR <| rM rfl rfl <| bndE h fun v3 e1 h => ARun.qv (t_index rfl rfl rfl e1 rfl rfl) rfl <| ARun.qv (q_load_rptr_agg rfl rfl rfl) rfl <| n_alloc rfl rfl rfl rfl fun b4 => rA rfl rfl <| n_store_ptr rfl rfl rfl rfl .p0 rfl rfl <| rN <| tSR <| rM rfl rfl <| rM rfl rfl <| ARun.qv (q_addw rfl rfl) rfl <| rM rfl rfl <| bndE h fun n5 e2 h => ARun.qv (t_remS rfl rfl e2) rfl <| bndE h fun v6 e3 h => ARun.qv (t_index rfl rfl rfl e3 rfl rfl) rfl <| ARun.qv (q_load_rptr_agg rfl rfl rfl) rfl <| n_alloc rfl rfl rfl rfl fun b7 => n_store_ptr rfl rfl rfl rfl .p0 rfl rfl <| rN <| tSR <| rM rfl rfl <| ARun.qv (q_addw rfl rfl) rfl <| rA rfl rfl <| rN <| ATodo.block <| ATodo.loopI (fun x : Int => place_crossed_b2 p0x0 n2 v3 v6 x) (fun x σ' => σ' = ⟨99, [(0, .list 2 (p0x0.map Spot.av)), (3, I (p0x0.length : Int)), (4, I n2), (5, .ptr b4 0), (6, .ptr b7 0), (7, I x), (14, .list 2 (p0x0.map Spot.av)), (15, I (p0x0.length : Int)), (16, I n2)], [(b4, .cells [I v3.X, I v3.Y]), (b7, .cells [I v6.X, I v6.Y])]⟩) h ?_ ?_
      · exact ImpX.lq [1, 0] rfl rfl rfl
      · intro n9 z2 σ' J2 hmk h hJ2 hA2
        obtain rfl := hmk
        replace h : place_crossed_b2 p0x0 n2 v3 v6 n9 = some z2 := h
        unfold place_crossed_b2 at h
        refine tS <| tSR <| rM rfl rfl <| rM rfl rfl <| ARun.qv (q_lss rfl rfl) rfl <| rN <| ATodo.cond_d rfl (fun hc => ?_) (fun hc => ?_)
        · refine have h := iteT hc h; tK <| tS <| ATodo.block <| tS <| bndE h fun v10 e4 h => bndE h fun n11 e5 h => bndE h fun v12 e6 h => ATodo.regionT (id := 9) (A := [0, 0, 3, 7, 0, 0, 32, 0, 224, 496, 1008, 0, 0, 6159, 16383]) (H0 := []) (HH := fun β => [((β 12), .cells [I (0 : Int), I (0 : Int)]), ((β 11), .cells [I v10.X, I v10.Y]), (b4, .cells [I v3.X, I v3.Y]), (b7, .cells [I v6.X, I v6.Y])]) 14 mixed rfl (by kernel_rfl) (by kernel_rfl) [⟨some 11, some 13, [], fun b => (b, .cells [I (0 : Int), I (0 : Int)]), none⟩, ⟨some 12, none, [], fun b => (b, .cells [I (0 : Int), I (0 : Int)]), none⟩, ⟨some 13, none, [], fun b => (b, .cells [I v10.X, I v10.Y]), some 11⟩] [11, 12] rfl (by kernel_rfl) rfl .nil (fun _ => rfl) <| AT.am 11 rfl rfl <| AM.qv (q_move rfl) rfl <| AM.qv (q_move rfl) rfl <| AM.qv (t_index rfl rfl rfl e4 rfl rfl) rfl <| AM.qv (q_load_rptr_agg rfl rfl rfl) rfl <| AM.qv (q_move rfl) rfl <| AM.qv (q_move rfl) rfl <| AM.qv (q_addw rfl rfl) rfl <| AM.qv (q_move rfl) rfl <| AM.qv (t_remS rfl rfl e5) rfl <| AM.qv (t_index rfl rfl rfl e6 rfl rfl) rfl <| AM.qv (q_load_rptr_agg rfl rfl rfl) rfl <| AM.nil <| AT.runD (V := fun b => .ptr b 0) (Ti := []) (Pi := fun b => [(b, .cells [I (0 : Int), I (0 : Int)])]) (fun _ => rfl) (fun _ => rfl) (fun _ _ => rfl) rfl (fun _ => rfl) rfl rfl rfl ?_ ?_
          · exact n_alloc rfl rfl rfl rfl fun b13 => ARun.nil ⟨b13, _, rfl, rfl⟩
          refine AT.runD (V := fun b => .ptr b 0) (Ti := []) (Pi := fun b => [(b, .cells [I (0 : Int), I (0 : Int)])]) (fun _ => rfl) (fun _ => rfl) (fun _ _ => rfl) rfl (fun _ => rfl) rfl rfl rfl ?_ ?_
          · exact n_alloc rfl rfl rfl rfl fun b14 => ARun.nil ⟨b14, _, rfl, rfl⟩
          refine AT.runN (Ti := fun β => [((β 11), .cells [I (0 : Int), I (0 : Int)])]) (Pi := fun β => [((β 11), .cells [I v10.X, I v10.Y])]) (fun _ => rfl) (fun _ => rfl) (fun _ _ => rfl) (fun _ => rfl) (fun _ => rfl) (fun β => ?_) ?_
          · generalize β 11 = b13
            exact n_store_ptr rfl rfl rfl rfl .p0 rfl rfl <| ARun.nil ⟨_, rfl⟩
          refine AT.nilN (fun _ => rfl) fun β => ?_
          generalize β 11 = b13
          generalize β 12 = b14
          clear β
          refine n_store_ptr rfl rfl rfl rfl .p0 rfl rfl <| rN <| tS <| ATodo.regionM (id := 10) (A := [0, 0, 2, 7, 0, 16, 0, 112, 0, 496, 15, 2047]) 12 mixed rfl (by kernel_rfl) (by kernel_rfl) <| AM.qv (q_move rfl) rfl <| AM.qv (q_move rfl) rfl <| AM.qv (q_addw rfl rfl) rfl <| AM.qv (q_eql rfl rfl) rfl <| AM.qv (q_move rfl) rfl <| AM.qv (q_addw rfl rfl) rfl <| AM.qv (q_move rfl) rfl <| bndE h fun n15 e7 h => AM.qv (t_remS rfl rfl e7) rfl <| AM.qv (q_move rfl) rfl <| AM.qv (q_eql rfl rfl) rfl <| AM.qv (q_assign rfl) rfl <| AM.qv (q_assign rfl) rfl <| AM.nil <| rN <| ATodo.block <| tS <| ATodo.cut (fun σ' => ∃ (c16 : Bool), place_crossed_j1 n2 v3 v6 n9 v10 v12 n15 c16 = some z2 ∧ σ' = ⟨99, [(0, .list 2 (p0x0.map Spot.av)), (3, I (p0x0.length : Int)), (4, I n2), (5, .ptr b4 0), (6, .ptr b7 0), (7, I n9), (8, .ptr b13 0), (9, .ptr b14 0), (10, .bool (decide (n9 = (w64 (n2 + (1 : Int)))))), (11, .bool (decide (n15 = n2))), (14, .list 2 (p0x0.map Spot.av)), (15, I (p0x0.length : Int)), (16, I n2), (56, .bool c16)], [(b4, .cells [I v3.X, I v3.Y]), (b7, .cells [I v6.X, I v6.Y]), (b13, .cells [I v10.X, I v10.Y]), (b14, .cells [I v12.X, I v12.Y])]⟩) ?_ ?_
          · refine tR <| rM rfl rfl <| ARun.qv (q_not_d rfl) rfl <| rM rfl rfl <| ARun.guard_dt rfl rfl rfl (fun hc => ?_) (fun hc => ?_)
            · rw [andTd hc] at h
              refine rM rfl rfl <| rY rfl rfl rfl <| ARun.qv (q_not_d rfl) rfl <| rT rfl rfl rfl <| rM rfl rfl <| ARun.guard_dt rfl rfl rfl (fun hc => ?_) (fun hc => ?_)
              · rw [andTd hc] at h
                exact ARun.qv (q_load_ptr_all rfl rfl .p2 rfl) rfl <| rY rfl rfl rfl <| ARun.qv (q_load_ptr_all rfl rfl .p3 rfl) rfl <| rY rfl rfl rfl <| ARun.qv (q_load_ptr_all rfl rfl .p1 rfl) rfl <| rY rfl rfl rfl <| ARun.qv (q_load_ptr_all rfl rfl .p0 rfl) rfl <| rY rfl rfl rfl <| r_callp rfl (place_meets_c rfl) (CoL.refl _) rfl <| rT rfl rfl rfl <| rA rfl rfl <| rN <| ATodo.stop <| ImpX.lq [2, 2, 1, 0] ⟨(place_meets v3 v6 v10 v12), h, rfl⟩ rfl rfl
              · rw [andFd hc] at h
                exact rG rfl rfl rfl rfl <| rG rfl rfl rfl rfl <| rG rfl rfl rfl rfl <| rG rfl rfl rfl rfl <| rE rfl rfl rfl <| rA rfl rfl <| rN <| ATodo.stop <| ImpX.lq [2, 2, 1, 0] ⟨false, h, rfl⟩ rfl rfl
            · rw [andFd hc] at h
              exact rG rfl rfl rfl rfl <| rE rfl rfl rfl <| rM rfl rfl <| rG rfl rfl rfl rfl <| rG rfl rfl rfl rfl <| rG rfl rfl rfl rfl <| rG rfl rfl rfl rfl <| rG rfl rfl rfl rfl <| rE rfl rfl rfl <| rA rfl rfl <| rN <| ATodo.stop <| ImpX.lq [2, 2, 1, 0] ⟨false, h, rfl⟩ rfl rfl
          · rintro σ' ⟨c16, h, rfl⟩
            unfold place_crossed_j1 at h
            refine ATodo.cond rfl (fun hc => ?_) (fun hc => ?_)
            · refine have h := iteT hc h; tSR <| rA rfl rfl <| rN <| ATodo.ret <| have h := outL h hA2; have h := outL h hA1; ?_
              obtain rfl := Option.some.inj h
              exact ImpX.here ⟨_, .cons (.tmp _ _ rfl) .nil, rfl⟩
            · refine have h := iteFb hc h; tS <| ATodo.cut (fun σ' => ∃ (c17 : Bool), place_crossed_j2 n2 v3 v6 n9 v10 v12 n15 c17 = some z2 ∧ σ' = ⟨99, [(0, .list 2 (p0x0.map Spot.av)), (3, I (p0x0.length : Int)), (4, I n2), (5, .ptr b4 0), (6, .ptr b7 0), (7, I n9), (8, .ptr b13 0), (9, .ptr b14 0), (11, .bool (decide (n15 = n2))), (14, .list 2 (p0x0.map Spot.av)), (15, I (p0x0.length : Int)), (16, I n2), (70, .bool c17)], [(b4, .cells [I v3.X, I v3.Y]), (b7, .cells [I v6.X, I v6.Y]), (b13, .cells [I v10.X, I v10.Y]), (b14, .cells [I v12.X, I v12.Y])]⟩) ?_ ?_
              · refine tR <| rM rfl rfl <| rM rfl rfl <| ARun.guard_dt rfl rfl rfl (fun hc => ?_) (fun hc => ?_)
                · rw [andTd hc] at h
                  refine ARun.qv (q_load_ptr_all rfl rfl .p0 rfl) rfl <| rY rfl rfl rfl <| ARun.qv (q_load_ptr_all rfl rfl .p1 rfl) rfl <| rY rfl rfl rfl <| ARun.qv (q_load_ptr_all rfl rfl .p3 rfl) rfl <| rY rfl rfl rfl <| r_callp rfl (place_on_c rfl) (CoL.refl _) rfl <| rY rfl rfl rfl <| rM rfl rfl <| ARun.guard rfl rfl rfl (fun hc => ?_) (fun hc => ?_)
                  · rw [orFb hc] at h
                    exact ARun.qv (q_load_ptr_all rfl rfl .p2 rfl) rfl <| rY rfl rfl rfl <| ARun.qv (q_load_ptr_all rfl rfl .p3 rfl) rfl <| rY rfl rfl rfl <| ARun.qv (q_load_ptr_all rfl rfl .p0 rfl) rfl <| rY rfl rfl rfl <| r_callp rfl (place_on_c rfl) (CoL.refl _) rfl <| rY rfl rfl rfl <| rE rfl rfl rfl <| rT rfl rfl rfl <| rA rfl rfl <| rN <| ATodo.stop <| ImpX.lq [0, 0, 0, 0] ⟨(place_on v10 v12 v3), h, rfl⟩ rfl rfl
                  · rw [orTb hc] at h
                    exact rG rfl rfl rfl rfl <| rG rfl rfl rfl rfl <| rG rfl rfl rfl rfl <| rY rfl rfl rfl <| rT rfl rfl rfl <| rT rfl rfl rfl <| rA rfl rfl <| rN <| ATodo.stop <| ImpX.lq [0, 0, 0, 0] ⟨true, h, rfl⟩ rfl rfl
                · rw [andFd hc] at h
                  exact rG rfl rfl rfl rfl <| rG rfl rfl rfl rfl <| rG rfl rfl rfl rfl <| rG rfl rfl rfl rfl <| ARun.guard_und rfl rfl rfl <| ARun.guard_und rfl rfl rfl <| ARun.guard_und rfl rfl rfl <| ARun.guard_und rfl rfl rfl <| rG rfl rfl rfl rfl <| rE rfl rfl rfl <| rA rfl rfl <| rN <| ATodo.stop <| ImpX.lq [0, 0, 0, 0] ⟨false, h, rfl⟩ rfl rfl
              · rintro σ' ⟨c17, h, rfl⟩
                unfold place_crossed_j2 at h
                refine ATodo.cond rfl (fun hc => ?_) (fun hc => ?_)
                · refine have h := iteT hc h; tSR <| rA rfl rfl <| rN <| ATodo.ret <| have h := outL h hA2; have h := outL h hA1; ?_
                  obtain rfl := Option.some.inj h
                  exact ImpX.here ⟨_, .cons (.tmp _ _ rfl) .nil, rfl⟩
                · refine have h := iteFb hc h; tS <| ATodo.cut (fun σ' => ∃ (c18 : Bool), place_crossed_j3 n9 c18 = some z2 ∧ σ' = ⟨99, [(0, .list 2 (p0x0.map Spot.av)), (3, I (p0x0.length : Int)), (4, I n2), (5, .ptr b4 0), (6, .ptr b7 0), (7, I n9), (14, .list 2 (p0x0.map Spot.av)), (15, I (p0x0.length : Int)), (16, I n2), (84, .bool c18)], [(b4, .cells [I v3.X, I v3.Y]), (b7, .cells [I v6.X, I v6.Y])]⟩) ?_ ?_
                  · refine tR <| rM rfl rfl <| rM rfl rfl <| ARun.guard_dt rfl rfl rfl (fun hc => ?_) (fun hc => ?_)
                    · rw [andTd hc] at h
                      refine ARun.qv (q_load_ptr_all rfl rfl .p0 rfl) rfl <| rY rfl rfl rfl <| ARun.qv (q_load_ptr_all rfl rfl .p1 rfl) rfl <| rY rfl rfl rfl <| ARun.qv (q_load_ptr_all rfl rfl .p2 rfl) rfl <| rY rfl rfl rfl <| r_callp rfl (place_on_c rfl) (CoL.refl _) rfl <| rY rfl rfl rfl <| rM rfl rfl <| ARun.guard rfl rfl rfl (fun hc => ?_) (fun hc => ?_)
                      · rw [orFb hc] at h
                        exact ARun.qv (q_load_ptr_all rfl rfl .p2 rfl) rfl <| rY rfl rfl rfl <| ARun.qv (q_load_ptr_all rfl rfl .p3 rfl) rfl <| rY rfl rfl rfl <| ARun.qv (q_load_ptr_all rfl rfl .p1 rfl) rfl <| rY rfl rfl rfl <| r_callp rfl (place_on_c rfl) (CoL.refl _) rfl <| rY rfl rfl rfl <| rE rfl rfl rfl <| rT rfl rfl rfl <| rA rfl rfl <| rN <| ATodo.stop <| ImpX.lq [0, 0] ⟨(place_on v10 v12 v6), h, rfl⟩ rfl rfl
                      · rw [orTb hc] at h
                        exact rG rfl rfl rfl rfl <| rG rfl rfl rfl rfl <| rG rfl rfl rfl rfl <| rY rfl rfl rfl <| rT rfl rfl rfl <| rT rfl rfl rfl <| rA rfl rfl <| rN <| ATodo.stop <| ImpX.lq [0, 0] ⟨true, h, rfl⟩ rfl rfl
                    · rw [andFd hc] at h
                      exact rG rfl rfl rfl rfl <| rG rfl rfl rfl rfl <| rG rfl rfl rfl rfl <| rG rfl rfl rfl rfl <| ARun.guard_und rfl rfl rfl <| ARun.guard_und rfl rfl rfl <| ARun.guard_und rfl rfl rfl <| ARun.guard_und rfl rfl rfl <| rG rfl rfl rfl rfl <| rE rfl rfl rfl <| rA rfl rfl <| rN <| ATodo.stop <| ImpX.lq [0, 0] ⟨false, h, rfl⟩ rfl rfl
                  · rintro σ' ⟨c18, h, rfl⟩
                    unfold place_crossed_j3 at h
                    refine ATodo.cond rfl (fun hc => ?_) (fun hc => ?_)
                    · refine have h := iteT hc h; tSR <| rA rfl rfl <| rN <| ATodo.ret <| have h := outL h hA2; have h := outL h hA1; ?_
                      obtain rfl := Option.some.inj h
                      exact ImpX.here ⟨_, .cons (.tmp _ _ rfl) .nil, rfl⟩
                    · refine have h := iteFb hc h; tK <| ATodo.blk <| ATodo.blk <| tR <| rM rfl rfl <| ARun.qv (q_addw rfl rfl) rfl <| rA rfl rfl <| rN <| ATodo.stop <| ?_
                      obtain rfl := Option.some.inj h
                      exact hJ2 _ _ rfl <| ImpX.lq [0, 0] rfl rfl rfl
        · refine have h := iteF hc h; ATodo.exit rfl <| have h := outL h hA2; ATodo.blk <| tR <| ARun.qv (q_addw rfl rfl) rfl <| rM rfl rfl <| rN <| ATodo.stop <| ?_
          obtain rfl := Option.some.inj h
          exact hJ1 _ _ rfl <| ImpX.lq [] rfl rfl rfl
    · refine have h := iteF hc h; ATodo.exit rfl <| have h := outL h hA1; tSR <| rA rfl rfl <| rN <| ATodo.ret <| ?_
      obtain rfl := Option.some.inj h
      exact ImpX.here ⟨_, .cons (.tmp _ _ rfl) .nil, rfl⟩

set_option maxHeartbeats 4000000 in
theorem place_CheckFence_c [GI : GTab] {p0x0 : FenceS} {r : Int} (h : place_CheckFence p0x0 = some r) : Pu Tryd.prog 33 [.agg [.str p0x0.Key, .list 2 (p0x0.Corners.map Spot.av)]] (I r) := by
  unfold place_CheckFence at h
  refine ACall.bodyN Tryd.func33 rfl Tryd.ntmps33 Tryd.results33 rfl rfl ?_
  refine tSR <| n_box rfl rfl rfl rfl fun b1 => rA rfl rfl <| rN <| tS <| ATodo.block <| tSR <| rF rfl rfl rfl <| rL rfl rfl .p0 rfl rfl <| bndE h fun v2 e1 h => r_callp rfl (base_Key_c e1) (CoL.refl _) rfl <| ARun.qv (q_not rfl) rfl <| rA rfl rfl <| rN <| ATodo.cond rfl (fun hc => ?_) (fun hc => ?_)
  · refine have h := iteT hc h; tSR <| rA rfl rfl <| rN <| ATodo.ret <| ?_
    obtain rfl := Option.some.inj h
    exact ImpX.here ⟨_, .cons (.tmp _ _ rfl) .nil, rfl⟩
  · refine have h := iteFb hc h; tSR <| rF rfl rfl rfl <| rL rfl rfl .p0 rfl rfl <| ARun.qv (t_len rfl) rfl <| ARun.qv (q_lss rfl rfl) rfl <| rA rfl rfl <| rN <| ATodo.cond_d rfl (fun hc => ?_) (fun hc => ?_)
    · refine have h := iteT hc h; tSR <| rA rfl rfl <| rN <| ATodo.ret <| ?_
      obtain rfl := Option.some.inj h
      exact ImpX.here ⟨_, .cons (.tmp _ _ rfl) .nil, rfl⟩
    · refine have h := iteF hc h; tSR <| rF rfl rfl rfl <| rL rfl rfl .p0 rfl rfl <| ARun.qv (t_len rfl) rfl <| ARun.qv (q_gtr rfl rfl) rfl <| rA rfl rfl <| rN <| ATodo.cond_d rfl (fun hc => ?_) (fun hc => ?_)
      · refine have h := iteT hc h; tSR <| rA rfl rfl <| rN <| ATodo.ret <| ?_
        obtain rfl := Option.some.inj h
        exact ImpX.here ⟨_, .cons (.tmp _ _ rfl) .nil, rfl⟩
      · refine have h := iteF hc h; tK <| ATodo.blk <| tS <| tSR <| rF rfl rfl rfl <| rL rfl rfl .p0 rfl rfl <| ARun.qv (t_len rfl) rfl <| rM rfl rfl <| rN <| ATodo.block <| ATodo.loopI (fun x : Int => place_CheckFence_b1 p0x0 x) (fun x σ' => σ' = ⟨41, [(1, .ptr b1 0), (21, .list 2 (p0x0.Corners.map Spot.av)), (22, I (p0x0.Corners.length : Int)), (23, I x)], [(b1, .cells [.str p0x0.Key, .list 2 (p0x0.Corners.map Spot.av)])]⟩) h ?_ ?_
        · exact ImpX.lq [0] rfl rfl rfl
        · intro n4 z1 σ' J1 hmk h hJ1 hA1
          obtain rfl := hmk
          replace h : place_CheckFence_b1 p0x0 n4 = some z1 := h
          unfold place_CheckFence_b1 at h
          refine tSR <| ARun.qv (q_lss rfl rfl) rfl <| rN <| tS <| ATodo.cond_d rfl (fun hc => ?_) (fun hc => ?_)
          · refine have h := iteT hc h; tK <| tS <| ATodo.block <| tSR <| rM rfl rfl <| bndE h fun v5 e2 h => ARun.qv (t_index rfl rfl rfl e2 rfl rfl) rfl <| ARun.qv (q_load_rptr_agg rfl rfl rfl) rfl <| n_alloc rfl rfl rfl rfl fun b6 => rA rfl rfl <| n_store_ptr rfl rfl rfl rfl .p0 rfl rfl <| rN <| tS <| tSR <| ARun.qv (q_load_ptr_all rfl rfl .p0 rfl) rfl <| r_callp rfl (place_isSpot_c rfl) (CoL.refl _) rfl <| ARun.qv (q_not rfl) rfl <| rN <| ATodo.cond rfl (fun hc => ?_) (fun hc => ?_)
            · refine have h := iteT hc h; tSR <| rA rfl rfl <| rN <| ATodo.ret <| have h := outL h hA1; ?_
              obtain rfl := Option.some.inj h
              exact ImpX.here ⟨_, .cons (.tmp _ _ rfl) .nil, rfl⟩
            · refine have h := iteFb hc h; tK <| tS <| ATodo.regionM (id := 12) (A := [0, 1, 0, 7, 0, 31]) 6 mixed rfl (by kernel_rfl) (by kernel_rfl) <| AM.qv (n_field_ptr rfl rfl) rfl <| AM.qv (q_load_ptr rfl rfl .p1 rfl) rfl <| AM.qv (q_move rfl) rfl <| bndE h fun l7 e3 h => AM.qv (t_slice_list rfl rfl .none (.some _ _ _ rfl) rfl rfl e3) rfl <| AM.qv (q_load_ptr_all rfl rfl .p0 rfl) rfl <| bndE h fun v8 e4 h => AM.callp rfl (slices_Contains_Spot_Spot_c e4) (CoL.refl _) rfl <| AM.nil <| rN <| ATodo.cond rfl (fun hc => ?_) (fun hc => ?_)
              · refine have h := iteT hc h; tSR <| rA rfl rfl <| rN <| ATodo.ret <| have h := outL h hA1; ?_
                obtain rfl := Option.some.inj h
                exact ImpX.here ⟨_, .cons (.tmp _ _ rfl) .nil, rfl⟩
              · refine have h := iteFb hc h; tK <| ATodo.blk <| tR <| ARun.qv (q_addw rfl rfl) rfl <| rM rfl rfl <| rN <| ATodo.stop <| ?_
                obtain rfl := Option.some.inj h
                exact hJ1 _ _ rfl <| ImpX.lq [1] rfl rfl rfl
          · refine have h := iteF hc h; ATodo.exit rfl <| have h := outL h hA1; ?_
            unfold place_CheckFence_k1 at h
            refine tS <| tSR <| rF rfl rfl rfl <| rL rfl rfl .p0 rfl rfl <| bndE h fun v9 e5 h => r_callp rfl (place_crossed_c e5) (CoL.refl _) rfl <| rN <| ATodo.cond rfl (fun hc => ?_) (fun hc => ?_)
            · refine have h := iteT hc h; tSR <| rA rfl rfl <| rN <| ATodo.ret <| ?_
              obtain rfl := Option.some.inj h
              exact ImpX.here ⟨_, .cons (.tmp _ _ rfl) .nil, rfl⟩
            · refine have h := iteFb hc h; tK <| tSR <| rA rfl rfl <| rN <| ATodo.ret <| ?_
              obtain rfl := Option.some.inj h
              exact ImpX.here ⟨_, .cons (.tmp _ _ rfl) .nil, rfl⟩

set_option maxHeartbeats 4000000 in
theorem place_where_1x_c [GI : GTab] {p0x0 : Spot} {p1x0 : Spot} {p2x0 : Spot} {r : Bool} (h : place_where_1x p0x0 p1x0 p2x0 = r) : Pu Tryd.prog 80 [.agg [I p0x0.X, I p0x0.Y], .agg [I p1x0.X, I p1x0.Y], .rptr [I p2x0.X, I p2x0.Y]] (.bool r) := by
  unfold place_where_1x at h
  refine ACall.bodyN Tryd.func80 rfl Tryd.ntmps80 Tryd.results80 rfl rfl ?_
  refine tSR <| n_box rfl rfl rfl rfl fun b1 => n_box rfl rfl rfl rfl fun b2 => rA rfl rfl <| rN <| tSR <| ARun.qv (q_load_ptr_all rfl rfl .p1 rfl) rfl <| ARun.qv (q_load_ptr_all rfl rfl .p0 rfl) rfl <| ARun.qv (q_load_rptr_agg rfl rfl rfl) rfl <| r_callp rfl (place_on_c rfl) (CoL.refl _) rfl <| rA rfl rfl <| rN <| ATodo.ret <| ?_
  obtain rfl := h
  exact ImpX.here ⟨_, .cons (.tmp _ _ rfl) .nil, rfl⟩

set_option maxHeartbeats 4000000 in
theorem place_edges_c [GI : GTab] {p0x0 : List Spot} {fnb : Spot → Spot → Option Bool} {fnb_F : FuncId} [IsFn Tryd.prog fnb_F] {fnb_C : List AV} (fnb_h : ∀ {y0 y1 : _} {u : Bool}, fnb y0 y1 = some u → Pu Tryd.prog fnb_F (.agg [I y0.X, I y0.Y] :: .agg [I y1.X, I y1.Y] ::  fnb_C) (.bool u)) {r : Bool} (h : place_edges p0x0 fnb = some r) : Pu Tryd.prog 67 [.list 2 (p0x0.map Spot.av), .func (.func fnb_F) fnb_C] (.bool r) := by
  unfold place_edges at h
  refine ACall.bodyN Tryd.func67 rfl Tryd.ntmps67 Tryd.results67 rfl rfl ?_
  refine tSR <| rA rfl rfl <| rN <| tS <| tSR <| rM rfl rfl <| ARun.qv (t_len rfl) rfl <| rM rfl rfl <| rN <| ATodo.block <| ATodo.loopI (fun x : Int => place_edges_b1 p0x0 fnb x) (fun x σ' => σ' = ⟨26, [(0, .list 2 (p0x0.map Spot.av)), (1, .func (.func fnb_F) fnb_C), (7, .list 2 (p0x0.map Spot.av)), (8, I (p0x0.length : Int)), (9, I x)], []⟩) h ?_ ?_
  · exact ImpX.lq [] rfl rfl rfl
  · intro n2 z1 σ' J1 hmk h hJ1 hA1
    obtain rfl := hmk
    replace h : place_edges_b1 p0x0 fnb n2 = some z1 := h
    unfold place_edges_b1 at h
    refine tSR <| ARun.qv (q_lss rfl rfl) rfl <| rN <| tS <| ATodo.cond_d rfl (fun hc => ?_) (fun hc => ?_)
    · refine have h := iteT hc h; tK <| tS <| ATodo.block <| tSR <| rM rfl rfl <| bndE h fun v3 e1 h => ARun.qv (t_index rfl rfl rfl e1 rfl rfl) rfl <| ARun.qv (q_load_rptr_agg rfl rfl rfl) rfl <| n_alloc rfl rfl rfl rfl fun b4 => rA rfl rfl <| n_store_ptr rfl rfl rfl rfl .p0 rfl rfl <| rN <| tS <| ATodo.regionM (id := 4) (A := [0, 0, 0, 0, 8, 0, 32, 120, 252, 508, 1023]) 10 mixed rfl (by kernel_rfl) (by kernel_rfl) <| AM.qv (q_move rfl) rfl <| AM.qv (q_load_ptr_all rfl rfl .p0 rfl) rfl <| AM.qv (q_move rfl) rfl <| AM.qv (q_move rfl) rfl <| AM.qv (q_addw rfl rfl) rfl <| AM.qv (q_move rfl) rfl <| AM.qv (t_len rfl) rfl <| bndE h fun n5 e2 h => AM.qv (t_remS rfl rfl e2) rfl <| bndE h fun v6 e3 h => AM.qv (t_index rfl rfl rfl e3 rfl rfl) rfl <| AM.qv (q_load_rptr_agg rfl rfl rfl) rfl <| AM.nil <| bndE h fun v7 e4 h => r_callvp rfl rfl (fnb_h e4) (CoL.refl _) rfl <| rN <| ATodo.cond rfl (fun hc => ?_) (fun hc => ?_)
      · refine have h := iteT hc h; tSR <| rA rfl rfl <| rN <| ATodo.ret <| have h := outL h hA1; ?_
        obtain rfl := Option.some.inj h
        exact ImpX.here ⟨_, .cons (.tmp _ _ rfl) .nil, rfl⟩
      · refine have h := iteFb hc h; tK <| ATodo.blk <| tR <| ARun.qv (q_addw rfl rfl) rfl <| rM rfl rfl <| rN <| ATodo.stop <| ?_
        obtain rfl := Option.some.inj h
        exact hJ1 _ _ rfl <| ImpX.lq [] rfl rfl rfl
    · refine have h := iteF hc h; ATodo.exit rfl <| have h := outL h hA1; tSR <| rA rfl rfl <| rN <| ATodo.ret <| ?_
      obtain rfl := Option.some.inj h
      exact ImpX.here ⟨_, .cons (.tmp _ _ rfl) .nil, rfl⟩

set_option maxHeartbeats 4000000 in
theorem place_where_2x_c [GI : GTab] {b_2 : Bk} {b_3 : Bk} {p0x0 : Spot} {p1x0 : Spot} {p2x0 : Spot} {p3x0 : Bool} {r : Bool × Bool} (h : place_where_2x p0x0 p1x0 p2x0 p3x0 = r) : ACall Tryd.prog 81 [.agg [I p0x0.X, I p0x0.Y], .agg [I p1x0.X, I p1x0.Y], .ptr b_2 0, .ptr b_3 0] [(b_2, .cells [I p2x0.X, I p2x0.Y]), (b_3, .cells [.bool p3x0])] (T0 ([(b_2, .cells [I p2x0.X, I p2x0.Y]), (b_3, .cells [.bool r.2])]) (.bool r.1)) := by
  unfold place_where_2x at h
  refine ACall.lessH ?_
  refine ACall.bodyN Tryd.func81 rfl Tryd.ntmps81 Tryd.results81 rfl rfl ?_
  refine tSR <| n_box rfl rfl rfl rfl fun b1 => n_box rfl rfl rfl rfl fun b2 => rA rfl rfl <| rN <| tS <| tSR <| rF rfl rfl rfl <| rL rfl rfl .p1 rfl rfl <| rF rfl rfl rfl <| rL rfl rfl .p0 rfl rfl <| ARun.qv (q_gtr rfl rfl) rfl <| rN <| ATodo.cut (fun σ' => ∃ (n3 : Int) (n4 : Int) (n5 : Int) (n6 : Int), place_where_2x_j1 p2x0 p3x0 n3 n4 n5 n6 = r ∧ σ' = ⟨35, [(2, .ptr b_2 0), (3, .ptr b_3 0), (4, .ptr b1 0), (5, .ptr b2 0)], [(b_2, .cells [I p2x0.X, I p2x0.Y]), (b_3, .cells [.bool p3x0]), (b1, .cells [I n3, I n4]), (b2, .cells [I n5, I n6])]⟩) ?_ ?_
  · refine ATodo.cond_d rfl (fun hc => ?_) (fun hc => ?_)
    · exact have h := iteT hc h; tR <| ARun.qv (q_load_ptr_all rfl rfl .p0 rfl) rfl <| ARun.qv (q_load_ptr_all rfl rfl .p1 rfl) rfl <| n_store_ptr rfl rfl rfl rfl .p1 rfl rfl <| n_store_ptr rfl rfl rfl rfl .p0 rfl rfl <| rN <| ATodo.stop <| ImpX.lq [2, 2, 1, 0] ⟨p1x0.X, p1x0.Y, p0x0.X, p0x0.Y, h, rfl⟩ rfl rfl
    · exact have h := iteF hc h; tK <| ATodo.stop <| ImpX.lq [2, 2, 1, 0] ⟨p0x0.X, p0x0.Y, p1x0.X, p1x0.Y, h, rfl⟩ rfl rfl
  · rintro σ' ⟨n3, n4, n5, n6, h, rfl⟩
    unfold place_where_2x_j1 at h
    refine tS <| tS <| ATodo.cut (fun σ' => ∃ (c7 : Bool), place_where_2x_j2 p3x0 c7 = r ∧ σ' = ⟨35, [(3, .ptr b_3 0), (32, .bool c7)], [(b_2, .cells [I p2x0.X, I p2x0.Y]), (b_3, .cells [.bool p3x0])]⟩) ?_ ?_
    · refine tR <| rF rfl rfl rfl <| rL rfl rfl .p2 rfl rfl <| rF rfl rfl rfl <| rL rfl rfl .p0 rfl rfl <| ARun.qv (q_leq rfl rfl) rfl <| rM rfl rfl <| ARun.guard_dt rfl rfl rfl (fun hc => ?_) (fun hc => ?_)
      · rw [andTd hc] at h
        refine rF rfl rfl rfl <| rY rfl rfl rfl <| rL rfl rfl .p0 rfl rfl <| rY rfl rfl rfl <| rF rfl rfl rfl <| rY rfl rfl rfl <| rL rfl rfl .p3 rfl rfl <| rY rfl rfl rfl <| ARun.qv (q_lss rfl rfl) rfl <| rT rfl rfl rfl <| rM rfl rfl <| ARun.guard_dt rfl rfl rfl (fun hc => ?_) (fun hc => ?_)
        · rw [andTd hc] at h
          exact ARun.qv (q_load_ptr_all rfl rfl .p2 rfl) rfl <| rY rfl rfl rfl <| ARun.qv (q_load_ptr_all rfl rfl .p3 rfl) rfl <| rY rfl rfl rfl <| ARun.qv (q_load_ptr_all rfl rfl .p0 rfl) rfl <| rY rfl rfl rfl <| r_callp rfl (place_side_c (rfl : place_side (⟨n3, n4⟩ : Spot) (⟨n5, n6⟩ : Spot) p2x0 = _)) (CoL.refl _) rfl <| rY rfl rfl rfl <| ARun.qv (q_gtr rfl rfl) rfl <| rT rfl rfl rfl <| rN <| ATodo.stop <| ImpX.lq [0, 0] ⟨decide ((0 : Int) < (place_side (⟨n3, n4⟩ : Spot) (⟨n5, n6⟩ : Spot) p2x0)), h, rfl⟩ rfl rfl
        · rw [andFd hc] at h
          exact rG rfl rfl rfl rfl <| rG rfl rfl rfl rfl <| rG rfl rfl rfl rfl <| rG rfl rfl rfl rfl <| rE rfl rfl rfl <| rN <| ATodo.stop <| ImpX.lq [0, 0] ⟨false, h, rfl⟩ rfl rfl
      · rw [andFd hc] at h
        exact rG rfl rfl rfl rfl <| rG rfl rfl rfl rfl <| rG rfl rfl rfl rfl <| rG rfl rfl rfl rfl <| rE rfl rfl rfl <| rM rfl rfl <| rG rfl rfl rfl rfl <| rG rfl rfl rfl rfl <| rG rfl rfl rfl rfl <| rG rfl rfl rfl rfl <| rG rfl rfl rfl rfl <| rE rfl rfl rfl <| rN <| ATodo.stop <| ImpX.lq [0, 0] ⟨false, h, rfl⟩ rfl rfl
    · rintro σ' ⟨c7, h, rfl⟩
      unfold place_where_2x_j2 at h
      refine ATodo.cut (fun σ' => ∃ (c8 : Bool), place_where_2x_j3 c8 = r ∧ σ' = ⟨35, [], [(b_2, .cells [I p2x0.X, I p2x0.Y]), (b_3, .cells [.bool c8])]⟩) ?_ ?_
      · refine ATodo.cond rfl (fun hc => ?_) (fun hc => ?_)
        · exact have h := iteT hc h; tR <| rL rfl rfl .p1 rfl rfl <| ARun.qv (q_not rfl) rfl <| n_store_ptr rfl rfl rfl rfl .p1 rfl rfl <| rN <| ATodo.stop <| ImpX.lq [0, 0] ⟨!p3x0, h, rfl⟩ rfl rfl
        · exact have h := iteFb hc h; tK <| ATodo.stop <| ImpX.lq [0, 0] ⟨p3x0, h, rfl⟩ rfl rfl
      · rintro σ' ⟨c8, h, rfl⟩
        unfold place_where_2x_j3 at h
        refine tSR <| rA rfl rfl <| rN <| ATodo.ret <| ?_
        obtain rfl := h
        exact ImpX.here ⟨_, .cons (.tmp _ _ rfl) .nil, _, .cons .p0 (.cons .p0 .nil), ⟨rfl, rfl⟩⟩

set_option maxHeartbeats 4000000 in
theorem place_edges_f1x_place_where_2x_c [GI : GTab] {b_2 : Bk} {b_3 : Bk} {p0x0 : List Spot} {p2x0 : Spot} {p3x0 : Bool} {r : Bool × Bool} (h : place_edges_f1x_place_where_2x p0x0 p2x0 p3x0 = some r) : ACall Tryd.prog 67 [.list 2 (p0x0.map Spot.av), .func (.func 81) [.ptr b_2 0, .ptr b_3 0]] [(b_2, .cells [I p2x0.X, I p2x0.Y]), (b_3, .cells [.bool p3x0])] (T0 ([(b_2, .cells [I p2x0.X, I p2x0.Y]), (b_3, .cells [.bool r.2])]) (.bool r.1)) := by
  unfold place_edges_f1x_place_where_2x at h
  refine ACall.lessH ?_
  refine ACall.bodyN Tryd.func67 rfl Tryd.ntmps67 Tryd.results67 rfl rfl ?_
  refine tSR <| rA rfl rfl <| rN <| tS <| tSR <| rM rfl rfl <| ARun.qv (t_len rfl) rfl <| rM rfl rfl <| rN <| ATodo.block <| ATodo.loopI (fun x : Bool × Int => place_edges_f1x_place_where_2x_b1 p0x0 p2x0 x.1 x.2) (fun x σ' => σ' = ⟨26, [(0, .list 2 (p0x0.map Spot.av)), (1, .func (.func 81) [.ptr b_2 0, .ptr b_3 0]), (7, .list 2 (p0x0.map Spot.av)), (8, I (p0x0.length : Int)), (9, I x.2)], [(b_2, .cells [I p2x0.X, I p2x0.Y]), (b_3, .cells [.bool x.1])]⟩) h ?_ ?_
  · exact ImpX.lq [0, 0] rfl rfl rfl
  · intro x z1 σ' J1 hmk h hJ1 hA1
    obtain ⟨c3, n4⟩ := x
    obtain rfl := hmk
    replace h : place_edges_f1x_place_where_2x_b1 p0x0 p2x0 c3 n4 = some z1 := h
    unfold place_edges_f1x_place_where_2x_b1 at h
    refine tSR <| ARun.qv (q_lss rfl rfl) rfl <| rN <| tS <| ATodo.cond_d rfl (fun hc => ?_) (fun hc => ?_)
    · refine have h := iteT hc h; tK <| tS <| ATodo.block <| tSR <| rM rfl rfl <| bndE h fun v5 e1 h => ARun.qv (t_index rfl rfl rfl e1 rfl rfl) rfl <| ARun.qv (q_load_rptr_agg rfl rfl rfl) rfl <| n_alloc rfl rfl rfl rfl fun b6 => rA rfl rfl <| n_store_ptr rfl rfl rfl rfl .p0 rfl rfl <| rN <| tS <| ATodo.regionM (id := 4) (A := [0, 0, 0, 0, 8, 0, 32, 120, 252, 508, 1023]) 10 mixed rfl (by kernel_rfl) (by kernel_rfl) <| AM.qv (q_move rfl) rfl <| AM.qv (q_load_ptr_all rfl rfl .p0 rfl) rfl <| AM.qv (q_move rfl) rfl <| AM.qv (q_move rfl) rfl <| AM.qv (q_addw rfl rfl) rfl <| AM.qv (q_move rfl) rfl <| AM.qv (t_len rfl) rfl <| bndE h fun n7 e2 h => AM.qv (t_remS rfl rfl e2) rfl <| bndE h fun v8 e3 h => AM.qv (t_index rfl rfl rfl e3 rfl rfl) rfl <| AM.qv (q_load_rptr_agg rfl rfl rfl) rfl <| AM.nil <| t_callv0 rfl rfl rfl (place_where_2x_c rfl) (CoL.refl _) (.cons .p1 (.cons .p1 .nil)) rfl rfl <| rN <| ATodo.cond rfl (fun hc => ?_) (fun hc => ?_)
      · refine have h := iteT hc h; tSR <| rA rfl rfl <| rN <| ATodo.ret <| have h := outL h hA1; ?_
        obtain rfl := Option.some.inj h
        exact ImpX.here ⟨_, .cons (.tmp _ _ rfl) .nil, _, .cons .p0 (.cons .p0 .nil), ⟨rfl, rfl⟩⟩
      · refine have h := iteFb hc h; tK <| ATodo.blk <| tR <| ARun.qv (q_addw rfl rfl) rfl <| rM rfl rfl <| rN <| ATodo.stop <| ?_
        obtain rfl := Option.some.inj h
        exact hJ1 _ _ rfl <| ImpX.lq [0, 0] rfl rfl rfl
    · refine have h := iteF hc h; ATodo.exit rfl <| have h := outL h hA1; tSR <| rA rfl rfl <| rN <| ATodo.ret <| ?_
      obtain rfl := Option.some.inj h
      exact ImpX.here ⟨_, .cons (.tmp _ _ rfl) .nil, _, .cons .p0 (.cons .p0 .nil), ⟨rfl, rfl⟩⟩

set_option maxHeartbeats 4000000 in
theorem place_where_c [GI : GTab] {p0x0 : List Spot} {p1x0 : Spot} {r : Int} (h : place_where p0x0 p1x0 = some r) : Pu Tryd.prog 66 [.list 2 (p0x0.map Spot.av), .agg [I p1x0.X, I p1x0.Y]] (I r) := by
  unfold place_where at h
  refine ACall.bodyN Tryd.func66 rfl Tryd.ntmps66 Tryd.results66 rfl rfl ?_
  refine tSR <| n_box rfl rfl rfl rfl fun b1 => rA rfl rfl <| rN <| tS <| tSR <| rM rfl rfl <| ARun.qv (q_makeFunc rfl) rfl <| bndE h fun v2 e1 h => r_callpB rfl (place_edges_c (fun e => place_where_1x_c (Option.some.inj e)) e1) (.cons (.co (.refl _)) (.cons (.funcL _ _ _ (.cons (.boxL _ _ _ .p0 (.cons (.co (.refl _)) (.cons (.co (.refl _)) .nil))) .nil)) .nil)) rfl rfl <| rN <| ATodo.cond rfl (fun hc => ?_) (fun hc => ?_)
  · refine have h := iteT hc h; tSR <| rA rfl rfl <| rN <| ATodo.ret <| ?_
    obtain rfl := Option.some.inj h
    exact ImpX.here ⟨_, .cons (.tmp _ _ rfl) .nil, rfl⟩
  · refine have h := iteFb hc h; tK <| tSR <| n_alloc rfl rfl rfl rfl fun b3 => n_store_ptr rfl rfl rfl rfl .p0 rfl rfl <| rN <| tSR <| rM rfl rfl <| ARun.qv (q_makeFunc rfl) rfl <| bndE h fun v4 e2 h => t_call0 rfl (place_edges_f1x_place_where_2x_c e2) (CoL.refl _) (.cons .p1 (.cons .p0 .nil)) rfl rfl <| rN <| tS <| tSR <| rL rfl rfl .p1 rfl rfl <| rN <| ATodo.cond rfl (fun hc => ?_) (fun hc => ?_)
    · refine have h := iteT hc h; tSR <| rA rfl rfl <| rN <| ATodo.ret <| ?_
      obtain rfl := Option.some.inj h
      exact ImpX.here ⟨_, .cons (.tmp _ _ rfl) .nil, rfl⟩
    · refine have h := iteFb hc h; tK <| tSR <| rA rfl rfl <| rN <| ATodo.ret <| ?_
      obtain rfl := Option.some.inj h
      exact ImpX.here ⟨_, .cons (.tmp _ _ rfl) .nil, rfl⟩

set_option maxHeartbeats 4000000 in
theorem place_touch_1x_1x_c [GI : GTab] {p0x0 : Spot} {p1x0 : Spot} {p2x0 : Spot} {p3x0 : Spot} {r : Bool} (h : place_touch_1x_1x p0x0 p1x0 p2x0 p3x0 = r) : Pu Tryd.prog 69 [.agg [I p0x0.X, I p0x0.Y], .agg [I p1x0.X, I p1x0.Y], .rptr [I p2x0.X, I p2x0.Y], .rptr [I p3x0.X, I p3x0.Y]] (.bool r) := by
  unfold place_touch_1x_1x at h
  refine ACall.bodyN Tryd.func69 rfl Tryd.ntmps69 Tryd.results69 rfl rfl ?_
  refine tSR <| n_box rfl rfl rfl rfl fun b1 => n_box rfl rfl rfl rfl fun b2 => rA rfl rfl <| rN <| tSR <| ARun.qv (q_load_rptr_agg rfl rfl rfl) rfl <| ARun.qv (q_load_rptr_agg rfl rfl rfl) rfl <| ARun.qv (q_load_ptr_all rfl rfl .p1 rfl) rfl <| ARun.qv (q_load_ptr_all rfl rfl .p0 rfl) rfl <| r_callp rfl (place_meets_c rfl) (CoL.refl _) rfl <| rA rfl rfl <| rN <| ATodo.ret <| ?_
  obtain rfl := h
  exact ImpX.here ⟨_, .cons (.tmp _ _ rfl) .nil, rfl⟩

set_option maxHeartbeats 4000000 in
theorem place_touch_1x_c [GI : GTab] {p0x0 : Spot} {p1x0 : Spot} {p2x0 : List Spot} {r : Bool} (h : place_touch_1x p0x0 p1x0 p2x0 = some r) : Pu Tryd.prog 68 [.agg [I p0x0.X, I p0x0.Y], .agg [I p1x0.X, I p1x0.Y], .rptr [.list 2 (p2x0.map Spot.av)]] (.bool r) := by
  unfold place_touch_1x at h
  refine ACall.bodyN Tryd.func68 rfl Tryd.ntmps68 Tryd.results68 rfl rfl ?_
  refine tSR <| n_box rfl rfl rfl rfl fun b1 => n_box rfl rfl rfl rfl fun b2 => rA rfl rfl <| rN <| tSR <| ARun.qv (q_load_rptr rfl rfl rfl) rfl <| ARun.qv (q_makeFunc rfl) rfl <| bndE h fun v3 e1 h => r_callpB rfl (place_edges_c (fun e => place_touch_1x_1x_c (Option.some.inj e)) e1) (.cons (.co (.refl _)) (.cons (.funcL _ _ _ (.cons (.boxL _ _ _ .p1 (.cons (.co (.refl _)) (.cons (.co (.refl _)) .nil))) (.cons (.boxL _ _ _ .p0 (.cons (.co (.refl _)) (.cons (.co (.refl _)) .nil))) .nil))) .nil)) rfl rfl <| rA rfl rfl <| rN <| ATodo.ret <| ?_
  obtain rfl := Option.some.inj h
  exact ImpX.here ⟨_, .cons (.tmp _ _ rfl) .nil, rfl⟩

set_option maxHeartbeats 4000000 in
theorem place_touch_c [GI : GTab] {p0x0 : List Spot} {p1x0 : List Spot} {r : Bool} (h : place_touch p0x0 p1x0 = some r) : Pu Tryd.prog 52 [.list 2 (p0x0.map Spot.av), .list 2 (p1x0.map Spot.av)] (.bool r) := by
  unfold place_touch at h
  refine ACall.bodyN Tryd.func52 rfl Tryd.ntmps52 Tryd.results52 rfl rfl ?_
  refine tSR <| n_box rfl rfl rfl rfl fun b1 => rA rfl rfl <| rN <| tS <| ATodo.cut (fun σ' => ∃ (c2 : Bool), place_touch_j1 c2 = some r ∧ σ' = ⟨24, [(4, .bool c2)], []⟩) ?_ ?_
  · refine ATodo.regionM (id := 1) (A := [0, 0, 2, 6, 15, 31, 63, 127, 127, 383, 895, 2047, 4095, 8191, 16383, 32767, 32767, 131071, 262143, 524287]) 20 mixed rfl (by kernel_rfl) (by kernel_rfl) <| AM.qv (q_move rfl) rfl <| AM.qv (q_load_ptr rfl rfl .p0 rfl) rfl <| bndE h fun v3 e1 h => AM.qv (t_index rfl rfl rfl e1 rfl rfl) rfl <| AM.qv (q_load_rptr_agg rfl rfl rfl) rfl <| bndE h fun v4 e2 h => AM.callp rfl (place_where_c e2) (CoL.refl _) rfl <| AM.qv (q_neq rfl rfl) rfl <| AM.qv (q_move rfl) rfl <| AM.guard_df rfl rfl rfl (fun hc => ?_) (fun hc => ?_)
    · refine have h := iteF hc h; AM.qv (q_load_ptr rfl rfl .p0 rfl) rfl <| AM.guard_yes rfl rfl rfl <| AM.qv (q_move rfl) rfl <| AM.guard_yes rfl rfl rfl <| bndE h fun v5 e3 h => AM.qv (t_index rfl rfl rfl e3 rfl rfl) rfl <| AM.guard_yes rfl rfl rfl <| AM.qv (q_load_rptr_agg rfl rfl rfl) rfl <| AM.guard_yes rfl rfl rfl <| bndE h fun v6 e4 h => AM.callp rfl (place_where_c e4) (CoL.refl _) rfl <| AM.guard_yes rfl rfl rfl <| AM.qv (q_neq rfl rfl) rfl <| AM.qv (q_pick_f rfl rfl) rfl <| AM.qv (q_move rfl) rfl <| AM.guard_df rfl rfl rfl (fun hc => ?_) (fun hc => ?_)
      · exact have h := iteF hc h; AM.qv (q_move rfl) rfl <| AM.guard_yes rfl rfl rfl <| AM.qv (q_makeFunc rfl) rfl <| AM.guard_yes rfl rfl rfl <| bndE h fun v7 e5 h => AM.callpB rfl (place_edges_c (fun e => place_touch_1x_c e) e5) (.cons (.co (.refl _)) (.cons (.funcL _ _ _ (.cons (.boxL _ _ _ .p0 (.cons (.co (.refl _)) .nil)) .nil)) .nil)) rfl rfl <| AM.qv (q_pick_f rfl rfl) rfl <| AM.qv (q_assign rfl) rfl <| AM.nil <| rN <| ATodo.stop <| ImpX.lq [] ⟨v7, h, rfl⟩ rfl rfl
      · exact have h := iteT hc h; AM.guard_no rfl rfl rfl rfl <| AM.guard_no rfl rfl rfl rfl <| AM.qv (q_pick_t rfl rfl) rfl <| AM.qv (q_assign rfl) rfl <| AM.nil <| rN <| ATodo.stop <| ImpX.lq [] ⟨true, h, rfl⟩ rfl rfl
    · exact have h := iteT hc h; AM.guard_no rfl rfl rfl rfl <| AM.guard_no rfl rfl rfl rfl <| AM.guard_no rfl rfl rfl rfl <| AM.guard_no rfl rfl rfl rfl <| AM.guard_no rfl rfl rfl rfl <| AM.qv (q_pick_t rfl rfl) rfl <| AM.qv (q_move rfl) rfl <| AM.guard_no rfl rfl rfl rfl <| AM.guard_no rfl rfl rfl rfl <| AM.guard_no rfl rfl rfl rfl <| AM.qv (q_pick_t rfl rfl) rfl <| AM.qv (q_assign rfl) rfl <| AM.nil <| rN <| ATodo.stop <| ImpX.lq [] ⟨true, h, rfl⟩ rfl rfl
  · rintro σ' ⟨c2, h, rfl⟩
    unfold place_touch_j1 at h
    refine ATodo.ret <| ?_
    obtain rfl := Option.some.inj h
    exact ImpX.here ⟨_, .cons (.tmp _ _ rfl) .nil, rfl⟩

set_option maxHeartbeats 4000000 in
theorem place_cells_bd_c [GI : GTab] {b_3 : Bk} {self : (List Spot) → Str → Int → (List Str) → Option (List Str)} (self_h : ∀ {b_3 : Bk} {p0x0 : List Spot} {p1x0 : Str} {p2x0 : Int} {p3x0 : List Str} {r : (List Str)}, self p0x0 p1x0 p2x0 p3x0 = some r → ACall Tryd.prog 34 [.list 2 (p0x0.map Spot.av), .str p1x0, I p2x0, .sl 1 b_3 0 p3x0.length] [(b_3, .arr 1 (p3x0.map AV.str))] (T1 (fun d_0 => [(d_0, .arr 1 (r.map AV.str))]) (fun d_0 => .sl 1 d_0 0 r.length))) {p0x0 : List Spot} {p1x0 : Str} {p2x0 : Int} {p3x0 : List Str} {r : (List Str)} (h : place_cells_bd self p0x0 p1x0 p2x0 p3x0 = some r) : ACall Tryd.prog 34 [.list 2 (p0x0.map Spot.av), .str p1x0, I p2x0, .sl 1 b_3 0 p3x0.length] [(b_3, .arr 1 (p3x0.map AV.str))] (T1 (fun d_0 => [(d_0, .arr 1 (r.map AV.str))]) (fun d_0 => .sl 1 d_0 0 r.length)) := by
  unfold place_cells_bd at h
  refine ACall.lessH ?_
  refine ACall.bodyN Tryd.func34 rfl Tryd.ntmps34 Tryd.results34 rfl rfl ?_
  refine tSR <| rA rfl rfl <| rN <| tSR <| rM rfl rfl <| bndE h fun v1 e1 h => r_callp rfl (place_cellBox_c e1) (CoL.refl _) rfl <| rM rfl rfl <| rX rfl rfl rfl <| rX rfl rfl rfl <| n_alloc rfl rfl rfl rfl fun b2 => n_store_ptr rfl rfl rfl rfl .p0 rfl rfl <| rA rfl rfl <| rN <| tSR <| ARun.qv (q_load_ptr_all rfl rfl .p0 rfl) rfl <| rF rfl rfl rfl <| rL rfl rfl .p0 rfl rfl <| rM rfl rfl <| ARun.qv (q_addw rfl rfl) rfl <| rF rfl rfl rfl <| rL rfl rfl .p0 rfl rfl <| ARun.qv (n_build rfl rfl rfl rfl rfl) rfl <| rF rfl rfl rfl <| rL rfl rfl .p0 rfl rfl <| rM rfl rfl <| ARun.qv (q_addw rfl rfl) rfl <| rF rfl rfl rfl <| rL rfl rfl .p0 rfl rfl <| rM rfl rfl <| ARun.qv (q_addw rfl rfl) rfl <| ARun.qv (n_build rfl rfl rfl rfl rfl) rfl <| rF rfl rfl rfl <| rL rfl rfl .p0 rfl rfl <| rF rfl rfl rfl <| rL rfl rfl .p0 rfl rfl <| rM rfl rfl <| ARun.qv (q_addw rfl rfl) rfl <| ARun.qv (n_build rfl rfl rfl rfl rfl) rfl <| n_buildSliceL (xs := ([v1.1, (⟨w64 (v1.1.X + v1.2), v1.1.Y⟩ : Spot), (⟨w64 (v1.1.X + v1.2), w64 (v1.1.Y + v1.2)⟩ : Spot), (⟨v1.1.X, w64 (v1.1.Y + v1.2)⟩ : Spot)]).map Spot.av) rfl rfl rfl rfl rfl rfl <| rA rfl rfl <| rN <| tS <| tS <| ATodo.cut (fun σ' => ∃ (c3 : Bool), place_cells_j1 self p0x0 p1x0 p2x0 p3x0 c3 = some r ∧ σ' = ⟨77, [(0, .list 2 (p0x0.map Spot.av)), (1, .str p1x0), (2, I p2x0), (3, .sl 1 b_3 0 p3x0.length), (52, .bool c3)], [(b_3, .arr 1 (p3x0.map AV.str))]⟩) ?_ ?_
  · refine tR <| rM rfl rfl <| ARun.qv (t_len_sl rfl) rfl <| ARun.qv (q_gtr rfl rfl) rfl <| rM rfl rfl <| ARun.guard_df rfl rfl rfl (fun hc => ?_) (fun hc => ?_)
    · exact have h := iteF hc h; rM rfl rfl <| rY rfl rfl rfl <| rM rfl rfl <| rY rfl rfl rfl <| bndE h fun v4 e2 h => r_callp rfl (place_touch_c e2) (CoL.refl _) rfl <| rY rfl rfl rfl <| ARun.qv (q_not rfl) rfl <| rE rfl rfl rfl <| rN <| ATodo.stop <| ImpX.lq [1] ⟨!v4, h, rfl⟩ rfl rfl
    · exact have h := iteT hc h; rG rfl rfl rfl rfl <| rG rfl rfl rfl rfl <| rG rfl rfl rfl rfl <| rT rfl rfl rfl <| rN <| ATodo.stop <| ImpX.lq [1] ⟨true, h, rfl⟩ rfl rfl
  · rintro σ' ⟨c3, h, rfl⟩
    unfold place_cells_j1 at h
    refine ATodo.cond rfl (fun hc => ?_) (fun hc => ?_)
    · refine have h := iteT hc h; tSR <| rM rfl rfl <| rA rfl rfl <| rN <| ATodo.ret <| ?_
      obtain rfl := Option.some.inj h
      exact ImpX.here ⟨_, .cons (.tmp _ _ rfl) .nil, _, .cons .p0 .nil, ⟨b_3, rfl, rfl⟩⟩
    · refine have h := iteFb hc h; tK <| tS <| tSR <| rM rfl rfl <| ARun.qv (q_len_str rfl) rfl <| rM rfl rfl <| ARun.qv (q_eql rfl rfl) rfl <| rN <| ATodo.cond_d rfl (fun hc => ?_) (fun hc => ?_)
      · refine have h := iteT hc h; tSR <| rM rfl rfl <| rM rfl rfl <| n_buildSliceL (xs := ([p1x0] : List Str).map AV.str) rfl rfl rfl rfl rfl rfl <| bndE h fun l5 e3 h => t_append (g := AV.str) rfl rfl rfl rfl rfl rfl rfl rfl (.list _) e3 (fun _ => .p0) rfl fun b6 => rA rfl rfl <| rN <| ATodo.ret <| ?_
        obtain rfl := Option.some.inj h
        exact ImpX.here ⟨_, .cons (.tmp _ _ rfl) .nil, _, .cons .p0 .nil, ⟨b6, rfl, rfl⟩⟩
      · refine have h := iteF hc h; tK <| tS <| tSR <| n_buildSliceL (xs := ([([48] : Str), ([49] : Str), ([50] : Str), ([51] : Str)]).map AV.str) rfl rfl rfl rfl rfl rfl <| ARun.qv (t_len rfl) rfl <| rM rfl rfl <| rN <| ATodo.block <| ATodo.loopI (fun x : (List Str) × Int => place_cells_b1 self p0x0 p1x0 p2x0 x.1 x.2) (fun x σ' => ∃ (b10 : Bk), σ' = ⟨77, [(0, .list 2 (p0x0.map Spot.av)), (1, .str p1x0), (2, I p2x0), (3, .sl 1 b10 0 x.1.length), (62, .list 1 ([([48] : Str), ([49] : Str), ([50] : Str), ([51] : Str)].map AV.str)), (63, I ([([48] : Str), ([49] : Str), ([50] : Str), ([51] : Str)].length : Int)), (64, I x.2)], [(b10, .arr 1 (x.1.map AV.str))]⟩) h ?_ ?_
        · exact ImpX.lq [0] ⟨b_3, rfl⟩ rfl rfl
        · intro x z1 σ' J1 hmk h hJ1 hA1
          obtain ⟨l11, n12⟩ := x
          obtain ⟨b10, rfl⟩ := hmk
          replace h : place_cells_b1 self p0x0 p1x0 p2x0 l11 n12 = some z1 := h
          unfold place_cells_b1 at h
          refine tSR <| ARun.qv (q_lss rfl rfl) rfl <| rN <| tS <| ATodo.cond_d rfl (fun hc => ?_) (fun hc => ?_)
          · refine have h := iteT hc h; tK <| tS <| ATodo.block <| tSR <| bndE h fun v13 e4 h => ARun.qv (t_index rfl rfl rfl e4 rfl rfl) rfl <| ARun.qv (q_load_rptr rfl rfl rfl) rfl <| rA rfl rfl <| rN <| tR <| rM rfl rfl <| rM rfl rfl <| rM rfl rfl <| bndE h fun q14 e5 h => ARun.qv (q_sadd e5 rfl rfl) rfl <| rM rfl rfl <| rM rfl rfl <| bndE h fun v15 e6 h => t_call1 rfl (self_h e6) (CoL.refl _) (.cons .p0 .nil) (fun _ => rfl) rfl fun b16 => rA rfl rfl <| rN <| ATodo.blk <| tR <| ARun.qv (q_addw rfl rfl) rfl <| rM rfl rfl <| rN <| ATodo.stop <| ?_
            obtain rfl := Option.some.inj h
            exact hJ1 _ _ rfl <| ImpX.lq [0] ⟨b16, rfl⟩ rfl rfl
          · refine have h := iteF hc h; ATodo.exit rfl <| have h := outL h hA1; tSR <| rM rfl rfl <| rA rfl rfl <| rN <| ATodo.ret <| ?_
            obtain rfl := Option.some.inj h
            exact ImpX.here ⟨_, .cons (.tmp _ _ rfl) .nil, _, .cons .p0 .nil, ⟨b10, rfl, rfl⟩⟩
theorem place_cells_r_c [GI : GTab] : ∀ (k : Nat) {b_3 : Bk} {p0x0 : List Spot} {p1x0 : Str} {p2x0 : Int} {p3x0 : List Str} {r : (List Str)}, place_cells_r k p0x0 p1x0 p2x0 p3x0 = some r → ACall Tryd.prog 34 [.list 2 (p0x0.map Spot.av), .str p1x0, I p2x0, .sl 1 b_3 0 p3x0.length] [(b_3, .arr 1 (p3x0.map AV.str))] (T1 (fun d_0 => [(d_0, .arr 1 (r.map AV.str))]) (fun d_0 => .sl 1 d_0 0 r.length)) := by
  intro k
  induction k with
  | zero => intro b_3 p0x0 p1x0 p2x0 p3x0 r h; cases h
  | succ k ih => intro b_3 p0x0 p1x0 p2x0 p3x0 r h; exact place_cells_bd_c ih h
theorem place_cells_c [GI : GTab] {b_3 : Bk} {p0x0 : List Spot} {p1x0 : Str} {p2x0 : Int} {p3x0 : List Str} {r : (List Str)} (h : place_cells p0x0 p1x0 p2x0 p3x0 = some r) : ACall Tryd.prog 34 [.list 2 (p0x0.map Spot.av), .str p1x0, I p2x0, .sl 1 b_3 0 p3x0.length] [(b_3, .arr 1 (p3x0.map AV.str))] (T1 (fun d_0 => [(d_0, .arr 1 (r.map AV.str))]) (fun d_0 => .sl 1 d_0 0 r.length)) := place_cells_r_c depth h

set_option maxHeartbeats 4000000 in
theorem place_cells_n3x_c [GI : GTab] {p0x0 : List Spot} {p1x0 : Str} {p2x0 : Int} {r : (List Str)} (h : place_cells_n3x p0x0 p1x0 p2x0 = some r) : ACall Tryd.prog 34 [.list 2 (p0x0.map Spot.av), .str p1x0, I p2x0, .nil] [] (T1 (fun d_0 => [(d_0, .arr 1 (r.map AV.str))]) (fun d_0 => .sl 1 d_0 0 r.length)) := by
  unfold place_cells_n3x at h
  refine ACall.lessH ?_
  refine ACall.bodyN Tryd.func34 rfl Tryd.ntmps34 Tryd.results34 rfl rfl ?_
  refine tSR <| rA rfl rfl <| rN <| tSR <| rM rfl rfl <| bndE h fun v1 e1 h => r_callp rfl (place_cellBox_c e1) (CoL.refl _) rfl <| rM rfl rfl <| rX rfl rfl rfl <| rX rfl rfl rfl <| n_alloc rfl rfl rfl rfl fun b2 => n_store_ptr rfl rfl rfl rfl .p0 rfl rfl <| rA rfl rfl <| rN <| tSR <| ARun.qv (q_load_ptr_all rfl rfl .p0 rfl) rfl <| rF rfl rfl rfl <| rL rfl rfl .p0 rfl rfl <| rM rfl rfl <| ARun.qv (q_addw rfl rfl) rfl <| rF rfl rfl rfl <| rL rfl rfl .p0 rfl rfl <| ARun.qv (n_build rfl rfl rfl rfl rfl) rfl <| rF rfl rfl rfl <| rL rfl rfl .p0 rfl rfl <| rM rfl rfl <| ARun.qv (q_addw rfl rfl) rfl <| rF rfl rfl rfl <| rL rfl rfl .p0 rfl rfl <| rM rfl rfl <| ARun.qv (q_addw rfl rfl) rfl <| ARun.qv (n_build rfl rfl rfl rfl rfl) rfl <| rF rfl rfl rfl <| rL rfl rfl .p0 rfl rfl <| rF rfl rfl rfl <| rL rfl rfl .p0 rfl rfl <| rM rfl rfl <| ARun.qv (q_addw rfl rfl) rfl <| ARun.qv (n_build rfl rfl rfl rfl rfl) rfl <| n_buildSliceL (xs := ([v1.1, (⟨w64 (v1.1.X + v1.2), v1.1.Y⟩ : Spot), (⟨w64 (v1.1.X + v1.2), w64 (v1.1.Y + v1.2)⟩ : Spot), (⟨v1.1.X, w64 (v1.1.Y + v1.2)⟩ : Spot)]).map Spot.av) rfl rfl rfl rfl rfl rfl <| rA rfl rfl <| rN <| tS <| tS <| ATodo.cut (fun σ' => ∃ (c3 : Bool), place_cells_n3x_j1 p0x0 p1x0 p2x0 c3 = some r ∧ σ' = ⟨77, [(0, .list 2 (p0x0.map Spot.av)), (1, .str p1x0), (2, I p2x0), (3, .nil), (52, .bool c3)], []⟩) ?_ ?_
  · refine tR <| rM rfl rfl <| ARun.qv (q_len_nil rfl) rfl <| ARun.qv (q_gtr rfl rfl) rfl <| rM rfl rfl <| ARun.guard_df rfl rfl rfl (fun hc => ?_) (fun hc => ?_)
    · exact have h := iteF hc h; rM rfl rfl <| rY rfl rfl rfl <| rM rfl rfl <| rY rfl rfl rfl <| bndE h fun v4 e2 h => r_callp rfl (place_touch_c e2) (CoL.refl _) rfl <| rY rfl rfl rfl <| ARun.qv (q_not rfl) rfl <| rE rfl rfl rfl <| rN <| ATodo.stop <| ImpX.lq [] ⟨!v4, h, rfl⟩ rfl rfl
    · exact have h := iteT hc h; rG rfl rfl rfl rfl <| rG rfl rfl rfl rfl <| rG rfl rfl rfl rfl <| rT rfl rfl rfl <| rN <| ATodo.stop <| ImpX.lq [] ⟨true, h, rfl⟩ rfl rfl
  · rintro σ' ⟨c3, h, rfl⟩
    unfold place_cells_n3x_j1 at h
    refine ATodo.cond rfl (fun hc => ?_) (fun hc => ?_)
    · refine have h := iteT hc h; tSR <| rM rfl rfl <| rA rfl rfl <| rN <| ATodo.ret <| ?_
      obtain rfl := Option.some.inj h
      exact ImpX.arr (s := 8) 1 rfl fun b5 => ImpX.here ⟨_, .cons (.tmp _ _ rfl) .nil, _, .cons .p0 .nil, ⟨b5, rfl, rfl⟩⟩
    · refine have h := iteFb hc h; tK <| tS <| tSR <| rM rfl rfl <| ARun.qv (q_len_str rfl) rfl <| rM rfl rfl <| ARun.qv (q_eql rfl rfl) rfl <| rN <| ATodo.cond_d rfl (fun hc => ?_) (fun hc => ?_)
      · refine have h := iteT hc h; tSR <| rM rfl rfl <| rM rfl rfl <| n_buildSliceL (xs := ([p1x0] : List Str).map AV.str) rfl rfl rfl rfl rfl rfl <| bndE h fun l6 e3 h => t_append0 (g := AV.str) rfl rfl rfl rfl rfl rfl rfl rfl (.list _) e3 fun b7 => rA rfl rfl <| rN <| ATodo.ret <| ?_
        obtain rfl := Option.some.inj h
        exact ImpX.here ⟨_, .cons (.tmp _ _ rfl) .nil, _, .cons .p0 .nil, ⟨b7, rfl, rfl⟩⟩
      · refine have h := iteF hc h; tK <| tS <| tSR <| n_buildSliceL (xs := ([([48] : Str), ([49] : Str), ([50] : Str), ([51] : Str)]).map AV.str) rfl rfl rfl rfl rfl rfl <| ARun.qv (t_len rfl) rfl <| rM rfl rfl <| rN <| ATodo.block <| ATodo.loopI (fun x : (List Str) × Int => place_cells_n3x_b1 p0x0 p1x0 p2x0 x.1 x.2) (fun x σ' => ∃ (b11 : Bk), σ' = ⟨77, [(0, .list 2 (p0x0.map Spot.av)), (1, .str p1x0), (2, I p2x0), (3, .sl 1 b11 0 x.1.length), (62, .list 1 ([([48] : Str), ([49] : Str), ([50] : Str), ([51] : Str)].map AV.str)), (63, I ([([48] : Str), ([49] : Str), ([50] : Str), ([51] : Str)].length : Int)), (64, I x.2)], [(b11, .arr 1 (x.1.map AV.str))]⟩) h ?_ ?_
        · exact ImpX.arr (s := 3) 1 rfl fun b14 => ImpX.lq [0] ⟨b14, rfl⟩ rfl rfl
        · intro x z1 σ' J1 hmk h hJ1 hA1
          obtain ⟨l12, n13⟩ := x
          obtain ⟨b11, rfl⟩ := hmk
          replace h : place_cells_n3x_b1 p0x0 p1x0 p2x0 l12 n13 = some z1 := h
          unfold place_cells_n3x_b1 at h
          refine tSR <| ARun.qv (q_lss rfl rfl) rfl <| rN <| tS <| ATodo.cond_d rfl (fun hc => ?_) (fun hc => ?_)
          · refine have h := iteT hc h; tK <| tS <| ATodo.block <| tSR <| bndE h fun v15 e4 h => ARun.qv (t_index rfl rfl rfl e4 rfl rfl) rfl <| ARun.qv (q_load_rptr rfl rfl rfl) rfl <| rA rfl rfl <| rN <| tR <| rM rfl rfl <| rM rfl rfl <| rM rfl rfl <| bndE h fun q16 e5 h => ARun.qv (q_sadd e5 rfl rfl) rfl <| rM rfl rfl <| rM rfl rfl <| bndE h fun v17 e6 h => t_call1 rfl (place_cells_c e6) (CoL.refl _) (.cons .p0 .nil) (fun _ => rfl) rfl fun b18 => rA rfl rfl <| rN <| ATodo.blk <| tR <| ARun.qv (q_addw rfl rfl) rfl <| rM rfl rfl <| rN <| ATodo.stop <| ?_
            obtain rfl := Option.some.inj h
            exact hJ1 _ _ rfl <| ImpX.lq [0] ⟨b18, rfl⟩ rfl rfl
          · refine have h := iteF hc h; ATodo.exit rfl <| have h := outL h hA1; tSR <| rM rfl rfl <| rA rfl rfl <| rN <| ATodo.ret <| ?_
            obtain rfl := Option.some.inj h
            exact ImpX.here ⟨_, .cons (.tmp _ _ rfl) .nil, _, .cons .p0 .nil, ⟨b11, rfl, rfl⟩⟩

set_option maxHeartbeats 4000000 in
theorem place_Cells_c [GI : GTab] {p0x0 : FenceS} {p1x0 : Int} {r : (List Str) × Int} (h : place_Cells p0x0 p1x0 = some r) : ACall Tryd.prog 12 [.agg [.str p0x0.Key, .list 2 (p0x0.Corners.map Spot.av)], I p1x0] [] (T1 (fun d_0 => [(d_0, .arr 1 (r.1.map AV.str))]) (fun d_0 => .tup [.sl 1 d_0 0 r.1.length, I r.2])) := by
  unfold place_Cells at h
  refine ACall.lessH ?_
  refine ACall.bodyN Tryd.func12 rfl Tryd.ntmps12 Tryd.results12 rfl rfl ?_
  refine tSR <| n_box rfl rfl rfl rfl fun b1 => rA rfl rfl <| rA rfl rfl <| rN <| tS <| tSR <| ARun.qv (q_load_ptr_all rfl rfl .p0 rfl) rfl <| bndE h fun v2 e1 h => r_callp rfl (place_CheckFence_c e1) (CoL.refl _) rfl <| rA rfl rfl <| rN <| tSR <| rM rfl rfl <| ARun.qv (q_neq rfl rfl) rfl <| rN <| ATodo.cond_d rfl (fun hc => ?_) (fun hc => ?_)
  · refine have h := iteT hc h; tSR <| rM rfl rfl <| rA rfl rfl <| rA rfl rfl <| rN <| ATodo.ret <| ?_
    obtain rfl := Option.some.inj h
    exact ImpX.arr (s := 4) 1 rfl fun b3 => ImpX.here ⟨_, .cons (.tmp _ _ rfl) (.cons (.tmp _ _ rfl) .nil), _, .cons .p0 .nil, ⟨b3, rfl, rfl⟩⟩
  · refine have h := iteF hc h; tK <| tS <| tSR <| rM rfl rfl <| r_callp rfl (base_Out_c rfl) (CoL.refl _) rfl <| rN <| ATodo.cond rfl (fun hc => ?_) (fun hc => ?_)
    · refine have h := iteT hc h; tSR <| rA rfl rfl <| rA rfl rfl <| rN <| ATodo.ret <| ?_
      obtain rfl := Option.some.inj h
      exact ImpX.arr (s := 4) 1 rfl fun b4 => ImpX.here ⟨_, .cons (.tmp _ _ rfl) (.cons (.tmp _ _ rfl) .nil), _, .cons .p0 .nil, ⟨b4, rfl, rfl⟩⟩
    · refine have h := iteFb hc h; tK <| tSR <| rF rfl rfl rfl <| rL rfl rfl .p0 rfl rfl <| rM rfl rfl <| bndE h fun v5 e2 h => t_call1 rfl (place_cells_n3x_c e2) (CoL.refl _) .nil (fun _ => rfl) rfl fun b6 => rA rfl rfl <| rN <| tS <| tSR <| rM rfl rfl <| ARun.qv (t_len_sl rfl) rfl <| ARun.qv (q_gtr rfl rfl) rfl <| rN <| ATodo.cond_d rfl (fun hc => ?_) (fun hc => ?_)
      · refine have h := iteT hc h; tSR <| rA rfl rfl <| rA rfl rfl <| rN <| ATodo.ret <| ?_
        obtain rfl := Option.some.inj h
        exact ImpX.arr (s := 4) 1 rfl fun b7 => ImpX.here ⟨_, .cons (.tmp _ _ rfl) (.cons (.tmp _ _ rfl) .nil), _, .cons .p0 .nil, ⟨b7, rfl, rfl⟩⟩
      · refine have h := iteF hc h; tK <| tSR <| rM rfl rfl <| rA rfl rfl <| rA rfl rfl <| rN <| ATodo.ret <| ?_
        obtain rfl := Option.some.inj h
        exact ImpX.here ⟨_, .cons (.tmp _ _ rfl) (.cons (.tmp _ _ rfl) .nil), _, .cons .p0 .nil, ⟨b6, rfl, rfl⟩⟩

set_option maxHeartbeats 4000000 in
theorem L_when_c [GI : GTab] {p0x0 : Bool} {p1x0 : Int} {r : Int} (h : L_when p0x0 p1x0 = r) : Pu Tryd.prog 15 [.bool p0x0, I p1x0] (I r) := by
  unfold L_when at h
  refine ACall.bodyN Tryd.func15 rfl Tryd.ntmps15 Tryd.results15 rfl rfl ?_
  refine tSR <| rA rfl rfl <| rN <| tS <| tSR <| rM rfl rfl <| rN <| ATodo.cond rfl (fun hc => ?_) (fun hc => ?_)
  · refine have h := iteT hc h; tSR <| rM rfl rfl <| rA rfl rfl <| rN <| ATodo.ret <| ?_
    obtain rfl := h
    exact ImpX.here ⟨_, .cons (.tmp _ _ rfl) .nil, rfl⟩
  · refine have h := iteFb hc h; tK <| tSR <| rA rfl rfl <| rN <| ATodo.ret <| ?_
    obtain rfl := h
    exact ImpX.here ⟨_, .cons (.tmp _ _ rfl) .nil, rfl⟩

set_option maxHeartbeats 4000000 in
theorem L_errs_c [GI : GTab] {p0x0 : List Int} {r : Int} (h : L_errs p0x0 = some r) : Pu Tryd.prog 13 [.list 1 (p0x0.map I)] (I r) := by
  unfold L_errs at h
  refine ACall.bodyN Tryd.func13 rfl Tryd.ntmps13 Tryd.results13 rfl rfl ?_
  refine tSR <| rA rfl rfl <| rN <| tS <| tSR <| rM rfl rfl <| ARun.qv (t_len rfl) rfl <| rM rfl rfl <| rN <| ATodo.block <| ATodo.loopI (fun x : Int => L_errs_b1 p0x0 x) (fun x σ' => σ' = ⟨15, [(5, .list 1 (p0x0.map I)), (6, I (p0x0.length : Int)), (7, I x)], []⟩) h ?_ ?_
  · exact ImpX.lq [] rfl rfl rfl
  · intro n2 z1 σ' J1 hmk h hJ1 hA1
    obtain rfl := hmk
    replace h : L_errs_b1 p0x0 n2 = some z1 := h
    unfold L_errs_b1 at h
    refine tSR <| ARun.qv (q_lss rfl rfl) rfl <| rN <| tS <| ATodo.cond_d rfl (fun hc => ?_) (fun hc => ?_)
    · refine have h := iteT hc h; tK <| tS <| ATodo.block <| tSR <| bndE h fun v3 e1 h => ARun.qv (t_index rfl rfl rfl e1 rfl rfl) rfl <| ARun.qv (q_load_rptr rfl rfl rfl) rfl <| rA rfl rfl <| rN <| tSR <| rM rfl rfl <| ARun.qv (q_neq rfl rfl) rfl <| rN <| ATodo.cond_d rfl (fun hc => ?_) (fun hc => ?_)
      · refine have h := iteT hc h; tSR <| rM rfl rfl <| rA rfl rfl <| rN <| ATodo.ret <| have h := outL h hA1; ?_
        obtain rfl := Option.some.inj h
        exact ImpX.here ⟨_, .cons (.tmp _ _ rfl) .nil, rfl⟩
      · refine have h := iteF hc h; tK <| ATodo.blk <| tR <| ARun.qv (q_addw rfl rfl) rfl <| rM rfl rfl <| rN <| ATodo.stop <| ?_
        obtain rfl := Option.some.inj h
        exact hJ1 _ _ rfl <| ImpX.lq [] rfl rfl rfl
    · refine have h := iteF hc h; ATodo.exit rfl <| have h := outL h hA1; tSR <| rA rfl rfl <| rN <| ATodo.ret <| ?_
      obtain rfl := Option.some.inj h
      exact ImpX.here ⟨_, .cons (.tmp _ _ rfl) .nil, rfl⟩

set_option maxHeartbeats 4000000 in
theorem Q_only_c [GI : GTab] {p0x0 : Str} {p1x0 : Str} {r : Bool} (h : Q_only p0x0 p1x0 = some r) : Pu Tryd.prog 36 [.str p0x0, .str p1x0] (.bool r) := by
  unfold Q_only at h
  refine ACall.bodyN Tryd.func36 rfl Tryd.ntmps36 Tryd.results36 rfl rfl ?_
  refine tSR <| rA rfl rfl <| rN <| tS <| tSR <| rM rfl rfl <| ARun.qv (q_len_str rfl) rfl <| rM rfl rfl <| rN <| ATodo.block <| ATodo.loopI (fun x : Int => Q_only_b1 p0x0 p1x0 x) (fun x σ' => σ' = ⟨18, [(0, .str p0x0), (1, .str p1x0), (7, I (p0x0.length : Int)), (8, I x)], []⟩) h ?_ ?_
  · exact ImpX.lq [] rfl rfl rfl
  · intro n2 z1 σ' J1 hmk h hJ1 hA1
    obtain rfl := hmk
    replace h : Q_only_b1 p0x0 p1x0 n2 = some z1 := h
    unfold Q_only_b1 at h
    refine tSR <| ARun.qv (q_lss rfl rfl) rfl <| rN <| tS <| ATodo.cond_d rfl (fun hc => ?_) (fun hc => ?_)
    · refine have h := iteT hc h; tK <| tS <| ATodo.block <| tSR <| rM rfl rfl <| rA rfl rfl <| rN <| tSR <| rM rfl rfl <| rM rfl rfl <| rM rfl rfl <| bndE h fun c3 e1 h => ARun.qv (t_index_str rfl rfl e1) rfl <| r_callp rfl (strings_IndexByte_c rfl) (CoL.refl _) rfl <| ARun.qv (q_lss rfl rfl) rfl <| rN <| ATodo.cond_d rfl (fun hc => ?_) (fun hc => ?_)
      · refine have h := iteT hc h; tSR <| rA rfl rfl <| rN <| ATodo.ret <| have h := outL h hA1; ?_
        obtain rfl := Option.some.inj h
        exact ImpX.here ⟨_, .cons (.tmp _ _ rfl) .nil, rfl⟩
      · refine have h := iteF hc h; tK <| ATodo.blk <| tR <| ARun.qv (q_addw rfl rfl) rfl <| rM rfl rfl <| rN <| ATodo.stop <| ?_
        obtain rfl := Option.some.inj h
        exact hJ1 _ _ rfl <| ImpX.lq [] rfl rfl rfl
    · refine have h := iteF hc h; ATodo.exit rfl <| have h := outL h hA1; tSR <| rA rfl rfl <| rN <| ATodo.ret <| ?_
      obtain rfl := Option.some.inj h
      exact ImpX.here ⟨_, .cons (.tmp _ _ rfl) .nil, rfl⟩

set_option maxHeartbeats 4000000 in
theorem Q_CellFault_c [GI : GTab] {p0x0 : Str} {r : Int} (h : Q_CellFault p0x0 = some r) : Pu Tryd.prog 16 [.str p0x0] (I r) := by
  unfold Q_CellFault at h
  refine ACall.bodyN Tryd.func16 rfl Tryd.ntmps16 Tryd.results16 rfl rfl ?_
  refine tSR <| rA rfl rfl <| rN <| tS <| tS <| ATodo.cut (fun σ' => ∃ (c1 : Bool), Q_CellFault_j1 c1 = some r ∧ σ' = ⟨11, [(10, .bool c1)], []⟩) ?_ ?_
  · refine tR <| rM rfl rfl <| ARun.qv (q_len_str rfl) rfl <| ARun.qv (q_gtr rfl rfl) rfl <| rM rfl rfl <| ARun.guard_df rfl rfl rfl (fun hc => ?_) (fun hc => ?_)
    · exact have h := iteF hc h; rM rfl rfl <| rY rfl rfl rfl <| bndE h fun v2 e1 h => r_callp rfl (Q_only_c e1) (CoL.refl _) rfl <| rY rfl rfl rfl <| ARun.qv (q_not rfl) rfl <| rE rfl rfl rfl <| rN <| ATodo.stop <| ImpX.lq [] ⟨!v2, h, rfl⟩ rfl rfl
    · exact have h := iteT hc h; rG rfl rfl rfl rfl <| rG rfl rfl rfl rfl <| rT rfl rfl rfl <| rN <| ATodo.stop <| ImpX.lq [] ⟨true, h, rfl⟩ rfl rfl
  · rintro σ' ⟨c1, h, rfl⟩
    unfold Q_CellFault_j1 at h
    refine ATodo.cond rfl (fun hc => ?_) (fun hc => ?_)
    · refine have h := iteT hc h; tSR <| rA rfl rfl <| rN <| ATodo.ret <| ?_
      obtain rfl := Option.some.inj h
      exact ImpX.here ⟨_, .cons (.tmp _ _ rfl) .nil, rfl⟩
    · refine have h := iteFb hc h; tK <| tSR <| rA rfl rfl <| rN <| ATodo.ret <| ?_
      obtain rfl := Option.some.inj h
      exact ImpX.here ⟨_, .cons (.tmp _ _ rfl) .nil, rfl⟩

set_option maxHeartbeats 4000000 in
theorem Q_Key_c [GI : GTab] {p0x0 : Str} {r : Bool} (h : Q_Key p0x0 = some r) : Pu Tryd.prog 37 [.str p0x0] (.bool r) := by
  unfold Q_Key at h
  refine ACall.bodyN Tryd.func37 rfl Tryd.ntmps37 Tryd.results37 rfl rfl ?_
  refine tSR <| rA rfl rfl <| rN <| tS <| ATodo.cut (fun σ' => ∃ (c1 : Bool), Q_Key_j1 c1 = some r ∧ σ' = ⟨15, [(2, .bool c1)], []⟩) ?_ ?_
  · refine tR <| rM rfl rfl <| ARun.qv (q_len_str rfl) rfl <| r_callp rfl (Q_in_c rfl) (CoL.refl _) rfl <| rM rfl rfl <| ARun.guard rfl rfl rfl (fun hc => ?_) (fun hc => ?_)
    · refine have h := iteT hc h; rM rfl rfl <| rY rfl rfl rfl <| bndE h fun l2 e1 h => ARun.qv (t_slice_str rfl .none (.some _ _ _ rfl) rfl rfl e1) rfl <| rY rfl rfl rfl <| bndE h fun v3 e2 h => r_callp rfl (Q_only_c e2) (CoL.refl _) rfl <| rT rfl rfl rfl <| rM rfl rfl <| ARun.guard rfl rfl rfl (fun hc => ?_) (fun hc => ?_)
      · exact have h := iteT hc h; rM rfl rfl <| rY rfl rfl rfl <| bndE h fun v4 e3 h => r_callp rfl (Q_only_c e3) (CoL.refl _) rfl <| rT rfl rfl rfl <| rA rfl rfl <| rN <| ATodo.stop <| ImpX.lq [] ⟨v4, h, rfl⟩ rfl rfl
      · exact have h := iteFb hc h; rG rfl rfl rfl rfl <| rE rfl rfl rfl <| rA rfl rfl <| rN <| ATodo.stop <| ImpX.lq [] ⟨false, h, rfl⟩ rfl rfl
    · exact have h := iteFb hc h; rG rfl rfl rfl rfl <| rG rfl rfl rfl rfl <| rE rfl rfl rfl <| rM rfl rfl <| rG rfl rfl rfl rfl <| rG rfl rfl rfl rfl <| rE rfl rfl rfl <| rA rfl rfl <| rN <| ATodo.stop <| ImpX.lq [] ⟨false, h, rfl⟩ rfl rfl
  · rintro σ' ⟨c1, h, rfl⟩
    unfold Q_Key_j1 at h
    refine ATodo.ret <| ?_
    obtain rfl := Option.some.inj h
    exact ImpX.here ⟨_, .cons (.tmp _ _ rfl) .nil, rfl⟩

set_option maxHeartbeats 4000000 in
theorem Q_FenceFault_c [GI : GTab] {p0x0 : FenceS} {r : Int} (h : Q_FenceFault p0x0 = some r) : Pu Tryd.prog 17 [.agg [.str p0x0.Key, .list 2 (p0x0.Corners.map Spot.av)]] (I r) := by
  unfold Q_FenceFault at h
  refine ACall.bodyN Tryd.func17 rfl Tryd.ntmps17 Tryd.results17 rfl rfl ?_
  refine tSR <| n_box rfl rfl rfl rfl fun b1 => rA rfl rfl <| rN <| tS <| tSR <| rF rfl rfl rfl <| rL rfl rfl .p0 rfl rfl <| bndE h fun v2 e1 h => r_callp rfl (Q_Key_c e1) (CoL.refl _) rfl <| ARun.qv (q_not rfl) rfl <| rN <| ATodo.cond rfl (fun hc => ?_) (fun hc => ?_)
  · refine have h := iteT hc h; tSR <| rA rfl rfl <| rN <| ATodo.ret <| ?_
    obtain rfl := Option.some.inj h
    exact ImpX.here ⟨_, .cons (.tmp _ _ rfl) .nil, rfl⟩
  · refine have h := iteFb hc h; tK <| tSR <| rF rfl rfl rfl <| rL rfl rfl .p0 rfl rfl <| bndE h fun v3 e2 h => r_callp rfl (Q_CornersFault_c e2) (CoL.refl _) rfl <| rA rfl rfl <| rN <| ATodo.ret <| ?_
    obtain rfl := Option.some.inj h
    exact ImpX.here ⟨_, .cons (.tmp _ _ rfl) .nil, rfl⟩

set_option maxHeartbeats 4000000 in
theorem Q_CellOf_c {p0x0 : Spot} {p1x0 : Int} {r : Str} (h : Q_CellOf p0x0 p1x0 = some r) : Pu Tryd.prog 18 [.agg [I p0x0.X, I p0x0.Y], I p1x0] (.str r) := by
  unfold Q_CellOf at h
  refine ACall.bodyN Tryd.func18 rfl Tryd.ntmps18 Tryd.results18 rfl rfl ?_
  refine tSR <| n_box rfl rfl rfl rfl fun b1 => rA rfl rfl <| rN <| tSR <| rA rfl rfl <| rN <| tS <| tSR <| rM rfl rfl <| rM rfl rfl <| rN <| ATodo.block <| ATodo.loopI (fun x : Str × Int => Q_CellOf_b1 p0x0 p1x0 x.1 x.2) (fun x σ' => σ' = ⟨36, [(2, .ptr b1 0), (5, .str x.1), (9, I p1x0), (10, I x.2)], [(b1, .cells [I p0x0.X, I p0x0.Y])]⟩) h ?_ ?_
  · exact ImpX.lq [0] rfl rfl rfl
  · intro x z1 σ' J1 hmk h hJ1 hA1
    obtain ⟨q4, n5⟩ := x
    obtain rfl := hmk
    replace h : Q_CellOf_b1 p0x0 p1x0 q4 n5 = some z1 := h
    unfold Q_CellOf_b1 at h
    refine tSR <| ARun.qv (q_lss rfl rfl) rfl <| rN <| tS <| ATodo.cond_d rfl (fun hc => ?_) (fun hc => ?_)
    · refine have h := iteT hc h; tK <| tS <| ATodo.block <| tSR <| rM rfl rfl <| rA rfl rfl <| rN <| tS <| ATodo.regionM (id := 5) (A := [0, 1, 3, 0, 8, 31, 63, 0, 128, 384, 0, 1024, 3968, 8064, 127, 32767]) 16 mixed rfl (by kernel_rfl) (by kernel_rfl) <| AM.qv (n_field_ptr rfl rfl) rfl <| AM.qv (q_load_ptr rfl rfl .p0 rfl) rfl <| AM.qv (q_addw rfl rfl) rfl <| AM.qv (q_move rfl) rfl <| AM.qv (q_subw rfl rfl) rfl <| bndE h fun n6 e1 h => AM.qv (t_shrS rfl rfl e1) rfl <| AM.qv (t_and rfl rfl) rfl <| AM.qv (n_field_ptr rfl rfl) rfl <| AM.qv (q_load_ptr rfl rfl .p0 rfl) rfl <| AM.qv (q_addw rfl rfl) rfl <| AM.qv (q_move rfl) rfl <| AM.qv (q_subw rfl rfl) rfl <| bndE h fun n7 e2 h => AM.qv (t_shrS rfl rfl e2) rfl <| AM.qv (t_and rfl rfl) rfl <| AM.qv (q_assign rfl) rfl <| AM.qv (q_assign rfl) rfl <| AM.nil <| rN <| tR <| rM rfl rfl <| rM rfl rfl <| ARun.qv (q_mulw rfl rfl) rfl <| rM rfl rfl <| ARun.qv (q_addw rfl rfl) rfl <| bndE h fun v8 e3 h => r_callp rfl (strconv_Itoa_c e3) (CoL.refl _) rfl <| bndE h fun q9 e4 h => ARun.qv (q_sadd e4 rfl rfl) rfl <| rA rfl rfl <| rN <| ATodo.blk <| tR <| ARun.qv (q_addw rfl rfl) rfl <| rM rfl rfl <| rN <| ATodo.stop <| ?_
      obtain rfl := Option.some.inj h
      exact hJ1 _ _ rfl <| ImpX.lq [0] rfl rfl rfl
    · refine have h := iteF hc h; ATodo.exit rfl <| have h := outL h hA1; tSR <| rM rfl rfl <| rA rfl rfl <| rN <| ATodo.ret <| ?_
      obtain rfl := Option.some.inj h
      exact ImpX.here ⟨_, .cons (.tmp _ _ rfl) .nil, rfl⟩

set_option maxHeartbeats 4000000 in
theorem Q_CellBoxOf_c [GI : GTab] {p0x0 : Str} {r : Spot × Int} (h : Q_CellBoxOf p0x0 = some r) : Pu Tryd.prog 19 [.str p0x0] (.tup [.agg [I r.1.X, I r.1.Y], I r.2]) := by
  unfold Q_CellBoxOf at h
  refine ACall.bodyN Tryd.func19 rfl Tryd.ntmps19 Tryd.results19 rfl rfl ?_
  refine tSR <| n_alloc rfl rfl rfl rfl fun b1 => rA rfl rfl <| rN <| tSR <| ARun.qv (n_build rfl rfl rfl rfl rfl) rfl <| n_alloc rfl rfl rfl rfl fun b2 => n_store_ptr rfl rfl rfl rfl .p0 rfl rfl <| rA rfl rfl <| rN <| tS <| tSR <| rM rfl rfl <| t_conv_sb rfl rfl <| ARun.qv (t_len rfl) rfl <| rM rfl rfl <| rN <| ATodo.block <| ATodo.loopI (fun x : Int × Int × Int × Int => Q_CellBoxOf_b1 p0x0 x.1 x.2.1 x.2.2.1 x.2.2.2) (fun x σ' => σ' = ⟨40, [(2, .ptr b1 0), (4, .ptr b2 0), (5, I x.2.2.1), (10, .list 1 ((bytesI p0x0).map (AV.int .u8))), (11, I ((bytesI p0x0).length : Int)), (12, I x.2.2.2)], [(b1, .cells [I (0 : Int), I (0 : Int)]), (b2, .cells [I x.1, I x.2.1])]⟩) h ?_ ?_
  · exact ImpX.lq [1, 0] rfl rfl rfl
  · intro x z1 σ' J1 hmk h hJ1 hA1
    obtain ⟨n7, n8, n9, n10⟩ := x
    obtain rfl := hmk
    replace h : Q_CellBoxOf_b1 p0x0 n7 n8 n9 n10 = some z1 := h
    unfold Q_CellBoxOf_b1 at h
    refine tSR <| ARun.qv (q_lss rfl rfl) rfl <| rN <| tS <| ATodo.cond_d rfl (fun hc => ?_) (fun hc => ?_)
    · refine have h := iteT hc h; tK <| tS <| ATodo.block <| tSR <| bndE h fun v11 e1 h => ARun.qv (t_index rfl rfl rfl e1 rfl rfl) rfl <| ARun.qv (q_load_rptr rfl rfl rfl) rfl <| rA rfl rfl <| rN <| tSR <| rM rfl rfl <| ARun.qv (t_quo rfl rfl (by decide)) rfl <| rA rfl rfl <| rN <| tS <| ATodo.regionM (id := 6) (A := [0, 1, 0, 0, 8, 24, 60, 0, 128, 508, 1023, 2047, 4095]) 12 mixed rfl (by kernel_rfl) (by kernel_rfl) <| AM.qv (n_field_ptr rfl rfl) rfl <| AM.qv (q_load_ptr rfl rfl .p1 rfl) rfl <| AM.qv (q_move rfl) rfl <| AM.qv (q_move rfl) rfl <| AM.qv (q_subw rfl rfl) rfl <| AM.qv (q_conv_int rfl) rfl <| AM.qv (q_mulw rfl rfl) rfl <| AM.qv (q_move rfl) rfl <| AM.qv (q_mulw rfl rfl) rfl <| bndE h fun n12 e2 h => AM.qv (t_remS rfl rfl e2) rfl <| AM.qv (q_addw rfl rfl) rfl <| AM.qv (n_field_ptr rfl rfl) rfl <| AM.nil <| n_store_ptr rfl rfl rfl rfl .p1 rfl rfl <| rN <| tSR <| rM rfl rfl <| ARun.qv (q_geq rfl rfl) rfl <| rN <| ATodo.cut (fun σ' => ∃ (n13 : Int), Q_CellBoxOf_j1 n7 n9 n10 n12 n13 = some z1 ∧ σ' = ⟨40, [(2, .ptr b1 0), (4, .ptr b2 0), (5, I (w64 (n9.tdiv (2 : Int)))), (10, .list 1 ((bytesI p0x0).map (AV.int .u8))), (11, I ((bytesI p0x0).length : Int)), (12, I n10)], [(b1, .cells [I (0 : Int), I (0 : Int)]), (b2, .cells [I (w64 (n7 + n12)), I n13])]⟩) ?_ ?_
      · refine ATodo.cond_d rfl (fun hc => ?_) (fun hc => ?_)
        · exact have h := iteT hc h; tR <| rF rfl rfl rfl <| rL rfl rfl .p1 rfl rfl <| rM rfl rfl <| ARun.qv (q_addw rfl rfl) rfl <| rF rfl rfl rfl <| n_store_ptr rfl rfl rfl rfl .p1 rfl rfl <| rN <| ATodo.stop <| ImpX.lq [0, 0] ⟨w64 (n8 + (w64 (n9.tdiv (2 : Int)))), h, rfl⟩ rfl rfl
        · exact have h := iteF hc h; tK <| ATodo.stop <| ImpX.lq [0, 0] ⟨n8, h, rfl⟩ rfl rfl
      · rintro σ' ⟨n13, h, rfl⟩
        unfold Q_CellBoxOf_j1 at h
        refine ATodo.blk <| tR <| ARun.qv (q_addw rfl rfl) rfl <| rM rfl rfl <| rN <| ATodo.stop <| ?_
        obtain rfl := Option.some.inj h
        exact hJ1 _ _ rfl <| ImpX.lq [0, 0] rfl rfl rfl
    · refine have h := iteF hc h; ATodo.exit rfl <| have h := outL h hA1; tSR <| ARun.qv (q_load_ptr_all rfl rfl .p1 rfl) rfl <| rM rfl rfl <| n_store_ptr rfl rfl rfl rfl .p0 rfl rfl <| rA rfl rfl <| rN <| ATodo.ret <| ?_
      obtain rfl := Option.some.inj h
      exact ImpX.here ⟨_, .cons (.all _ _ _ _ _ _ rfl .p0 TUnder.h TInfo.h rfl rfl) (.cons (.tmp _ _ rfl) .nil), rfl⟩

set_option maxHeartbeats 4000000 in
theorem Q_WhereOf_c [GI : GTab] {p0x0 : List Spot} {p1x0 : Spot} {r : Int} (h : Q_WhereOf p0x0 p1x0 = some r) : Pu Tryd.prog 58 [.list 2 (p0x0.map Spot.av), .agg [I p1x0.X, I p1x0.Y]] (I r) := by
  unfold Q_WhereOf at h
  refine ACall.bodyN Tryd.func58 rfl Tryd.ntmps58 Tryd.results58 rfl rfl ?_
  refine tSR <| n_box rfl rfl rfl rfl fun b1 => rA rfl rfl <| rN <| tSR <| rA rfl rfl <| rN <| tS <| tSR <| rM rfl rfl <| ARun.qv (t_len rfl) rfl <| rM rfl rfl <| rN <| ATodo.block <| ATodo.loopI (fun x : Int × Int => Q_WhereOf_b1 p0x0 p1x0 x.1 x.2) (fun x σ' => σ' = ⟨71, [(0, .list 2 (p0x0.map Spot.av)), (3, .ptr b1 0), (5, I x.1), (10, I (p0x0.length : Int)), (11, I x.2)], [(b1, .cells [I p1x0.X, I p1x0.Y])]⟩) h ?_ ?_
  · exact ImpX.lq [0] rfl rfl rfl
  · intro x z1 σ' J1 hmk h hJ1 hA1
    obtain ⟨n4, n5⟩ := x
    obtain rfl := hmk
    replace h : Q_WhereOf_b1 p0x0 p1x0 n4 n5 = some z1 := h
    unfold Q_WhereOf_b1 at h
    refine tSR <| ARun.qv (q_lss rfl rfl) rfl <| rN <| tS <| ATodo.cond_d rfl (fun hc => ?_) (fun hc => ?_)
    · refine have h := iteT hc h; tK <| tS <| ATodo.block <| tSR <| rM rfl rfl <| rA rfl rfl <| rN <| tSR <| rM rfl rfl <| rM rfl rfl <| bndE h fun v6 e1 h => r_callp rfl (Q_edge_c e1) (CoL.refl _) rfl <| rM rfl rfl <| rX rfl rfl rfl <| rX rfl rfl rfl <| n_alloc rfl rfl rfl rfl fun b7 => n_alloc rfl rfl rfl rfl fun b8 => n_store_ptr rfl rfl rfl rfl .p1 rfl rfl <| n_store_ptr rfl rfl rfl rfl .p0 rfl rfl <| rN <| tS <| tSR <| ARun.qv (q_load_ptr_all rfl rfl .p1 rfl) rfl <| ARun.qv (q_load_ptr_all rfl rfl .p0 rfl) rfl <| ARun.qv (q_load_ptr_all rfl rfl .p2 rfl) rfl <| r_callp rfl (Q_onWay_c rfl) (CoL.refl _) rfl <| rN <| ATodo.cond rfl (fun hc => ?_) (fun hc => ?_)
      · refine have h := iteT hc h; tSR <| rA rfl rfl <| rN <| ATodo.ret <| have h := outL h hA1; ?_
        obtain rfl := Option.some.inj h
        exact ImpX.here ⟨_, .cons (.tmp _ _ rfl) .nil, rfl⟩
      · refine have h := iteFb hc h; tK <| ATodo.block <| tS <| ATodo.cut (fun σ' => ∃ (c9 : Bool), Q_WhereOf_j1 p1x0 n4 n5 v6 c9 = some z1 ∧ σ' = ⟨71, [(0, .list 2 (p0x0.map Spot.av)), (3, .ptr b1 0), (5, I n4), (7, .ptr b7 0), (8, .ptr b8 0), (10, I (p0x0.length : Int)), (11, I n5), (24, .bool c9)], [(b1, .cells [I p1x0.X, I p1x0.Y]), (b7, .cells [I v6.1.X, I v6.1.Y]), (b8, .cells [I v6.2.X, I v6.2.Y])]⟩) ?_ ?_
        · refine tR <| rF rfl rfl rfl <| rL rfl rfl .p1 rfl rfl <| rF rfl rfl rfl <| rL rfl rfl .p2 rfl rfl <| ARun.qv (q_leq rfl rfl) rfl <| rM rfl rfl <| ARun.guard_dt rfl rfl rfl (fun hc => ?_) (fun hc => ?_)
          · rw [andTd hc] at h
            refine rF rfl rfl rfl <| rY rfl rfl rfl <| rL rfl rfl .p0 rfl rfl <| rY rfl rfl rfl <| rF rfl rfl rfl <| rY rfl rfl rfl <| rL rfl rfl .p2 rfl rfl <| rY rfl rfl rfl <| ARun.qv (q_gtr rfl rfl) rfl <| rT rfl rfl rfl <| rM rfl rfl <| ARun.guard_dt rfl rfl rfl (fun hc => ?_) (fun hc => ?_)
            · rw [andTd hc] at h
              exact ARun.qv (q_load_ptr_all rfl rfl .p1 rfl) rfl <| rY rfl rfl rfl <| ARun.qv (q_load_ptr_all rfl rfl .p0 rfl) rfl <| rY rfl rfl rfl <| ARun.qv (q_load_ptr_all rfl rfl .p2 rfl) rfl <| rY rfl rfl rfl <| r_callp rfl (Q_side_c rfl) (CoL.refl _) rfl <| rY rfl rfl rfl <| ARun.qv (q_gtr rfl rfl) rfl <| rT rfl rfl rfl <| rA rfl rfl <| rN <| ATodo.stop <| ImpX.lq [2, 1, 0] ⟨decide ((0 : Int) < (Q_side v6.1 v6.2 p1x0)), h, rfl⟩ rfl rfl
            · rw [andFd hc] at h
              exact rG rfl rfl rfl rfl <| rG rfl rfl rfl rfl <| rG rfl rfl rfl rfl <| rG rfl rfl rfl rfl <| rE rfl rfl rfl <| rA rfl rfl <| rN <| ATodo.stop <| ImpX.lq [2, 1, 0] ⟨false, h, rfl⟩ rfl rfl
          · rw [andFd hc] at h
            exact rG rfl rfl rfl rfl <| rG rfl rfl rfl rfl <| rG rfl rfl rfl rfl <| rG rfl rfl rfl rfl <| rE rfl rfl rfl <| rM rfl rfl <| rG rfl rfl rfl rfl <| rG rfl rfl rfl rfl <| rG rfl rfl rfl rfl <| rG rfl rfl rfl rfl <| rG rfl rfl rfl rfl <| rE rfl rfl rfl <| rA rfl rfl <| rN <| ATodo.stop <| ImpX.lq [2, 1, 0] ⟨false, h, rfl⟩ rfl rfl
        · rintro σ' ⟨c9, h, rfl⟩
          unfold Q_WhereOf_j1 at h
          refine ATodo.cut (fun σ' => ∃ (n10 : Int), Q_WhereOf_j2 n5 n10 = some z1 ∧ σ' = ⟨71, [(0, .list 2 (p0x0.map Spot.av)), (3, .ptr b1 0), (5, I n10), (10, I (p0x0.length : Int)), (11, I n5)], [(b1, .cells [I p1x0.X, I p1x0.Y])]⟩) ?_ ?_
          · refine ATodo.cond rfl (fun hc => ?_) (fun hc => ?_)
            · exact have h := iteT hc h; tR <| rM rfl rfl <| ARun.qv (q_addw rfl rfl) rfl <| rA rfl rfl <| rN <| ATodo.stop <| ImpX.lq [0] ⟨w64 (n4 + (1 : Int)), h, rfl⟩ rfl rfl
            · refine have h := iteFb hc h; tS <| ATodo.cut (fun σ' => ∃ (c11 : Bool), Q_WhereOf_j3 n4 n5 c11 = some z1 ∧ σ' = ⟨71, [(0, .list 2 (p0x0.map Spot.av)), (3, .ptr b1 0), (5, I n4), (10, I (p0x0.length : Int)), (11, I n5), (46, .bool c11)], [(b1, .cells [I p1x0.X, I p1x0.Y])]⟩) ?_ ?_
              · refine tR <| rF rfl rfl rfl <| rL rfl rfl .p1 rfl rfl <| rF rfl rfl rfl <| rL rfl rfl .p0 rfl rfl <| ARun.qv (q_gtr rfl rfl) rfl <| rM rfl rfl <| ARun.guard_dt rfl rfl rfl (fun hc => ?_) (fun hc => ?_)
                · rw [andTd hc] at h
                  refine rF rfl rfl rfl <| rY rfl rfl rfl <| rL rfl rfl .p2 rfl rfl <| rY rfl rfl rfl <| rF rfl rfl rfl <| rY rfl rfl rfl <| rL rfl rfl .p0 rfl rfl <| rY rfl rfl rfl <| ARun.qv (q_leq rfl rfl) rfl <| rT rfl rfl rfl <| rM rfl rfl <| ARun.guard_dt rfl rfl rfl (fun hc => ?_) (fun hc => ?_)
                  · rw [andTd hc] at h
                    exact ARun.qv (q_load_ptr_all rfl rfl .p1 rfl) rfl <| rY rfl rfl rfl <| ARun.qv (q_load_ptr_all rfl rfl .p2 rfl) rfl <| rY rfl rfl rfl <| ARun.qv (q_load_ptr_all rfl rfl .p0 rfl) rfl <| rY rfl rfl rfl <| r_callp rfl (Q_side_c rfl) (CoL.refl _) rfl <| rY rfl rfl rfl <| ARun.qv (q_lss rfl rfl) rfl <| rT rfl rfl rfl <| rA rfl rfl <| rN <| ATodo.stop <| ImpX.lq [0] ⟨decide ((Q_side v6.1 v6.2 p1x0) < (0 : Int)), h, rfl⟩ rfl rfl
                  · rw [andFd hc] at h
                    exact rG rfl rfl rfl rfl <| rG rfl rfl rfl rfl <| rG rfl rfl rfl rfl <| rG rfl rfl rfl rfl <| rE rfl rfl rfl <| rA rfl rfl <| rN <| ATodo.stop <| ImpX.lq [0] ⟨false, h, rfl⟩ rfl rfl
                · rw [andFd hc] at h
                  exact rG rfl rfl rfl rfl <| rG rfl rfl rfl rfl <| rG rfl rfl rfl rfl <| rG rfl rfl rfl rfl <| rE rfl rfl rfl <| rM rfl rfl <| rG rfl rfl rfl rfl <| rG rfl rfl rfl rfl <| rG rfl rfl rfl rfl <| rG rfl rfl rfl rfl <| rG rfl rfl rfl rfl <| rE rfl rfl rfl <| rA rfl rfl <| rN <| ATodo.stop <| ImpX.lq [0] ⟨false, h, rfl⟩ rfl rfl
              · rintro σ' ⟨c11, h, rfl⟩
                unfold Q_WhereOf_j3 at h
                refine ATodo.cut (fun σ' => ∃ (n12 : Int), Q_WhereOf_j4 n5 n12 = some z1 ∧ σ' = ⟨71, [(0, .list 2 (p0x0.map Spot.av)), (3, .ptr b1 0), (5, I n12), (10, I (p0x0.length : Int)), (11, I n5)], [(b1, .cells [I p1x0.X, I p1x0.Y])]⟩) ?_ ?_
                · refine ATodo.cond rfl (fun hc => ?_) (fun hc => ?_)
                  · exact have h := iteT hc h; tR <| rM rfl rfl <| ARun.qv (q_subw rfl rfl) rfl <| rA rfl rfl <| rN <| ATodo.stop <| ImpX.lq [0] ⟨w64 (n4 - (1 : Int)), h, rfl⟩ rfl rfl
                  · exact have h := iteFb hc h; tK <| ATodo.stop <| ImpX.lq [0] ⟨n4, h, rfl⟩ rfl rfl
                · rintro σ' ⟨n12, h, rfl⟩
                  unfold Q_WhereOf_j4 at h
                  exact ATodo.stop <| ImpX.lq [0] ⟨n12, h, rfl⟩ rfl rfl
          · rintro σ' ⟨n10, h, rfl⟩
            unfold Q_WhereOf_j2 at h
            refine ATodo.blk <| ATodo.blk <| tR <| ARun.qv (q_addw rfl rfl) rfl <| rM rfl rfl <| rN <| ATodo.stop <| ?_
            obtain rfl := Option.some.inj h
            exact hJ1 _ _ rfl <| ImpX.lq [0] rfl rfl rfl
    · refine have h := iteF hc h; ATodo.exit rfl <| have h := outL h hA1; ?_
      unfold Q_WhereOf_k5 at h
      refine tS <| tSR <| rM rfl rfl <| ARun.qv (q_neq rfl rfl) rfl <| rN <| ATodo.cond_d rfl (fun hc => ?_) (fun hc => ?_)
      · refine have h := iteT hc h; tSR <| rA rfl rfl <| rN <| ATodo.ret <| ?_
        obtain rfl := Option.some.inj h
        exact ImpX.here ⟨_, .cons (.tmp _ _ rfl) .nil, rfl⟩
      · refine have h := iteF hc h; tK <| tSR <| rA rfl rfl <| rN <| ATodo.ret <| ?_
        obtain rfl := Option.some.inj h
        exact ImpX.here ⟨_, .cons (.tmp _ _ rfl) .nil, rfl⟩

set_option maxHeartbeats 4000000 in
theorem Q_MeetOf_c [GI : GTab] {p0x0 : List Spot} {p1x0 : List Spot} {r : Bool} (h : Q_MeetOf p0x0 p1x0 = some r) : Pu Tryd.prog 40 [.list 2 (p0x0.map Spot.av), .list 2 (p1x0.map Spot.av)] (.bool r) := by
  unfold Q_MeetOf at h
  refine ACall.bodyN Tryd.func40 rfl Tryd.ntmps40 Tryd.results40 rfl rfl ?_
  refine tSR <| rA rfl rfl <| rN <| tS <| tSR <| rM rfl rfl <| ARun.qv (t_len rfl) rfl <| rM rfl rfl <| rN <| ATodo.block <| ATodo.loopI (fun x : Int => Q_MeetOf_b1 p0x0 p1x0 x) (fun x σ' => σ' = ⟨54, [(0, .list 2 (p0x0.map Spot.av)), (1, .list 2 (p1x0.map Spot.av)), (12, I (p0x0.length : Int)), (13, I x)], []⟩) h ?_ ?_
  · exact ImpX.lq [] rfl rfl rfl
  · intro n2 z1 σ' J1 hmk h hJ1 hA1
    obtain rfl := hmk
    replace h : Q_MeetOf_b1 p0x0 p1x0 n2 = some z1 := h
    unfold Q_MeetOf_b1 at h
    refine tSR <| ARun.qv (q_lss rfl rfl) rfl <| rN <| tS <| ATodo.cond_d rfl (fun hc => ?_) (fun hc => ?_)
    · refine have h := iteT hc h; tK <| tS <| ATodo.block <| tSR <| rM rfl rfl <| rA rfl rfl <| rN <| tSR <| rM rfl rfl <| rM rfl rfl <| bndE h fun v3 e1 h => r_callp rfl (Q_edge_c e1) (CoL.refl _) rfl <| rM rfl rfl <| rX rfl rfl rfl <| rX rfl rfl rfl <| n_alloc rfl rfl rfl rfl fun b4 => n_alloc rfl rfl rfl rfl fun b5 => n_store_ptr rfl rfl rfl rfl .p1 rfl rfl <| n_store_ptr rfl rfl rfl rfl .p0 rfl rfl <| rN <| tSR <| rM rfl rfl <| ARun.qv (t_len rfl) rfl <| rM rfl rfl <| rN <| ATodo.block <| ATodo.loopI (fun x : Int => Q_MeetOf_b2 p1x0 n2 v3 x) (fun x σ' => σ' = ⟨54, [(0, .list 2 (p0x0.map Spot.av)), (1, .list 2 (p1x0.map Spot.av)), (6, .ptr b4 0), (7, .ptr b5 0), (12, I (p0x0.length : Int)), (13, I n2), (23, I (p1x0.length : Int)), (24, I x)], [(b4, .cells [I v3.1.X, I v3.1.Y]), (b5, .cells [I v3.2.X, I v3.2.Y])]⟩) h ?_ ?_
      · exact ImpX.lq [1, 0] rfl rfl rfl
      · intro n7 z2 σ' J2 hmk h hJ2 hA2
        obtain rfl := hmk
        replace h : Q_MeetOf_b2 p1x0 n2 v3 n7 = some z2 := h
        unfold Q_MeetOf_b2 at h
        refine tSR <| ARun.qv (q_lss rfl rfl) rfl <| rN <| tS <| ATodo.cond_d rfl (fun hc => ?_) (fun hc => ?_)
        · refine have h := iteT hc h; tK <| tS <| ATodo.block <| tSR <| rM rfl rfl <| rA rfl rfl <| rN <| tSR <| rM rfl rfl <| rM rfl rfl <| bndE h fun v8 e2 h => r_callp rfl (Q_edge_c e2) (CoL.refl _) rfl <| rM rfl rfl <| rX rfl rfl rfl <| rX rfl rfl rfl <| n_alloc rfl rfl rfl rfl fun b9 => n_alloc rfl rfl rfl rfl fun b10 => n_store_ptr rfl rfl rfl rfl .p1 rfl rfl <| n_store_ptr rfl rfl rfl rfl .p0 rfl rfl <| rN <| tSR <| ARun.qv (q_load_ptr_all rfl rfl .p2 rfl) rfl <| ARun.qv (q_load_ptr_all rfl rfl .p3 rfl) rfl <| ARun.qv (q_load_ptr_all rfl rfl .p1 rfl) rfl <| ARun.qv (q_load_ptr_all rfl rfl .p0 rfl) rfl <| r_callp rfl (Q_touches_c rfl) (CoL.refl _) rfl <| rN <| ATodo.cond rfl (fun hc => ?_) (fun hc => ?_)
          · refine have h := iteT hc h; tSR <| rA rfl rfl <| rN <| ATodo.ret <| have h := outL h hA2; have h := outL h hA1; ?_
            obtain rfl := Option.some.inj h
            exact ImpX.here ⟨_, .cons (.tmp _ _ rfl) .nil, rfl⟩
          · refine have h := iteFb hc h; tK <| ATodo.blk <| tR <| ARun.qv (q_addw rfl rfl) rfl <| rM rfl rfl <| rN <| ATodo.stop <| ?_
            obtain rfl := Option.some.inj h
            exact hJ2 _ _ rfl <| ImpX.lq [2, 2] rfl rfl rfl
        · refine have h := iteF hc h; ATodo.exit rfl <| have h := outL h hA2; ATodo.blk <| tR <| ARun.qv (q_addw rfl rfl) rfl <| rM rfl rfl <| rN <| ATodo.stop <| ?_
          obtain rfl := Option.some.inj h
          exact hJ1 _ _ rfl <| ImpX.lq [] rfl rfl rfl
    · refine have h := iteF hc h; ATodo.exit rfl <| have h := outL h hA1; ?_
      unfold Q_MeetOf_k2 at h
      refine tS <| ATodo.cut (fun σ' => ∃ (c11 : Bool), Q_MeetOf_j1 c11 = some r ∧ σ' = ⟨54, [(4, .bool c11)], []⟩) ?_ ?_
      · refine tR <| rM rfl rfl <| rM rfl rfl <| bndE h fun v12 e3 h => ARun.qv (t_index rfl rfl rfl e3 rfl rfl) rfl <| ARun.qv (q_load_rptr_agg rfl rfl rfl) rfl <| bndE h fun v13 e4 h => r_callp rfl (Q_WhereOf_c e4) (CoL.refl _) rfl <| ARun.qv (q_neq rfl rfl) rfl <| rM rfl rfl <| ARun.guard_df rfl rfl rfl (fun hc => ?_) (fun hc => ?_)
        · exact have h := iteF hc h; rM rfl rfl <| rY rfl rfl rfl <| rM rfl rfl <| rY rfl rfl rfl <| bndE h fun v14 e5 h => ARun.qv (t_index rfl rfl rfl e5 rfl rfl) rfl <| rY rfl rfl rfl <| ARun.qv (q_load_rptr_agg rfl rfl rfl) rfl <| rY rfl rfl rfl <| bndE h fun v15 e6 h => r_callp rfl (Q_WhereOf_c e6) (CoL.refl _) rfl <| rY rfl rfl rfl <| ARun.qv (q_neq rfl rfl) rfl <| rE rfl rfl rfl <| rA rfl rfl <| rN <| ATodo.stop <| ImpX.lq [] ⟨decide (v15 ≠ (0 : Int)), h, rfl⟩ rfl rfl
        · exact have h := iteT hc h; rG rfl rfl rfl rfl <| rG rfl rfl rfl rfl <| rG rfl rfl rfl rfl <| rG rfl rfl rfl rfl <| rG rfl rfl rfl rfl <| rT rfl rfl rfl <| rA rfl rfl <| rN <| ATodo.stop <| ImpX.lq [] ⟨true, h, rfl⟩ rfl rfl
      · rintro σ' ⟨c11, h, rfl⟩
        unfold Q_MeetOf_j1 at h
        refine ATodo.ret <| ?_
        obtain rfl := Option.some.inj h
        exact ImpX.here ⟨_, .cons (.tmp _ _ rfl) .nil, rfl⟩

set_option maxHeartbeats 4000000 in
theorem Q_CellsOf_c [GI : GTab] {p0x0 : List Spot} {p1x0 : Int} {r : (List Str) × Int} (h : Q_CellsOf p0x0 p1x0 = some r) : ACall Tryd.prog 20 [.list 2 (p0x0.map Spot.av), I p1x0] [] (T1 (fun d_0 => [(d_0, .arr 1 (r.1.map AV.str))]) (fun d_0 => .tup [.sl 1 d_0 0 r.1.length, I r.2])) := by
  unfold Q_CellsOf at h
  refine ACall.lessH ?_
  refine ACall.bodyN Tryd.func20 rfl Tryd.ntmps20 Tryd.results20 rfl rfl ?_
  refine tSR <| rA rfl rfl <| rA rfl rfl <| rN <| tSR <| n_buildSlice rfl rfl rfl rfl rfl rfl fun b1 => rA rfl rfl <| rN <| tS <| tSR <| rM rfl rfl <| rM rfl rfl <| rN <| ATodo.block <| ATodo.loopI (fun x : (List Str) × Int => Q_CellsOf_b1 p0x0 p1x0 x.1 x.2) (fun x σ' => ∃ (b5 : Bk), σ' = ⟨80, [(0, .list 2 (p0x0.map Spot.av)), (6, .sl 1 b5 0 x.1.length), (16, I p1x0), (17, I x.2)], [(b5, .arr 1 (x.1.map AV.str))]⟩) h ?_ ?_
  · exact ImpX.lq [0] ⟨b1, rfl⟩ rfl rfl
  · intro x z1 σ' J1 hmk h hJ1 hA1
    obtain ⟨l6, n7⟩ := x
    obtain ⟨b5, rfl⟩ := hmk
    replace h : Q_CellsOf_b1 p0x0 p1x0 l6 n7 = some z1 := h
    unfold Q_CellsOf_b1 at h
    refine tSR <| ARun.qv (q_lss rfl rfl) rfl <| rN <| tS <| ATodo.cond_d rfl (fun hc => ?_) (fun hc => ?_)
    · refine have h := iteT hc h; tK <| tS <| ATodo.block <| tSR <| rA rfl rfl <| rN <| tS <| tSR <| rM rfl rfl <| ARun.qv (t_len_sl rfl) rfl <| rM rfl rfl <| rN <| ATodo.block <| ATodo.loopI (fun x : (List Str) × Int => Q_CellsOf_b2 p0x0 l6 n7 x.1 x.2) (fun x σ' => ∃ (b11 : Bk), σ' = ⟨80, [(0, .list 2 (p0x0.map Spot.av)), (7, .sl 1 b11 0 x.1.length), (16, I p1x0), (17, I n7), (19, .sl 1 b5 0 l6.length), (20, I (l6.length : Int)), (21, I x.2)], [(b11, .arr 1 (x.1.map AV.str)), (b5, .arr 1 (l6.map AV.str))]⟩) h ?_ ?_
      · exact ImpX.arr (s := 7) 1 rfl fun b14 => ImpX.lq [0, 0] ⟨b14, rfl⟩ rfl rfl
      · intro x z2 σ' J2 hmk h hJ2 hA2
        obtain ⟨l12, n13⟩ := x
        obtain ⟨b11, rfl⟩ := hmk
        replace h : Q_CellsOf_b2 p0x0 l6 n7 l12 n13 = some z2 := h
        unfold Q_CellsOf_b2 at h
        refine tSR <| ARun.qv (q_lss rfl rfl) rfl <| rN <| tS <| ATodo.cond_d rfl (fun hc => ?_) (fun hc => ?_)
        · refine have h := iteT hc h; tK <| tS <| ATodo.block <| tSR <| bndE h fun v15 e1 h => ARun.qv (t_index_sl rfl rfl rfl e1) rfl <| ARun.qv (t_load_aptr (g := AV.str) rfl rfl (.inl .p1) e1 rfl) rfl <| rA rfl rfl <| rN <| tSR <| n_buildSliceL (xs := ([([48] : Str), ([49] : Str), ([50] : Str), ([51] : Str)]).map AV.str) rfl rfl rfl rfl rfl rfl <| ARun.qv (t_len rfl) rfl <| rM rfl rfl <| rN <| ATodo.block <| ATodo.loopI (fun x : (List Str) × Int => Q_CellsOf_b3 p0x0 n13 v15 x.1 x.2) (fun x σ' => ∃ (b19 : Bk), σ' = ⟨80, [(0, .list 2 (p0x0.map Spot.av)), (7, .sl 1 b19 0 x.1.length), (9, .str v15), (16, I p1x0), (17, I n7), (19, .sl 1 b5 0 l6.length), (20, I (l6.length : Int)), (21, I n13), (25, .list 1 ([([48] : Str), ([49] : Str), ([50] : Str), ([51] : Str)].map AV.str)), (26, I ([([48] : Str), ([49] : Str), ([50] : Str), ([51] : Str)].length : Int)), (27, I x.2)], [(b19, .arr 1 (x.1.map AV.str)), (b5, .arr 1 (l6.map AV.str))]⟩) h ?_ ?_
          · exact ImpX.lq [0, 0] ⟨b11, rfl⟩ rfl rfl
          · intro x z3 σ' J3 hmk h hJ3 hA3
            obtain ⟨l20, n21⟩ := x
            obtain ⟨b19, rfl⟩ := hmk
            replace h : Q_CellsOf_b3 p0x0 n13 v15 l20 n21 = some z3 := h
            unfold Q_CellsOf_b3 at h
            refine tSR <| ARun.qv (q_lss rfl rfl) rfl <| rN <| tS <| ATodo.cond_d rfl (fun hc => ?_) (fun hc => ?_)
            · refine have h := iteT hc h; tK <| tS <| ATodo.block <| tSR <| bndE h fun v22 e2 h => ARun.qv (t_index rfl rfl rfl e2 rfl rfl) rfl <| ARun.qv (q_load_rptr rfl rfl rfl) rfl <| rA rfl rfl <| rN <| tSR <| rM rfl rfl <| rM rfl rfl <| bndE h fun q23 e3 h => ARun.qv (q_sadd e3 rfl rfl) rfl <| bndE h fun v24 e4 h => r_callp rfl (Q_CellBoxOf_c e4) (CoL.refl _) rfl <| rM rfl rfl <| rX rfl rfl rfl <| rX rfl rfl rfl <| n_alloc rfl rfl rfl rfl fun b25 => n_store_ptr rfl rfl rfl rfl .p0 rfl rfl <| rA rfl rfl <| rN <| tSR <| ARun.qv (q_load_ptr_all rfl rfl .p0 rfl) rfl <| rF rfl rfl rfl <| rL rfl rfl .p0 rfl rfl <| rM rfl rfl <| ARun.qv (q_addw rfl rfl) rfl <| rF rfl rfl rfl <| rL rfl rfl .p0 rfl rfl <| ARun.qv (n_build rfl rfl rfl rfl rfl) rfl <| rF rfl rfl rfl <| rL rfl rfl .p0 rfl rfl <| rM rfl rfl <| ARun.qv (q_addw rfl rfl) rfl <| rF rfl rfl rfl <| rL rfl rfl .p0 rfl rfl <| rM rfl rfl <| ARun.qv (q_addw rfl rfl) rfl <| ARun.qv (n_build rfl rfl rfl rfl rfl) rfl <| rF rfl rfl rfl <| rL rfl rfl .p0 rfl rfl <| rF rfl rfl rfl <| rL rfl rfl .p0 rfl rfl <| rM rfl rfl <| ARun.qv (q_addw rfl rfl) rfl <| ARun.qv (n_build rfl rfl rfl rfl rfl) rfl <| n_buildSliceL (xs := ([v24.1, (⟨w64 (v24.1.X + v24.2), v24.1.Y⟩ : Spot), (⟨w64 (v24.1.X + v24.2), w64 (v24.1.Y + v24.2)⟩ : Spot), (⟨v24.1.X, w64 (v24.1.Y + v24.2)⟩ : Spot)]).map Spot.av) rfl rfl rfl rfl rfl rfl <| rA rfl rfl <| rN <| tSR <| rM rfl rfl <| rM rfl rfl <| bndE h fun v26 e5 h => r_callp rfl (Q_MeetOf_c e5) (CoL.refl _) rfl <| rN <| ATodo.cut (fun σ' => ∃ (b27 : Bk) (l28 : List Str), Q_CellsOf_j1 n21 l28 = some z3 ∧ σ' = ⟨80, [(0, .list 2 (p0x0.map Spot.av)), (7, .sl 1 b27 0 l28.length), (9, .str v15), (16, I p1x0), (17, I n7), (19, .sl 1 b5 0 l6.length), (20, I (l6.length : Int)), (21, I n13), (25, .list 1 ([([48] : Str), ([49] : Str), ([50] : Str), ([51] : Str)].map AV.str)), (26, I ([([48] : Str), ([49] : Str), ([50] : Str), ([51] : Str)].length : Int)), (27, I n21)], [(b27, .arr 1 (l28.map AV.str)), (b5, .arr 1 (l6.map AV.str))]⟩) ?_ ?_
              · refine ATodo.cond rfl (fun hc => ?_) (fun hc => ?_)
                · exact have h := iteT hc h; tR <| rM rfl rfl <| rM rfl rfl <| rM rfl rfl <| bndE h fun q29 e6 h => ARun.qv (q_sadd e6 rfl rfl) rfl <| n_buildSliceL (xs := ([q29] : List Str).map AV.str) rfl rfl rfl rfl rfl rfl <| bndE h fun l30 e7 h => t_append (g := AV.str) rfl rfl rfl rfl rfl rfl rfl rfl (.list _) e7 (fun _ => .p1) rfl fun b31 => rA rfl rfl <| rN <| ATodo.stop <| ImpX.lq [1, 1] ⟨b31, l30, h, rfl⟩ rfl rfl
                · exact have h := iteFb hc h; tK <| ATodo.stop <| ImpX.lq [1, 1] ⟨b19, l20, h, rfl⟩ rfl rfl
              · rintro σ' ⟨b27, l28, h, rfl⟩
                unfold Q_CellsOf_j1 at h
                refine ATodo.blk <| tR <| ARun.qv (q_addw rfl rfl) rfl <| rM rfl rfl <| rN <| ATodo.stop <| ?_
                obtain rfl := Option.some.inj h
                exact hJ3 _ _ rfl <| ImpX.lq [0, 0] ⟨b27, rfl⟩ rfl rfl
            · refine have h := iteF hc h; ATodo.exit rfl <| have h := outL h hA3; ATodo.blk <| tR <| ARun.qv (q_addw rfl rfl) rfl <| rM rfl rfl <| rN <| ATodo.stop <| ?_
              obtain rfl := Option.some.inj h
              exact hJ2 _ _ rfl <| ImpX.lq [0, 0] ⟨b19, rfl⟩ rfl rfl
        · refine have h := iteF hc h; ATodo.exit rfl <| have h := outL h hA2; ?_
          unfold Q_CellsOf_k2 at h
          refine tSR <| rM rfl rfl <| rA rfl rfl <| rN <| tSR <| rM rfl rfl <| ARun.qv (t_len_sl rfl) rfl <| ARun.qv (q_gtr rfl rfl) rfl <| rN <| ATodo.cond_d rfl (fun hc => ?_) (fun hc => ?_)
          · refine have h := iteT hc h; tSR <| rA rfl rfl <| rA rfl rfl <| rN <| ATodo.ret <| have h := outL h hA1; ?_
            obtain rfl := Option.some.inj h
            exact ImpX.arr (s := 4) 1 rfl fun b32 => ImpX.here ⟨_, .cons (.tmp _ _ rfl) (.cons (.tmp _ _ rfl) .nil), _, .cons .p0 .nil, ⟨b32, rfl, rfl⟩⟩
          · refine have h := iteF hc h; tK <| ATodo.blk <| tR <| ARun.qv (q_addw rfl rfl) rfl <| rM rfl rfl <| rN <| ATodo.stop <| ?_
            obtain rfl := Option.some.inj h
            exact hJ1 _ _ rfl <| ImpX.lq [0] ⟨b11, rfl⟩ rfl rfl
    · refine have h := iteF hc h; ATodo.exit rfl <| have h := outL h hA1; tSR <| rM rfl rfl <| rA rfl rfl <| rA rfl rfl <| rN <| ATodo.ret <| ?_
      obtain rfl := Option.some.inj h
      exact ImpX.here ⟨_, .cons (.tmp _ _ rfl) (.cons (.tmp _ _ rfl) .nil), _, .cons .p0 .nil, ⟨b5, rfl, rfl⟩⟩

set_option maxHeartbeats 4000000 in
theorem slices_Equal_string_string_c [GI : GTab] {p0x0 : List Str} {p1x0 : List Str} {r : Bool} (h : slices_Equal_string_string p0x0 p1x0 = some r) : Pu Tryd.prog 21 [.list 1 (p0x0.map AV.str), .list 1 (p1x0.map AV.str)] (.bool r) := by
  unfold slices_Equal_string_string at h
  refine ACall.bodyN Tryd.func21 rfl Tryd.ntmps21 Tryd.results21 rfl rfl ?_
  refine tSR <| rA rfl rfl <| rN <| tS <| tSR <| rM rfl rfl <| ARun.qv (t_len rfl) rfl <| rM rfl rfl <| ARun.qv (t_len rfl) rfl <| ARun.qv (q_neq rfl rfl) rfl <| rN <| ATodo.cond_d rfl (fun hc => ?_) (fun hc => ?_)
  · refine have h := iteT hc h; tSR <| rA rfl rfl <| rN <| ATodo.ret <| ?_
    obtain rfl := Option.some.inj h
    exact ImpX.here ⟨_, .cons (.tmp _ _ rfl) .nil, rfl⟩
  · refine have h := iteF hc h; tK <| tS <| tSR <| rM rfl rfl <| ARun.qv (t_len rfl) rfl <| rM rfl rfl <| rN <| ATodo.block <| ATodo.loopI (fun x : Int => slices_Equal_string_string_b1 p0x0 p1x0 x) (fun x σ' => σ' = ⟨26, [(0, .list 1 (p0x0.map AV.str)), (1, .list 1 (p1x0.map AV.str)), (12, I (p0x0.length : Int)), (13, I x)], []⟩) h ?_ ?_
    · exact ImpX.lq [] rfl rfl rfl
    · intro n2 z1 σ' J1 hmk h hJ1 hA1
      obtain rfl := hmk
      replace h : slices_Equal_string_string_b1 p0x0 p1x0 n2 = some z1 := h
      unfold slices_Equal_string_string_b1 at h
      refine tSR <| ARun.qv (q_lss rfl rfl) rfl <| rN <| tS <| ATodo.cond_d rfl (fun hc => ?_) (fun hc => ?_)
      · refine have h := iteT hc h; tK <| tS <| ATodo.block <| tSR <| rM rfl rfl <| rA rfl rfl <| rN <| tS <| ATodo.regionM (id := 6) (A := [0, 0, 3, 7, 0, 0, 48, 112, 255]) 9 mixed rfl (by kernel_rfl) (by kernel_rfl) <| AM.qv (q_move rfl) rfl <| AM.qv (q_move rfl) rfl <| bndE h fun v3 e1 h => AM.qv (t_index rfl rfl rfl e1 rfl rfl) rfl <| AM.qv (q_load_rptr rfl rfl rfl) rfl <| AM.qv (q_move rfl) rfl <| AM.qv (q_move rfl) rfl <| bndE h fun v4 e2 h => AM.qv (t_index rfl rfl rfl e2 rfl rfl) rfl <| AM.qv (q_load_rptr rfl rfl rfl) rfl <| AM.qv (q_sne rfl rfl) rfl <| AM.nil <| rN <| ATodo.cond_d rfl (fun hc => ?_) (fun hc => ?_)
        · refine have h := iteT hc h; tSR <| rA rfl rfl <| rN <| ATodo.ret <| have h := outL h hA1; ?_
          obtain rfl := Option.some.inj h
          exact ImpX.here ⟨_, .cons (.tmp _ _ rfl) .nil, rfl⟩
        · refine have h := iteF hc h; tK <| ATodo.blk <| tR <| ARun.qv (q_addw rfl rfl) rfl <| rM rfl rfl <| rN <| ATodo.stop <| ?_
          obtain rfl := Option.some.inj h
          exact hJ1 _ _ rfl <| ImpX.lq [] rfl rfl rfl
      · refine have h := iteF hc h; ATodo.exit rfl <| have h := outL h hA1; tSR <| rA rfl rfl <| rN <| ATodo.ret <| ?_
        obtain rfl := Option.some.inj h
        exact ImpX.here ⟨_, .cons (.tmp _ _ rfl) .nil, rfl⟩

set_option maxHeartbeats 4000000 in
theorem L_placed_c [GI : GTab] {r : Bool} (h : L_placed = some r) : Pu Tryd.prog 22 [] (.bool r) := by
  unfold L_placed at h
  refine ACall.bodyN Tryd.func22 rfl Tryd.ntmps22 Tryd.results22 rfl rfl ?_
  refine tSR <| rA rfl rfl <| rN <| tSR <| ARun.qv (n_build rfl rfl rfl rfl rfl) rfl <| bndE h fun v1 e1 h => r_callp rfl (place_Cell_c e1) (CoL.refl _) rfl <| rM rfl rfl <| rX rfl rfl rfl <| rX rfl rfl rfl <| rA rfl rfl <| rA rfl rfl <| rN <| tS <| ATodo.cut (fun σ' => ∃ (c2 : Bool), L_placed_j1 c2 = some r ∧ σ' = ⟨14, [(0, .bool c2)], []⟩) ?_ ?_
  · refine tR <| rM rfl rfl <| ARun.qv (q_eql rfl rfl) rfl <| rM rfl rfl <| ARun.guard_dt rfl rfl rfl (fun hc => ?_) (fun hc => ?_)
    · rw [andTd hc] at h
      exact rM rfl rfl <| rY rfl rfl rfl <| ARun.qv (q_seq rfl rfl) rfl <| rT rfl rfl rfl <| rA rfl rfl <| rN <| ATodo.stop <| ImpX.lq [] ⟨decide (v1.1 = ([51] : Str)), h, rfl⟩ rfl rfl
    · rw [andFd hc] at h
      exact rG rfl rfl rfl rfl <| rE rfl rfl rfl <| rA rfl rfl <| rN <| ATodo.stop <| ImpX.lq [] ⟨false, h, rfl⟩ rfl rfl
  · rintro σ' ⟨c2, h, rfl⟩
    unfold L_placed_j1 at h
    refine ATodo.ret <| ?_
    obtain rfl := Option.some.inj h
    exact ImpX.here ⟨_, .cons (.tmp _ _ rfl) .nil, rfl⟩

end Go.Proofs.YtohbdmanojgegaaDoor

