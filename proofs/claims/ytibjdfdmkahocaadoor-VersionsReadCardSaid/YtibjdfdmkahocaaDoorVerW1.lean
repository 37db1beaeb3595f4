/- The code computes the plain functions: proofs written by shal.py. -/
import Derived.Test.YtibjdfdmkahocaaDoorVerP
import Derived.Test.YtibjdfdmkahocaaDoorLib
set_option maxRecDepth 100000
set_option linter.unusedVariables false
set_option linter.unusedSimpArgs false
namespace Go.Proofs.YtibjdfdmkahocaaDoor
open Go Go.Eng Go.Proofs Go.Beacon
attribute [local irreducible] ARun ATodo AQ QV ACall ImpX AWp AM
instance eqg58 : EqGd Tryd.prog 58 := ⟨by kernel_rfl⟩
instance eqt58 : EqTy Tryd.prog 58 2 Version.av := ⟨fun x y w S v u hv hu => by
  obtain ⟨vs, rfl, hl, ha⟩ := At.agg_inv hv
  obtain ⟨us, rfl, hl', ha'⟩ := At.agg_inv hu
  obtain ⟨v0, p0, q0⟩ := AtA.get hl ha (off := 0) rfl
  obtain ⟨u0, p0', q0'⟩ := AtA.get hl' ha' (off := 0) rfl
  obtain ⟨v1, p1, q1⟩ := AtA.get hl ha (off := 1) rfl
  obtain ⟨u1, p1', q1'⟩ := AtA.get hl' ha' (off := 1) rfl
  obtain ⟨v2, p2, q2⟩ := AtA.get hl ha (off := 2) rfl
  obtain ⟨u2, p2', q2'⟩ := AtA.get hl' ha' (off := 2) rfl
  refine EqR.cast (EqR.struct Tryd.underlying58 (by kernel_rfl) (.cons (by decide) (part_one rfl p0) (part_one rfl p0') (EqR.up (EqTy.h (g := I) x.Major y.Major w S _ _ q0 q0') 0)  (.cons (by decide) (part_one rfl p1) (part_one rfl p1') (EqR.up (EqTy.h (g := I) x.Minor y.Minor w S _ _ q1 q1') 0)  (.cons (by decide) (part_one rfl p2) (part_one rfl p2') (EqR.up (EqTy.h (g := I) x.Patch y.Patch w S _ _ q2 q2') 0) .nil)))) ?_
  obtain ⟨_, _, _⟩ := x
  obtain ⟨_, _, _⟩ := y
  rw [Bool.eq_iff_iff]; simp [and_assoc]⟩
set_option maxHeartbeats 4000000 in
theorem Below_c [GI : GTab] {p0x0 : Int} {p1x0 : Int} {r : Int} (h : Below p0x0 p1x0 = some r) : Pu Tryd.prog 71 [I p0x0, I p1x0] (I r) := by
  unfold Below at h
  refine ACall.bodyN Tryd.func71 rfl Tryd.ntmps71 Tryd.results71 rfl rfl ?_
  refine tSR <| rA rfl rfl <| rN <| tS <| tSR <| rM rfl rfl <| ARun.qv (q_lss rfl rfl) rfl <| rN <| ATodo.cond_d rfl (fun hc => ?_) (fun hc => ?_)
  · refine have h := iteT hc h; tSR <| rA rfl rfl <| rN <| ATodo.ret <| ?_
    obtain rfl := Option.some.inj h
    exact ImpX.here ⟨_, .cons (.tmp _ _ rfl) .nil, rfl⟩
  · refine have h := iteF hc h; tK <| tSR <| rM rfl rfl <| rM rfl rfl <| bndE h fun n1 e1 h => ARun.qv (t_remS rfl rfl e1) rfl <| rA rfl rfl <| rN <| tS <| tSR <| rM rfl rfl <| ARun.qv (q_lss rfl rfl) rfl <| rN <| ATodo.cut (fun σ' => ∃ (n2 : Int), Below_j1 n2 = some r ∧ σ' = ⟨16, [(0, I n2)], []⟩) ?_ ?_
    · refine ATodo.cond_d rfl (fun hc => ?_) (fun hc => ?_)
      · exact have h := iteT hc h; tR <| rM rfl rfl <| rM rfl rfl <| ARun.qv (q_addw rfl rfl) rfl <| rA rfl rfl <| rN <| ATodo.stop <| ImpX.lq [] ⟨w64 (n1 + p1x0), h, rfl⟩ rfl rfl
      · exact have h := iteF hc h; tK <| ATodo.stop <| ImpX.lq [] ⟨n1, h, rfl⟩ rfl rfl
    · rintro σ' ⟨n2, h, rfl⟩
      unfold Below_j1 at h
      refine tSR <| rM rfl rfl <| rA rfl rfl <| rN <| ATodo.ret <| ?_
      obtain rfl := Option.some.inj h
      exact ImpX.here ⟨_, .cons (.tmp _ _ rfl) .nil, rfl⟩

set_option maxHeartbeats 4000000 in
theorem Stream_Next_c [GI : GTab] {b_0 : Bk} {p0x0 : Fleetmake_Stream} {p1x0 : Int} {r : Int × Fleetmake_Stream} (h : Stream_Next p0x0 p1x0 = some r) : ACall Tryd.prog 39 [.ptr b_0 0, I p1x0] [(b_0, .cells [.list 1 (p0x0.L.map I), I p0x0.at_])] (T0 ([(b_0, .cells [.list 1 (r.2.L.map I), I r.2.at_])]) (I r.1)) := by
  unfold Stream_Next at h
  refine ACall.lessH ?_
  refine ACall.bodyN Tryd.func39 rfl Tryd.ntmps39 Tryd.results39 rfl rfl ?_
  refine tSR <| rA rfl rfl <| rN <| tSR <| rM rfl rfl <| ARun.qv (q_nilCheck_ptr rfl) rfl <| rF rfl rfl rfl <| rL rfl rfl .p0 rfl rfl <| ARun.qv (q_addw rfl rfl) rfl <| ARun.qv (q_nilCheck_ptr rfl) rfl <| rF rfl rfl rfl <| n_store_ptr rfl rfl rfl rfl .p0 rfl rfl <| rN <| tS <| tSR <| rM rfl rfl <| ARun.qv (q_nilCheck_ptr rfl) rfl <| rF rfl rfl rfl <| rL rfl rfl .p0 rfl rfl <| ARun.qv (t_len rfl) rfl <| ARun.qv (q_eql rfl rfl) rfl <| rN <| ATodo.cond_d rfl (fun hc => ?_) (fun hc => ?_)
  · refine have h := iteT hc h; tSR <| rM rfl rfl <| ARun.qv (q_nilCheck_ptr rfl) rfl <| rF rfl rfl rfl <| rL rfl rfl .p0 rfl rfl <| ARun.qv (q_mulw rfl rfl) rfl <| rM rfl rfl <| bndE h fun v1 e1 h => r_callp rfl (Below_c e1) (CoL.refl _) rfl <| rA rfl rfl <| rN <| ATodo.ret <| ?_
    obtain rfl := Option.some.inj h
    exact ImpX.here ⟨_, .cons (.tmp _ _ rfl) .nil, _, .cons .p0 .nil, ⟨rfl, rfl⟩⟩
  · refine have h := iteF hc h; tK <| tS <| ATodo.regionM (id := 4) (A := [0, 1, 3, 7, 15, 0, 32, 96, 224, 480, 1023, 2047]) 12 mixed rfl (by kernel_rfl) (by kernel_rfl) <| AM.qv (q_move rfl) rfl <| AM.qv (q_nilCheck_ptr rfl) rfl <| AM.qv (n_field_ptr rfl rfl) rfl <| AM.qv (q_load_ptr rfl rfl .p0 rfl) rfl <| AM.qv (q_subw rfl rfl) rfl <| AM.qv (q_move rfl) rfl <| AM.qv (q_nilCheck_ptr rfl) rfl <| AM.qv (n_field_ptr rfl rfl) rfl <| AM.qv (q_load_ptr rfl rfl .p0 rfl) rfl <| AM.qv (t_len rfl) rfl <| bndE h fun n2 e2 h => AM.qv (t_remS rfl rfl e2) rfl <| AM.qv (q_assign rfl) rfl <| AM.nil <| rN <| tS <| ATodo.regionM (id := 5) (A := [0, 1, 3, 7, 15, 0, 32, 96, 224, 480, 1023, 2047]) 12 mixed rfl (by kernel_rfl) (by kernel_rfl) <| AM.qv (q_move rfl) rfl <| AM.qv (q_nilCheck_ptr rfl) rfl <| AM.qv (n_field_ptr rfl rfl) rfl <| AM.qv (q_load_ptr rfl rfl .p0 rfl) rfl <| AM.qv (q_subw rfl rfl) rfl <| AM.qv (q_move rfl) rfl <| AM.qv (q_nilCheck_ptr rfl) rfl <| AM.qv (n_field_ptr rfl rfl) rfl <| AM.qv (q_load_ptr rfl rfl .p0 rfl) rfl <| AM.qv (t_len rfl) rfl <| bndE h fun n3 e3 h => AM.qv (t_quoS rfl rfl e3) rfl <| AM.qv (q_assign rfl) rfl <| AM.nil <| rN <| tSR <| rM rfl rfl <| ARun.qv (q_nilCheck_ptr rfl) rfl <| rF rfl rfl rfl <| rL rfl rfl .p0 rfl rfl <| rM rfl rfl <| bndE h fun v4 e4 h => ARun.qv (t_index rfl rfl rfl e4 rfl rfl) rfl <| ARun.qv (q_load_rptr rfl rfl rfl) rfl <| bndE h fun v5 e5 h => r_callp rfl (Below_c e5) (CoL.refl _) rfl <| rM rfl rfl <| rM rfl rfl <| ARun.qv (q_addw rfl rfl) rfl <| ARun.qv (q_mulw rfl rfl) rfl <| ARun.qv (q_addw rfl rfl) rfl <| rM rfl rfl <| bndE h fun v6 e6 h => r_callp rfl (Below_c e6) (CoL.refl _) rfl <| rA rfl rfl <| rN <| ATodo.ret <| ?_
    obtain rfl := Option.some.inj h
    exact ImpX.here ⟨_, .cons (.tmp _ _ rfl) .nil, _, .cons .p0 .nil, ⟨rfl, rfl⟩⟩

set_option maxHeartbeats 4000000 in
theorem Stream_Range_c [GI : GTab] {b_0 : Bk} {p0x0 : Fleetmake_Stream} {p1x0 : Int} {p2x0 : Int} {r : Int × Fleetmake_Stream} (h : Stream_Range p0x0 p1x0 p2x0 = some r) : ACall Tryd.prog 10 [.ptr b_0 0, I p1x0, I p2x0] [(b_0, .cells [.list 1 (p0x0.L.map I), I p0x0.at_])] (T0 ([(b_0, .cells [.list 1 (r.2.L.map I), I r.2.at_])]) (I r.1)) := by
  unfold Stream_Range at h
  refine ACall.lessH ?_
  refine ACall.bodyN Tryd.func10 rfl Tryd.ntmps10 Tryd.results10 rfl rfl ?_
  refine tSR <| rA rfl rfl <| rN <| tS <| tSR <| rM rfl rfl <| rM rfl rfl <| ARun.qv (q_lss rfl rfl) rfl <| rN <| ATodo.cond_d rfl (fun hc => ?_) (fun hc => ?_)
  · refine have h := iteT hc h; tSR <| rM rfl rfl <| rA rfl rfl <| rN <| ATodo.ret <| ?_
    obtain rfl := Option.some.inj h
    exact ImpX.here ⟨_, .cons (.tmp _ _ rfl) .nil, _, .cons .p0 .nil, ⟨rfl, rfl⟩⟩
  · refine have h := iteF hc h; tK <| tSR <| rM rfl rfl <| rM rfl rfl <| rM rfl rfl <| rM rfl rfl <| ARun.qv (q_subw rfl rfl) rfl <| ARun.qv (q_addw rfl rfl) rfl <| bndE h fun v1 e1 h => t_call0 rfl (Stream_Next_c e1) (CoL.refl _) (.cons .p0 .nil) rfl rfl <| ARun.qv (q_addw rfl rfl) rfl <| rA rfl rfl <| rN <| ATodo.ret <| ?_
    obtain rfl := Option.some.inj h
    exact ImpX.here ⟨_, .cons (.tmp _ _ rfl) .nil, _, .cons .p0 .nil, ⟨rfl, rfl⟩⟩

set_option maxHeartbeats 4000000 in
theorem Stream_Pick_c [GI : GTab] {b_0 : Bk} {p0x0 : Fleetmake_Stream} {p1x0 : List Int} {r : Int × Fleetmake_Stream} (h : Stream_Pick p0x0 p1x0 = some r) : ACall Tryd.prog 6 [.ptr b_0 0, .list 1 (p1x0.map I)] [(b_0, .cells [.list 1 (p0x0.L.map I), I p0x0.at_])] (T0 ([(b_0, .cells [.list 1 (r.2.L.map I), I r.2.at_])]) (I r.1)) := by
  unfold Stream_Pick at h
  refine ACall.lessH ?_
  refine ACall.bodyN Tryd.func6 rfl Tryd.ntmps6 Tryd.results6 rfl rfl ?_
  refine tSR <| rA rfl rfl <| rN <| tSR <| rM rfl rfl <| rM rfl rfl <| rM rfl rfl <| ARun.qv (t_len rfl) rfl <| bndE h fun v1 e1 h => t_call0 rfl (Stream_Next_c e1) (CoL.refl _) (.cons .p0 .nil) rfl rfl <| bndE h fun v2 e2 h => ARun.qv (t_index rfl rfl rfl e2 rfl rfl) rfl <| ARun.qv (q_load_rptr rfl rfl rfl) rfl <| rA rfl rfl <| rN <| ATodo.ret <| ?_
  obtain rfl := Option.some.inj h
  exact ImpX.here ⟨_, .cons (.tmp _ _ rfl) .nil, _, .cons .p0 .nil, ⟨rfl, rfl⟩⟩

set_option maxHeartbeats 4000000 in
theorem Stream_RightVersion_c [GI : GTab] {b_0 : Bk} {p0x0 : Fleetmake_Stream} {r : Version × Fleetmake_Stream} (h : Stream_RightVersion p0x0 = some r) : ACall Tryd.prog 55 [.ptr b_0 0] [(b_0, .cells [.list 1 (p0x0.L.map I), I p0x0.at_])] (T0 ([(b_0, .cells [.list 1 (r.2.L.map I), I r.2.at_])]) (.agg [I r.1.Major, I r.1.Minor, I r.1.Patch])) := by
  unfold Stream_RightVersion at h
  refine ACall.lessH ?_
  refine ACall.bodyN Tryd.func55 rfl Tryd.ntmps55 Tryd.results55 rfl rfl ?_
  refine tSR <| n_alloc rfl rfl rfl rfl fun b1 => rN <| tSR <| rM rfl rfl <| bndE h fun v2 e1 h => t_call0 rfl (Stream_Range_c e1) (CoL.refl _) (.cons .p1 .nil) rfl rfl <| rM rfl rfl <| n_buildSliceL (xs := ([(0 : Int), (0 : Int), (1 : Int), (5 : Int), (9999 : Int)]).map I) rfl rfl rfl rfl rfl rfl <| bndE h fun v3 e2 h => t_call0 rfl (Stream_Pick_c e2) (CoL.refl _) (.cons .p0 .nil) rfl rfl <| rM rfl rfl <| n_buildSliceL (xs := ([(0 : Int), (0 : Int), (0 : Int), (3 : Int), (9999 : Int)]).map I) rfl rfl rfl rfl rfl rfl <| bndE h fun v4 e3 h => t_call0 rfl (Stream_Pick_c e3) (CoL.refl _) (.cons .p0 .nil) rfl rfl <| ARun.qv (n_build rfl rfl rfl rfl rfl) rfl <| n_store_ptr rfl rfl rfl rfl .p1 rfl rfl <| rN <| ATodo.ret <| ?_
  obtain rfl := Option.some.inj h
  exact ImpX.here ⟨_, .cons (.all _ _ _ _ _ _ rfl .p1 TUnder.h TInfo.h rfl rfl) .nil, _, .cons .p0 .nil, ⟨rfl, rfl⟩⟩

set_option maxHeartbeats 4000000 in
theorem Stream_Flip_c [GI : GTab] {b_0 : Bk} {p0x0 : Fleetmake_Stream} {p1x0 : Int} {r : Bool × Fleetmake_Stream} (h : Stream_Flip p0x0 p1x0 = some r) : ACall Tryd.prog 9 [.ptr b_0 0, I p1x0] [(b_0, .cells [.list 1 (p0x0.L.map I), I p0x0.at_])] (T0 ([(b_0, .cells [.list 1 (r.2.L.map I), I r.2.at_])]) (.bool r.1)) := by
  unfold Stream_Flip at h
  refine ACall.lessH ?_
  refine ACall.bodyN Tryd.func9 rfl Tryd.ntmps9 Tryd.results9 rfl rfl ?_
  refine tSR <| rA rfl rfl <| rN <| tSR <| rM rfl rfl <| rM rfl rfl <| bndE h fun v1 e1 h => t_call0 rfl (Stream_Next_c e1) (CoL.refl _) (.cons .p0 .nil) rfl rfl <| ARun.qv (q_eql rfl rfl) rfl <| rA rfl rfl <| rN <| ATodo.ret <| ?_
  obtain rfl := Option.some.inj h
  exact ImpX.here ⟨_, .cons (.tmp _ _ rfl) .nil, _, .cons .p0 .nil, ⟨rfl, rfl⟩⟩

set_option maxHeartbeats 4000000 in
theorem Stream_Odd_c [GI : GTab] {b_0 : Bk} {p0x0 : Fleetmake_Stream} {p1x0 : Int} {p2x0 : Int} {r : Int × Fleetmake_Stream} (h : Stream_Odd p0x0 p1x0 p2x0 = some r) : ACall Tryd.prog 38 [.ptr b_0 0, I p1x0, I p2x0] [(b_0, .cells [.list 1 (p0x0.L.map I), I p0x0.at_])] (T0 ([(b_0, .cells [.list 1 (r.2.L.map I), I r.2.at_])]) (I r.1)) := by
  unfold Stream_Odd at h
  refine ACall.lessH ?_
  refine ACall.bodyN Tryd.func38 rfl Tryd.ntmps38 Tryd.results38 rfl rfl ?_
  refine tSR <| rA rfl rfl <| rN <| tS <| tSR <| rM rfl rfl <| bndE h fun v1 e1 h => t_call0 rfl (Stream_Flip_c e1) (CoL.refl _) (.cons .p0 .nil) rfl rfl <| rN <| ATodo.cond rfl (fun hc => ?_) (fun hc => ?_)
  · refine have h := iteT hc h; tSR <| rM rfl rfl <| rM rfl rfl <| ARun.qv (q_subw rfl rfl) rfl <| rM rfl rfl <| ARun.qv (q_addw rfl rfl) rfl <| rM rfl rfl <| rM rfl rfl <| n_buildSliceL (xs := ([w64 (p1x0 - (1 : Int)), w64 (p2x0 + (1 : Int)), p1x0, p2x0, (-1099511627776 : Int), (1099511627776 : Int)]).map I) rfl rfl rfl rfl rfl rfl <| bndE h fun v2 e2 h => t_call0 rfl (Stream_Pick_c e2) (CoL.refl _) (.cons .p0 .nil) rfl rfl <| rA rfl rfl <| rN <| ATodo.ret <| ?_
    obtain rfl := Option.some.inj h
    exact ImpX.here ⟨_, .cons (.tmp _ _ rfl) .nil, _, .cons .p0 .nil, ⟨rfl, rfl⟩⟩
  · refine have h := iteFb hc h; tK <| tSR <| rM rfl rfl <| rM rfl rfl <| rM rfl rfl <| bndE h fun v3 e3 h => t_call0 rfl (Stream_Range_c e3) (CoL.refl _) (.cons .p0 .nil) rfl rfl <| rA rfl rfl <| rN <| ATodo.ret <| ?_
    obtain rfl := Option.some.inj h
    exact ImpX.here ⟨_, .cons (.tmp _ _ rfl) .nil, _, .cons .p0 .nil, ⟨rfl, rfl⟩⟩

set_option maxHeartbeats 4000000 in
theorem Stream_Version_c [GI : GTab] {b_0 : Bk} {p0x0 : Fleetmake_Stream} {r : Version × Fleetmake_Stream} (h : Stream_Version p0x0 = some r) : ACall Tryd.prog 24 [.ptr b_0 0] [(b_0, .cells [.list 1 (p0x0.L.map I), I p0x0.at_])] (T0 ([(b_0, .cells [.list 1 (r.2.L.map I), I r.2.at_])]) (.agg [I r.1.Major, I r.1.Minor, I r.1.Patch])) := by
  unfold Stream_Version at h
  refine ACall.lessH ?_
  refine ACall.bodyN Tryd.func24 rfl Tryd.ntmps24 Tryd.results24 rfl rfl ?_
  refine tSR <| n_alloc rfl rfl rfl rfl fun b1 => rN <| tSR <| rM rfl rfl <| bndE h fun v2 e1 h => t_call0 rfl (Stream_RightVersion_c e1) (CoL.refl _) (.cons .p1 .nil) rfl rfl <| n_alloc rfl rfl rfl rfl fun b3 => n_store_ptr rfl rfl rfl rfl .p0 rfl rfl <| rN <| tS <| tSR <| rM rfl rfl <| bndE h fun v4 e2 h => t_call0 rfl (Stream_Flip_c e2) (CoL.refl _) (.cons .p1 .nil) rfl rfl <| rN <| ATodo.cut (fun σ' => ∃ (l5 : List Int) (n6 : Int) (n7 : Int) (n8 : Int), Stream_Version_j1 v2 l5 n6 n7 n8 = some r ∧ σ' = ⟨15, [(2, .ptr b1 0), (3, .ptr b3 0)], [(b_0, .cells [.list 1 (l5.map I), I n6]), (b1, .cells [I (0 : Int), I (0 : Int), I (0 : Int)]), (b3, .cells [I v2.1.Major, I n7, I n8])]⟩) ?_ ?_
  · refine ATodo.cond rfl (fun hc => ?_) (fun hc => ?_)
    · exact have h := iteT hc h; tSR <| rM rfl rfl <| bndE h fun v9 e3 h => t_call0 rfl (Stream_Odd_c e3) (CoL.refl _) (.cons .p0 .nil) rfl rfl <| rF rfl rfl rfl <| n_store_ptr rfl rfl rfl rfl .p1 rfl rfl <| rN <| tR <| rM rfl rfl <| bndE h fun v10 e4 h => t_call0 rfl (Stream_Odd_c e4) (CoL.refl _) (.cons .p0 .nil) rfl rfl <| rF rfl rfl rfl <| n_store_ptr rfl rfl rfl rfl .p1 rfl rfl <| rN <| ATodo.stop <| ImpX.lq [0, 1, 0] ⟨v10.2.L, v10.2.at_, v10.1, v9.1, h, rfl⟩ rfl rfl
    · exact have h := iteFb hc h; tK <| ATodo.stop <| ImpX.lq [0, 1, 0] ⟨v4.2.L, v4.2.at_, v2.1.Minor, v2.1.Patch, h, rfl⟩ rfl rfl
  · rintro σ' ⟨l5, n6, n7, n8, h, rfl⟩
    unfold Stream_Version_j1 at h
    refine tSR <| ARun.qv (q_load_ptr_all rfl rfl .p2 rfl) rfl <| n_store_ptr rfl rfl rfl rfl .p1 rfl rfl <| rN <| ATodo.ret <| ?_
    obtain rfl := Option.some.inj h
    exact ImpX.here ⟨_, .cons (.all _ _ _ _ _ _ rfl .p1 TUnder.h TInfo.h rfl rfl) .nil, _, .cons .p0 .nil, ⟨rfl, rfl⟩⟩

set_option maxHeartbeats 4000000 in
theorem Q_VersionLine_c {p0x0 : Version} {r : Str} (h : Q_VersionLine p0x0 = some r) : Pu Tryd.prog 29 [.agg [I p0x0.Major, I p0x0.Minor, I p0x0.Patch]] (.str r) := by
  unfold Q_VersionLine at h
  refine ACall.bodyN Tryd.func29 rfl Tryd.ntmps29 Tryd.results29 rfl rfl ?_
  refine tSR <| n_box rfl rfl rfl rfl fun b1 => rA rfl rfl <| rN <| tS <| ATodo.regionM (id := 1) (A := [0, 1, 3, 7, 0, 16, 55, 127, 255, 0, 512, 1655, 4095, 8191]) 14 mixed rfl (by kernel_rfl) (by kernel_rfl) <| AM.qv (n_field_ptr rfl rfl) rfl <| AM.qv (q_load_ptr rfl rfl .p0 rfl) rfl <| bndE h fun v2 e1 h => AM.callp rfl (strconv_Itoa_c e1) (CoL.refl _) rfl <| bndE h fun q3 e2 h => AM.qv (q_sadd e2 rfl rfl) rfl <| AM.qv (n_field_ptr rfl rfl) rfl <| AM.qv (q_load_ptr rfl rfl .p0 rfl) rfl <| bndE h fun v4 e3 h => AM.callp rfl (strconv_Itoa_c e3) (CoL.refl _) rfl <| bndE h fun q5 e4 h => AM.qv (q_sadd e4 rfl rfl) rfl <| bndE h fun q6 e5 h => AM.qv (q_sadd e5 rfl rfl) rfl <| AM.qv (n_field_ptr rfl rfl) rfl <| AM.qv (q_load_ptr rfl rfl .p0 rfl) rfl <| bndE h fun v7 e6 h => AM.callp rfl (strconv_Itoa_c e6) (CoL.refl _) rfl <| bndE h fun q8 e7 h => AM.qv (q_sadd e7 rfl rfl) rfl <| AM.qv (q_assign rfl) rfl <| AM.nil <| rN <| ATodo.ret <| ?_
  obtain rfl := Option.some.inj h
  exact ImpX.here ⟨_, .cons (.tmp _ _ rfl) .nil, rfl⟩

set_option maxHeartbeats 4000000 in
theorem Stream_Some_c [GI : GTab] {b_0 : Bk} {p0x0 : Fleetmake_Stream} {p1x0 : List Str} {r : Str × Fleetmake_Stream} (h : Stream_Some p0x0 p1x0 = some r) : ACall Tryd.prog 40 [.ptr b_0 0, .list 1 (p1x0.map AV.str)] [(b_0, .cells [.list 1 (p0x0.L.map I), I p0x0.at_])] (T0 ([(b_0, .cells [.list 1 (r.2.L.map I), I r.2.at_])]) (.str r.1)) := by
  unfold Stream_Some at h
  refine ACall.lessH ?_
  refine ACall.bodyN Tryd.func40 rfl Tryd.ntmps40 Tryd.results40 rfl rfl ?_
  refine tSR <| rA rfl rfl <| rN <| tSR <| rM rfl rfl <| rM rfl rfl <| rM rfl rfl <| ARun.qv (t_len rfl) rfl <| bndE h fun v1 e1 h => t_call0 rfl (Stream_Next_c e1) (CoL.refl _) (.cons .p0 .nil) rfl rfl <| bndE h fun v2 e2 h => ARun.qv (t_index rfl rfl rfl e2 rfl rfl) rfl <| ARun.qv (q_load_rptr rfl rfl rfl) rfl <| rA rfl rfl <| rN <| ATodo.ret <| ?_
  obtain rfl := Option.some.inj h
  exact ImpX.here ⟨_, .cons (.tmp _ _ rfl) .nil, _, .cons .p0 .nil, ⟨rfl, rfl⟩⟩

set_option maxHeartbeats 4000000 in
theorem Stream_Changed_c [GI : GTab] {b_0 : Bk} {p0x0 : Fleetmake_Stream} {p1x0 : Str} {p2x0 : Str} {r : Str × Fleetmake_Stream} (h : Stream_Changed p0x0 p1x0 p2x0 = some r) : ACall Tryd.prog 56 [.ptr b_0 0, .str p1x0, .str p2x0] [(b_0, .cells [.list 1 (p0x0.L.map I), I p0x0.at_])] (T0 ([(b_0, .cells [.list 1 (r.2.L.map I), I r.2.at_])]) (.str r.1)) := by
  unfold Stream_Changed at h
  refine ACall.lessH ?_
  refine ACall.bodyN Tryd.func56 rfl Tryd.ntmps56 Tryd.results56 rfl rfl ?_
  refine tSR <| rA rfl rfl <| rN <| tS <| tS <| ATodo.cut (fun σ' => ∃ (c1 : Bool), Stream_Changed_j1 p0x0 p1x0 p2x0 c1 = some r ∧ σ' = ⟨63, [(0, .ptr b_0 0), (1, .str p1x0), (2, .str p2x0), (14, .bool c1)], [(b_0, .cells [.list 1 (p0x0.L.map I), I p0x0.at_])]⟩) ?_ ?_
  · refine tR <| rM rfl rfl <| ARun.qv (q_seq rfl rfl) rfl <| rM rfl rfl <| ARun.guard_df rfl rfl rfl (fun hc => ?_) (fun hc => ?_)
    · rw [orFd hc] at h
      exact rM rfl rfl <| rY rfl rfl rfl <| ARun.qv (q_seq rfl rfl) rfl <| rE rfl rfl rfl <| rN <| ATodo.stop <| ImpX.lq [0] ⟨decide (p2x0 = ([] : Str)), h, rfl⟩ rfl rfl
    · rw [orTd hc] at h
      exact rG rfl rfl rfl rfl <| rT rfl rfl rfl <| rN <| ATodo.stop <| ImpX.lq [0] ⟨true, h, rfl⟩ rfl rfl
  · rintro σ' ⟨c1, h, rfl⟩
    unfold Stream_Changed_j1 at h
    refine ATodo.cond rfl (fun hc => ?_) (fun hc => ?_)
    · refine have h := iteT hc h; tSR <| rM rfl rfl <| rA rfl rfl <| rN <| ATodo.ret <| ?_
      obtain rfl := Option.some.inj h
      exact ImpX.here ⟨_, .cons (.tmp _ _ rfl) .nil, _, .cons .p0 .nil, ⟨rfl, rfl⟩⟩
    · refine have h := iteFb hc h; tK <| tSR <| rM rfl rfl <| rM rfl rfl <| ARun.qv (q_len_str rfl) rfl <| bndE h fun v2 e1 h => t_call0 rfl (Stream_Next_c e1) (CoL.refl _) (.cons .p0 .nil) rfl rfl <| rA rfl rfl <| rN <| tSR <| rM rfl rfl <| rM rfl rfl <| rM rfl rfl <| ARun.qv (q_len_str rfl) rfl <| bndE h fun v3 e2 h => t_call0 rfl (Stream_Next_c e2) (CoL.refl _) (.cons .p0 .nil) rfl rfl <| bndE h fun c4 e3 h => ARun.qv (t_index_str rfl rfl e3) rfl <| rA rfl rfl <| rN <| tS <| tSR <| rM rfl rfl <| bndE h fun v5 e4 h => t_call0 rfl (Stream_Next_c e4) (CoL.refl _) (.cons .p0 .nil) rfl rfl <| rN <| ATodo.block <| tSR <| ARun.qv (q_eql rfl rfl) rfl <| rA rfl rfl <| rN <| ATodo.cond_d rfl (fun hc => ?_) (fun hc => ?_)
      · refine have h := iteT hc h; tS <| ATodo.regionM (id := 7) (A := [0, 0, 3, 0, 8, 24, 63, 0, 0, 256, 896, 2047, 4095]) 13 mixed rfl (by kernel_rfl) (by kernel_rfl) <| AM.qv (q_move rfl) rfl <| AM.qv (q_move rfl) rfl <| bndE h fun l6 e5 h => AM.qv (t_slice_str rfl .none (.some _ _ _ rfl) rfl rfl e5) rfl <| AM.qv (q_move rfl) rfl <| AM.qv (q_conv_int rfl) rfl <| AM.qv (q_conv_is rfl) rfl <| bndE h fun q7 e6 h => AM.qv (q_sadd e6 rfl rfl) rfl <| AM.qv (q_move rfl) rfl <| AM.qv (q_move rfl) rfl <| AM.qv (q_addw rfl rfl) rfl <| bndE h fun l8 e7 h => AM.qv (t_slice_str rfl (.some _ _ _ rfl) .none rfl rfl e7) rfl <| bndE h fun q9 e8 h => AM.qv (q_sadd e8 rfl rfl) rfl <| AM.qv (q_assign rfl) rfl <| AM.nil <| rN <| ATodo.ret <| ?_
        obtain rfl := Option.some.inj h
        exact ImpX.here ⟨_, .cons (.tmp _ _ rfl) .nil, _, .cons .p0 .nil, ⟨rfl, rfl⟩⟩
      · refine have h := iteF hc h; tSR <| ARun.qv (q_eql rfl rfl) rfl <| rA rfl rfl <| rN <| ATodo.cond_d rfl (fun hc => ?_) (fun hc => ?_)
        · refine have h := iteT hc h; tS <| ATodo.regionM (id := 9) (A := [0, 0, 3, 0, 8, 24, 63, 0, 0, 384, 1023, 2047]) 12 mixed rfl (by kernel_rfl) (by kernel_rfl) <| AM.qv (q_move rfl) rfl <| AM.qv (q_move rfl) rfl <| bndE h fun l10 e9 h => AM.qv (t_slice_str rfl .none (.some _ _ _ rfl) rfl rfl e9) rfl <| AM.qv (q_move rfl) rfl <| AM.qv (q_conv_int rfl) rfl <| AM.qv (q_conv_is rfl) rfl <| bndE h fun q11 e10 h => AM.qv (q_sadd e10 rfl rfl) rfl <| AM.qv (q_move rfl) rfl <| AM.qv (q_move rfl) rfl <| bndE h fun l12 e11 h => AM.qv (t_slice_str rfl (.some _ _ _ rfl) .none rfl rfl e11) rfl <| bndE h fun q13 e12 h => AM.qv (q_sadd e12 rfl rfl) rfl <| AM.qv (q_assign rfl) rfl <| AM.nil <| rN <| ATodo.ret <| ?_
          obtain rfl := Option.some.inj h
          exact ImpX.here ⟨_, .cons (.tmp _ _ rfl) .nil, _, .cons .p0 .nil, ⟨rfl, rfl⟩⟩
        · refine have h := iteF hc h; tK <| ATodo.blk <| tS <| ATodo.regionM (id := 10) (A := [0, 0, 3, 0, 0, 16, 56, 127, 255]) 9 mixed rfl (by kernel_rfl) (by kernel_rfl) <| AM.qv (q_move rfl) rfl <| AM.qv (q_move rfl) rfl <| bndE h fun l14 e13 h => AM.qv (t_slice_str rfl .none (.some _ _ _ rfl) rfl rfl e13) rfl <| AM.qv (q_move rfl) rfl <| AM.qv (q_move rfl) rfl <| AM.qv (q_addw rfl rfl) rfl <| bndE h fun l15 e14 h => AM.qv (t_slice_str rfl (.some _ _ _ rfl) .none rfl rfl e14) rfl <| bndE h fun q16 e15 h => AM.qv (q_sadd e15 rfl rfl) rfl <| AM.qv (q_assign rfl) rfl <| AM.nil <| rN <| ATodo.ret <| ?_
          obtain rfl := Option.some.inj h
          exact ImpX.here ⟨_, .cons (.tmp _ _ rfl) .nil, _, .cons .p0 .nil, ⟨rfl, rfl⟩⟩

set_option maxHeartbeats 4000000 in
theorem Stream_VersionText_c {b_0 : Bk} {p0x0 : Fleetmake_Stream} {r : Str × Fleetmake_Stream} (h : Stream_VersionText p0x0 = some r) : ACall Tryd.prog 25 [.ptr b_0 0] [(b_0, .cells [.list 1 (p0x0.L.map I), I p0x0.at_])] (T0 ([(b_0, .cells [.list 1 (r.2.L.map I), I r.2.at_])]) (.str r.1)) := by
  unfold Stream_VersionText at h
  refine ACall.lessH ?_
  refine ACall.bodyN Tryd.func25 rfl Tryd.ntmps25 Tryd.results25 rfl rfl ?_
  refine tSR <| rA rfl rfl <| rN <| tSR <| rM rfl rfl <| bndE h fun v1 e1 h => t_call0 rfl (Stream_RightVersion_c e1) (CoL.refl _) (.cons .p0 .nil) rfl rfl <| bndE h fun v2 e2 h => r_callp rfl (Q_VersionLine_c e2) (CoL.refl _) rfl <| rA rfl rfl <| rN <| tS <| tSR <| rM rfl rfl <| bndE h fun v3 e3 h => t_call0 rfl (Stream_Flip_c e3) (CoL.refl _) (.cons .p0 .nil) rfl rfl <| rN <| ATodo.cut (fun σ' => ∃ (l4 : List Int) (n5 : Int) (q6 : Str), Stream_VersionText_j1 l4 n5 q6 = some r ∧ σ' = ⟨22, [(0, .ptr b_0 0), (3, .str q6)], [(b_0, .cells [.list 1 (l4.map I), I n5])]⟩) ?_ ?_
  · refine ATodo.cond rfl (fun hc => ?_) (fun hc => ?_)
    · exact have h := iteT hc h; tR <| rM rfl rfl <| n_buildSliceL (xs := ([([49, 46, 50] : Str), ([49, 46, 50, 46, 51, 46, 52] : Str), ([48, 49, 46, 50, 46, 51] : Str), ([49, 46, 50, 46, 49, 48, 48, 48, 48] : Str), ([49, 46, 46, 50] : Str), ([] : Str), ([45, 49, 46, 48, 46, 48] : Str), ([49, 46, 50, 46, 120] : Str)]).map AV.str) rfl rfl rfl rfl rfl rfl <| bndE h fun v7 e4 h => t_call0 rfl (Stream_Some_c e4) (CoL.refl _) (.cons .p0 .nil) rfl rfl <| rA rfl rfl <| rN <| ATodo.stop <| ImpX.lq [0] ⟨v7.2.L, v7.2.at_, v7.1, h, rfl⟩ rfl rfl
    · exact have h := iteFb hc h; tK <| ATodo.stop <| ImpX.lq [0] ⟨v3.2.L, v3.2.at_, v2, h, rfl⟩ rfl rfl
  · rintro σ' ⟨l4, n5, q6, h, rfl⟩
    unfold Stream_VersionText_j1 at h
    refine tS <| tSR <| rM rfl rfl <| n_buildSliceL (xs := ([(0 : Int), (0 : Int), (0 : Int), (1 : Int)]).map I) rfl rfl rfl rfl rfl rfl <| bndE h fun v8 e5 h => t_call0 rfl (Stream_Pick_c e5) (CoL.refl _) (.cons .p0 .nil) rfl rfl <| rM rfl rfl <| rN <| ATodo.block <| ATodo.loopI (fun x : (List Int) × Int × Str × Int => Stream_VersionText_b1 v8 x.1 x.2.1 x.2.2.1 x.2.2.2) (fun x σ' => σ' = ⟨22, [(0, .ptr b_0 0), (3, .str x.2.2.1), (14, I v8.1), (15, I x.2.2.2)], [(b_0, .cells [.list 1 (x.1.map I), I x.2.1])]⟩) h ?_ ?_
    · exact ImpX.lq [0] rfl rfl rfl
    · intro x z1 σ' J1 hmk h hJ1 hA1
      obtain ⟨l13, n14, q15, n16⟩ := x
      obtain rfl := hmk
      replace h : Stream_VersionText_b1 v8 l13 n14 q15 n16 = some z1 := h
      unfold Stream_VersionText_b1 at h
      refine tSR <| ARun.qv (q_lss rfl rfl) rfl <| rN <| tS <| ATodo.cond_d rfl (fun hc => ?_) (fun hc => ?_)
      · refine have h := iteT hc h; tK <| tS <| ATodo.block <| tR <| rM rfl rfl <| rM rfl rfl <| bndE h fun v17 e6 h => t_call0 rfl (Stream_Changed_c e6) (CoL.refl _) (.cons .p0 .nil) rfl rfl <| rA rfl rfl <| rN <| ATodo.blk <| tR <| ARun.qv (q_addw rfl rfl) rfl <| rM rfl rfl <| rN <| ATodo.stop <| ?_
        obtain rfl := Option.some.inj h
        exact hJ1 _ _ rfl <| ImpX.lq [0] rfl rfl rfl
      · refine have h := iteF hc h; ATodo.exit rfl <| have h := outL h hA1; tSR <| rM rfl rfl <| rA rfl rfl <| rN <| ATodo.ret <| ?_
        obtain rfl := Option.some.inj h
        exact ImpX.here ⟨_, .cons (.tmp _ _ rfl) .nil, _, .cons .p0 .nil, ⟨rfl, rfl⟩⟩

set_option maxHeartbeats 4000000 in
theorem whole_c [GI : GTab] {p0x0 : Int} {r : Version} (h : whole p0x0 = r) : Pu Tryd.prog 88 [I p0x0] (.agg [I r.Major, I r.Minor, I r.Patch]) := by
  unfold whole at h
  refine ACall.bodyN Tryd.func88 rfl Tryd.ntmps88 Tryd.results88 rfl rfl ?_
  refine tSR <| n_alloc rfl rfl rfl rfl fun b1 => rN <| tSR <| rM rfl rfl <| ARun.qv (n_build rfl rfl rfl rfl rfl) rfl <| n_store_ptr rfl rfl rfl rfl .p0 rfl rfl <| rN <| ATodo.ret <| ?_
  obtain rfl := h
  exact ImpX.here ⟨_, .cons (.all _ _ _ _ _ _ rfl .p0 TUnder.h TInfo.h rfl rfl) .nil, rfl⟩

set_option maxHeartbeats 4000000 in
theorem cmp_isNaN_int_c [GI : GTab] {p0x0 : Int} {r : Bool} (h : cmp_isNaN_int p0x0 = r) : Pu Tryd.prog 93 [I p0x0] (.bool r) := by
  unfold cmp_isNaN_int at h
  refine ACall.bodyN Tryd.func93 rfl Tryd.ntmps93 Tryd.results93 rfl rfl ?_
  refine tSR <| rA rfl rfl <| rN <| tSR <| rM rfl rfl <| rM rfl rfl <| ARun.qv (q_neq rfl rfl) rfl <| rA rfl rfl <| rN <| ATodo.ret <| ?_
  obtain rfl := h
  exact ImpX.here ⟨_, .cons (.tmp _ _ rfl) .nil, rfl⟩

set_option maxHeartbeats 4000000 in
theorem cmp_Compare_int_c [GI : GTab] {p0x0 : Int} {p1x0 : Int} {r : Int} (h : cmp_Compare_int p0x0 p1x0 = r) : Pu Tryd.prog 66 [I p0x0, I p1x0] (I r) := by
  unfold cmp_Compare_int at h
  refine ACall.bodyN Tryd.func66 rfl Tryd.ntmps66 Tryd.results66 rfl rfl ?_
  refine tSR <| rA rfl rfl <| rN <| tSR <| rM rfl rfl <| r_callp rfl (cmp_isNaN_int_c rfl) (CoL.refl _) rfl <| rA rfl rfl <| rN <| tSR <| rM rfl rfl <| r_callp rfl (cmp_isNaN_int_c rfl) (CoL.refl _) rfl <| rA rfl rfl <| rN <| tS <| tSR <| rM rfl rfl <| rN <| ATodo.cond rfl (fun hc => ?_) (fun hc => ?_)
  · refine have h := iteT hc h; tS <| tSR <| rM rfl rfl <| rN <| ATodo.cond rfl (fun hc => ?_) (fun hc => ?_)
    · refine have h := iteT hc h; tSR <| rA rfl rfl <| rN <| ATodo.ret <| ?_
      obtain rfl := h
      exact ImpX.here ⟨_, .cons (.tmp _ _ rfl) .nil, rfl⟩
    · refine have h := iteFb hc h; tK <| tSR <| rA rfl rfl <| rN <| ATodo.ret <| ?_
      obtain rfl := h
      exact ImpX.here ⟨_, .cons (.tmp _ _ rfl) .nil, rfl⟩
  · refine have h := iteFb hc h; tK <| tS <| tSR <| rM rfl rfl <| rN <| ATodo.cond rfl (fun hc => ?_) (fun hc => ?_)
    · refine have h := iteT hc h; tSR <| rA rfl rfl <| rN <| ATodo.ret <| ?_
      obtain rfl := h
      exact ImpX.here ⟨_, .cons (.tmp _ _ rfl) .nil, rfl⟩
    · refine have h := iteFb hc h; tK <| tS <| tSR <| rM rfl rfl <| rM rfl rfl <| ARun.qv (q_lss rfl rfl) rfl <| rN <| ATodo.cond_d rfl (fun hc => ?_) (fun hc => ?_)
      · refine have h := iteT hc h; tSR <| rA rfl rfl <| rN <| ATodo.ret <| ?_
        obtain rfl := h
        exact ImpX.here ⟨_, .cons (.tmp _ _ rfl) .nil, rfl⟩
      · refine have h := iteF hc h; tK <| tS <| tSR <| rM rfl rfl <| rM rfl rfl <| ARun.qv (q_gtr rfl rfl) rfl <| rN <| ATodo.cond_d rfl (fun hc => ?_) (fun hc => ?_)
        · refine have h := iteT hc h; tSR <| rA rfl rfl <| rN <| ATodo.ret <| ?_
          obtain rfl := h
          exact ImpX.here ⟨_, .cons (.tmp _ _ rfl) .nil, rfl⟩
        · refine have h := iteF hc h; tK <| tSR <| rA rfl rfl <| rN <| ATodo.ret <| ?_
          obtain rfl := h
          exact ImpX.here ⟨_, .cons (.tmp _ _ rfl) .nil, rfl⟩

set_option maxHeartbeats 4000000 in
theorem slices_Compare_int_int_c [GI : GTab] {p0x0 : List Int} {p1x0 : List Int} {r : Int} (h : slices_Compare_int_int p0x0 p1x0 = some r) : Pu Tryd.prog 67 [.list 1 (p0x0.map I), .list 1 (p1x0.map I)] (I r) := by
  unfold slices_Compare_int_int at h
  refine ACall.bodyN Tryd.func67 rfl Tryd.ntmps67 Tryd.results67 rfl rfl ?_
  refine tSR <| rA rfl rfl <| rN <| tS <| tSR <| rM rfl rfl <| ARun.qv (t_len rfl) rfl <| rM rfl rfl <| rN <| ATodo.block <| ATodo.loopI (fun x : Int => slices_Compare_int_int_b1 p0x0 p1x0 x) (fun x σ' => σ' = ⟨36, [(0, .list 1 (p0x0.map I)), (1, .list 1 (p1x0.map I)), (9, .list 1 (p0x0.map I)), (10, I (p0x0.length : Int)), (11, I x)], []⟩) h ?_ ?_
  · exact ImpX.lq [] rfl rfl rfl
  · intro n2 z1 σ' J1 hmk h hJ1 hA1
    obtain rfl := hmk
    replace h : slices_Compare_int_int_b1 p0x0 p1x0 n2 = some z1 := h
    unfold slices_Compare_int_int_b1 at h
    refine tSR <| ARun.qv (q_lss rfl rfl) rfl <| rN <| tS <| ATodo.cond_d rfl (fun hc => ?_) (fun hc => ?_)
    · refine have h := iteT hc h; tK <| tS <| ATodo.block <| tSR <| rM rfl rfl <| bndE h fun v3 e1 h => ARun.qv (t_index rfl rfl rfl e1 rfl rfl) rfl <| ARun.qv (q_load_rptr rfl rfl rfl) rfl <| rA rfl rfl <| rA rfl rfl <| rN <| tS <| tSR <| rM rfl rfl <| rM rfl rfl <| ARun.qv (t_len rfl) rfl <| ARun.qv (q_geq rfl rfl) rfl <| rN <| ATodo.cond_d rfl (fun hc => ?_) (fun hc => ?_)
      · refine have h := iteT hc h; tSR <| rA rfl rfl <| rN <| ATodo.ret <| have h := outL h hA1; ?_
        obtain rfl := Option.some.inj h
        exact ImpX.here ⟨_, .cons (.tmp _ _ rfl) .nil, rfl⟩
      · refine have h := iteF hc h; tK <| tSR <| rM rfl rfl <| rM rfl rfl <| bndE h fun v4 e2 h => ARun.qv (t_index rfl rfl rfl e2 rfl rfl) rfl <| ARun.qv (q_load_rptr rfl rfl rfl) rfl <| rA rfl rfl <| rN <| tSR <| rM rfl rfl <| rM rfl rfl <| r_callp rfl (cmp_Compare_int_c rfl) (CoL.refl _) rfl <| rA rfl rfl <| rN <| tSR <| rM rfl rfl <| ARun.qv (q_neq rfl rfl) rfl <| rN <| ATodo.cond_d rfl (fun hc => ?_) (fun hc => ?_)
        · refine have h := iteT hc h; tSR <| rM rfl rfl <| rA rfl rfl <| rN <| ATodo.ret <| have h := outL h hA1; ?_
          obtain rfl := Option.some.inj h
          exact ImpX.here ⟨_, .cons (.tmp _ _ rfl) .nil, rfl⟩
        · refine have h := iteF hc h; tK <| ATodo.blk <| tR <| ARun.qv (q_addw rfl rfl) rfl <| rM rfl rfl <| rN <| ATodo.stop <| ?_
          obtain rfl := Option.some.inj h
          exact hJ1 _ _ rfl <| ImpX.lq [] rfl rfl rfl
    · refine have h := iteF hc h; ATodo.exit rfl <| have h := outL h hA1; ?_
      unfold slices_Compare_int_int_k1 at h
      refine tS <| tSR <| rM rfl rfl <| ARun.qv (t_len rfl) rfl <| rM rfl rfl <| ARun.qv (t_len rfl) rfl <| ARun.qv (q_lss rfl rfl) rfl <| rN <| ATodo.cond_d rfl (fun hc => ?_) (fun hc => ?_)
      · refine have h := iteT hc h; tSR <| rA rfl rfl <| rN <| ATodo.ret <| ?_
        obtain rfl := Option.some.inj h
        exact ImpX.here ⟨_, .cons (.tmp _ _ rfl) .nil, rfl⟩
      · refine have h := iteF hc h; tK <| tSR <| rA rfl rfl <| rN <| ATodo.ret <| ?_
        obtain rfl := Option.some.inj h
        exact ImpX.here ⟨_, .cons (.tmp _ _ rfl) .nil, rfl⟩

set_option maxHeartbeats 4000000 in
theorem Q_VersionOrder_c [GI : GTab] {p0x0 : Version} {p1x0 : Version} {r : Int} (h : Q_VersionOrder p0x0 p1x0 = some r) : Pu Tryd.prog 33 [.agg [I p0x0.Major, I p0x0.Minor, I p0x0.Patch], .agg [I p1x0.Major, I p1x0.Minor, I p1x0.Patch]] (I r) := by
  unfold Q_VersionOrder at h
  refine ACall.bodyN Tryd.func33 rfl Tryd.ntmps33 Tryd.results33 rfl rfl ?_
  refine tSR <| n_box rfl rfl rfl rfl fun b1 => n_box rfl rfl rfl rfl fun b2 => rA rfl rfl <| rN <| tSR <| rF rfl rfl rfl <| rL rfl rfl .p1 rfl rfl <| rF rfl rfl rfl <| rL rfl rfl .p1 rfl rfl <| rF rfl rfl rfl <| rL rfl rfl .p1 rfl rfl <| n_buildSliceL (xs := ([p0x0.Major, p0x0.Minor, p0x0.Patch] : List Int).map I) rfl rfl rfl rfl rfl rfl <| rF rfl rfl rfl <| rL rfl rfl .p0 rfl rfl <| rF rfl rfl rfl <| rL rfl rfl .p0 rfl rfl <| rF rfl rfl rfl <| rL rfl rfl .p0 rfl rfl <| n_buildSliceL (xs := ([p1x0.Major, p1x0.Minor, p1x0.Patch] : List Int).map I) rfl rfl rfl rfl rfl rfl <| bndE h fun v3 e1 h => r_callp rfl (slices_Compare_int_int_c e1) (CoL.refl _) rfl <| rA rfl rfl <| rN <| ATodo.ret <| ?_
  obtain rfl := Option.some.inj h
  exact ImpX.here ⟨_, .cons (.tmp _ _ rfl) .nil, rfl⟩

set_option maxHeartbeats 4000000 in
theorem Stream_RightImages_c [GI : GTab] {b_0 : Bk} {p0x0 : Fleetmake_Stream} {r : (List Image) × Fleetmake_Stream} (h : Stream_RightImages p0x0 = some r) : ACall Tryd.prog 57 [.ptr b_0 0] [(b_0, .cells [.list 1 (p0x0.L.map I), I p0x0.at_])] (T1 (fun d_0 => [(b_0, .cells [.list 1 (r.2.L.map I), I r.2.at_]), (d_0, .arr 6 (r.1.map Image.av))]) (fun d_0 => .sl 6 d_0 0 r.1.length)) := by
  unfold Stream_RightImages at h
  refine ACall.lessH ?_
  refine ACall.bodyN Tryd.func57 rfl Tryd.ntmps57 Tryd.results57 rfl rfl ?_
  refine tSR <| rA rfl rfl <| rN <| tSR <| rA rfl rfl <| rN <| tS <| tSR <| rA rfl rfl <| rN <| ATodo.block <| ATodo.loopI (fun x : (List Int) × Int × (List Image) × Int => Stream_RightImages_b1 x.1 x.2.1 x.2.2.1 x.2.2.2) (fun x σ' => ∃ (b8 : Bk), σ' = ⟨99, [(0, .ptr b_0 0), (3, .sl 6 b8 0 x.2.2.1.length), (4, I x.2.2.2)], [(b_0, .cells [.list 1 (x.1.map I), I x.2.1]), (b8, .arr 6 (x.2.2.1.map Image.av))]⟩) h ?_ ?_
  · exact ImpX.arr (s := 3) 6 rfl fun b11 => ImpX.lq [1, 0] ⟨b11, rfl⟩ rfl rfl
  · intro x z1 σ' J1 hmk h hJ1 hA1
    obtain ⟨l6, n7, l9, n10⟩ := x
    obtain ⟨b8, rfl⟩ := hmk
    replace h : Stream_RightImages_b1 l6 n7 l9 n10 = some z1 := h
    unfold Stream_RightImages_b1 at h
    refine tS <| tSR <| rM rfl rfl <| ARun.qv (q_leq rfl rfl) rfl <| rN <| ATodo.cond_d rfl (fun hc => ?_) (fun hc => ?_)
    · refine have h := iteT hc h; tK <| tS <| ATodo.block <| tSR <| n_buildSliceL (xs := ([(0 : Int), (5 : Int)]).map I) rfl rfl rfl rfl rfl rfl <| ARun.qv (t_len rfl) rfl <| rM rfl rfl <| rN <| ATodo.block <| ATodo.loopI (fun x : (List Int) × Int × (List Image) × Int => Stream_RightImages_b2 n10 x.1 x.2.1 x.2.2.1 x.2.2.2) (fun x σ' => ∃ (b19 : Bk), σ' = ⟨99, [(0, .ptr b_0 0), (3, .sl 6 b19 0 x.2.2.1.length), (4, I n10), (14, .list 1 ([(0 : Int), (5 : Int)].map I)), (15, I ([(0 : Int), (5 : Int)].length : Int)), (16, I x.2.2.2)], [(b_0, .cells [.list 1 (x.1.map I), I x.2.1]), (b19, .arr 6 (x.2.2.1.map Image.av))]⟩) h ?_ ?_
      · exact ImpX.lq [0, 0] ⟨b8, rfl⟩ rfl rfl
      · intro x z2 σ' J2 hmk h hJ2 hA2
        obtain ⟨l17, n18, l20, n21⟩ := x
        obtain ⟨b19, rfl⟩ := hmk
        replace h : Stream_RightImages_b2 n10 l17 n18 l20 n21 = some z2 := h
        unfold Stream_RightImages_b2 at h
        refine tSR <| ARun.qv (q_lss rfl rfl) rfl <| rN <| tS <| ATodo.cond_d rfl (fun hc => ?_) (fun hc => ?_)
        · refine have h := iteT hc h; tK <| tS <| ATodo.cut (fun σ' => ∃ (b24 : Bk) (l22 : List Int) (n23 : Int) (l25 : List Image), Stream_RightImages_j1 n21 l22 n23 l25 = some z2 ∧ σ' = ⟨99, [(0, .ptr b_0 0), (3, .sl 6 b24 0 l25.length), (4, I n10), (14, .list 1 ([(0 : Int), (5 : Int)].map I)), (15, I ([(0 : Int), (5 : Int)].length : Int)), (16, I n21)], [(b_0, .cells [.list 1 (l22.map I), I n23]), (b24, .arr 6 (l25.map Image.av))]⟩) ?_ ?_
          · refine ATodo.block <| tSR <| bndE h fun v26 e1 h => ARun.qv (t_index rfl rfl rfl e1 rfl rfl) rfl <| ARun.qv (q_load_rptr rfl rfl rfl) rfl <| rA rfl rfl <| rN <| tS <| tSR <| rM rfl rfl <| bndE h fun v27 e2 h => t_call0 rfl (Stream_Flip_c e2) (CoL.refl _) (.cons .p0 .nil) rfl rfl <| rN <| ATodo.cond rfl (fun hc => ?_) (fun hc => ?_)
            · exact have h := iteT hc h; ATodo.exit rfl <| ATodo.stop <| ImpX.lq [0, 0] ⟨b19, v27.2.L, v27.2.at_, l20, h, rfl⟩ rfl rfl
            · refine have h := iteFb hc h; tK <| tS <| bndE h fun v28 e3 h => bndE h fun v29 e4 h => bndE h fun v30 e5 h => ATodo.regionT (id := 9) (A := [0, 0, 3, 0, 0, 0, 0, 120, 0, 256, 1016, 2040, 0, 0, 13056, 32767, 0, 131071]) (H0 := [(b_0, .cells [.list 1 (v27.2.L.map I), I v27.2.at_])]) (HH := fun β => [(b_0, .cells [.list 1 (v30.2.L.map I), I v30.2.at_]), ((β 16), .cells [I (0 : Int), I (0 : Int), I (0 : Int), .nil, .nil, I (0 : Int)]), (b19, .arr 6 (l20.map Image.av))]) 17 mixed rfl (by kernel_rfl) (by kernel_rfl) [⟨none, some 9, [], fun _ => (b_0, .cells [.list 1 (v27.2.L.map I), I v27.2.at_]), none⟩, ⟨some 9, some 14, [], fun _ => (b_0, .cells [.list 1 (v28.2.L.map I), I v28.2.at_]), none⟩, ⟨some 14, none, [], fun _ => (b_0, .cells [.list 1 (v30.2.L.map I), I v30.2.at_]), none⟩, ⟨some 16, none, [], fun b => (b, .cells [I (0 : Int), I (0 : Int), I (0 : Int), .nil, .nil, I (0 : Int)]), none⟩] [16] rfl (by kernel_rfl) rfl (.cons .p0 .nil) (fun _ => rfl) <| AT.am 9 rfl rfl <| AM.qv (q_move rfl) rfl <| AM.qv (q_move rfl) rfl <| AM.qv (n_build rfl rfl rfl rfl rfl) rfl <| AM.buildSliceL (xs := ([([109] : Str)]).map AV.str) rfl rfl rfl rfl rfl rfl <| AM.buildSliceL (xs := ([([109] : Str)]).map AV.str) rfl rfl rfl rfl rfl rfl <| AM.buildSliceL (xs := ([([109] : Str), ([110] : Str)]).map AV.str) rfl rfl rfl rfl rfl rfl <| AM.buildSliceL (xs := ([([110] : Str)]).map AV.str) rfl rfl rfl rfl rfl rfl <| AM.buildSliceL (xs := ([[([109] : Str)], [([109] : Str)], [([109] : Str), ([110] : Str)], [([110] : Str)]]).map (encL 1 AV.str)) rfl rfl rfl rfl rfl rfl <| AM.qv (q_move rfl) rfl <| AM.nil <| AT.runS (av := I v28.1) (Ti := [(b_0, .cells [.list 1 (v27.2.L.map I), I v27.2.at_])]) (Pi := [(b_0, .cells [.list 1 (v28.2.L.map I), I v28.2.at_])]) (fun _ => rfl) (fun _ => rfl) (fun _ => rfl) rfl rfl rfl ?_ ?_
              · exact t_call0 rfl (Stream_Next_c e3) (CoL.refl _) (.cons .p0 .nil) rfl rfl <| ARun.nil ⟨_, rfl, rfl⟩
              refine AT.am 4 rfl rfl <| AM.qv (t_index rfl rfl rfl e4 rfl rfl) rfl <| AM.qv (q_load_rptr rfl rfl rfl) rfl <| AM.qv (q_move rfl) rfl <| AM.buildSliceL (xs := ([(1 : Int), (5 : Int), (5 : Int), (10 : Int)]).map I) rfl rfl rfl rfl rfl rfl <| AM.nil <| AT.runS (av := I v30.1) (Ti := [(b_0, .cells [.list 1 (v28.2.L.map I), I v28.2.at_])]) (Pi := [(b_0, .cells [.list 1 (v30.2.L.map I), I v30.2.at_])]) (fun _ => rfl) (fun _ => rfl) (fun _ => rfl) rfl rfl rfl ?_ ?_
              · exact t_call0 rfl (Stream_Pick_c e5) (CoL.refl _) (.cons .p0 .nil) rfl rfl <| ARun.nil ⟨_, rfl, rfl⟩
              refine AT.am 1 rfl rfl <| AM.qv (n_build rfl rfl rfl rfl rfl) rfl <| AM.nil <| AT.runD (V := fun b => .ptr b 0) (Ti := []) (Pi := fun b => [(b, .cells [I (0 : Int), I (0 : Int), I (0 : Int), .nil, .nil, I (0 : Int)])]) (fun _ => rfl) (fun _ => rfl) (fun _ _ => rfl) rfl (fun _ => rfl) rfl rfl rfl ?_ ?_
              · exact n_alloc rfl rfl rfl rfl fun b31 => ARun.nil ⟨b31, _, rfl, rfl⟩
              refine AT.nilN (fun _ => rfl) fun β => ?_
              generalize β 16 = b31
              clear β
              refine n_store_ptr rfl rfl rfl rfl .p1 rfl rfl <| rN <| tSR <| rM rfl rfl <| rM rfl rfl <| ARun.qv (q_subw rfl rfl) rfl <| bndE h fun v32 e6 h => t_call0 rfl (Stream_Range_c e6) (CoL.refl _) (.cons .p0 .nil) rfl rfl <| rA rfl rfl <| rN <| tSR <| rM rfl rfl <| r_callp rfl (whole_c rfl) (CoL.refl _) rfl <| rM rfl rfl <| ARun.qv (q_subw rfl rfl) rfl <| rM rfl rfl <| n_buildSliceL (xs := ([(0 : Int), (5 : Int), (9999 : Int)]).map I) rfl rfl rfl rfl rfl rfl <| bndE h fun v33 e7 h => t_call0 rfl (Stream_Pick_c e7) (CoL.refl _) (.cons .p0 .nil) rfl rfl <| ARun.qv (n_build rfl rfl rfl rfl rfl) rfl <| ARun.qv (n_build rfl rfl rfl rfl rfl) rfl <| n_alloc rfl rfl rfl rfl fun b34 => n_store_ptr rfl rfl rfl rfl .p0 rfl rfl <| rN <| tS <| tS <| ATodo.cut (fun σ' => ∃ (l35 : List Int) (n36 : Int) (c37 : Bool), Stream_RightImages_j2 n10 l20 n21 v26 v29 v30 v32 v33 l35 n36 c37 = some z2 ∧ σ' = ⟨99, [(0, .ptr b_0 0), (3, .sl 6 b19 0 l20.length), (4, I n10), (7, .ptr b31 0), (8, I v32.1), (9, .ptr b34 0), (14, .list 1 ([(0 : Int), (5 : Int)].map I)), (15, I ([(0 : Int), (5 : Int)].length : Int)), (16, I n21), (56, .bool c37)], [(b_0, .cells [.list 1 (l35.map I), I n36]), (b19, .arr 6 (l20.map Image.av)), (b31, .cells [I n10, I v26, I (0 : Int), .list 1 (v29.map AV.str), .nil, I v30.1]), (b34, .cells [I ((whole v32.1).Major), I ((whole v32.1).Minor), I ((whole v32.1).Patch), I (w64 (n10 - (1 : Int))), I v33.1, I (9999 : Int)])]⟩) ?_ ?_
              · refine tR <| rM rfl rfl <| bndE h fun v38 e8 h => t_call0 rfl (Stream_Flip_c e8) (CoL.refl _) (.cons .p1 .nil) rfl rfl <| rM rfl rfl <| ARun.guard rfl rfl rfl (fun hc => ?_) (fun hc => ?_)
                · rw [andTb hc] at h
                  exact rM rfl rfl <| rY rfl rfl rfl <| ARun.qv (q_eql rfl rfl) rfl <| rT rfl rfl rfl <| rN <| ATodo.stop <| ImpX.lq [0, 2, 1, 0] ⟨v38.2.L, v38.2.at_, decide (v26 = (5 : Int)), h, rfl⟩ rfl rfl
                · rw [andFb hc] at h
                  exact rG rfl rfl rfl rfl <| rE rfl rfl rfl <| rN <| ATodo.stop <| ImpX.lq [0, 2, 1, 0] ⟨v38.2.L, v38.2.at_, false, h, rfl⟩ rfl rfl
              · rintro σ' ⟨l35, n36, c37, h, rfl⟩
                unfold Stream_RightImages_j2 at h
                refine ATodo.cut (fun σ' => ∃ (b39 : Bk) (l40 : List Range) (n41 : Int) (n42 : Int) (n43 : Int) (n44 : Int) (n45 : Int), Stream_RightImages_j3 n10 l20 n21 v26 v29 v30 l35 n36 l40 n41 n42 n43 n44 n45 = some z2 ∧ σ' = ⟨99, [(0, .ptr b_0 0), (3, .sl 6 b19 0 l20.length), (4, I n10), (7, .ptr b31 0), (9, .ptr b34 0), (14, .list 1 ([(0 : Int), (5 : Int)].map I)), (15, I ([(0 : Int), (5 : Int)].length : Int)), (16, I n21)], [(b_0, .cells [.list 1 (l35.map I), I n36]), (b19, .arr 6 (l20.map Image.av)), (b31, .cells [I n10, I v26, I (0 : Int), .list 1 (v29.map AV.str), .sl 6 b39 0 l40.length, I v30.1]), (b39, .arr 6 (l40.map Range.av)), (b34, .cells [I n41, I n42, I n43, I n44, I n45, I (9999 : Int)])]⟩) ?_ ?_
                · refine ATodo.cond rfl (fun hc => ?_) (fun hc => ?_)
                  · exact have h := iteT hc h; tS <| ATodo.regionM (id := 13) (A := [0, 1, 0, 4, 0, 28, 60, 124, 255, 511, 1023]) 8 mixed rfl (by kernel_rfl) (by kernel_rfl) <| AM.qv (n_field_ptr rfl rfl) rfl <| AM.qv (q_load_ptr rfl rfl .p2 rfl) rfl <| AM.qv (q_move rfl) rfl <| AM.callp rfl (whole_c rfl) (CoL.refl _) rfl <| AM.qv (q_move rfl) rfl <| AM.callp rfl (whole_c rfl) (CoL.refl _) rfl <| AM.qv (n_build rfl rfl rfl rfl rfl) rfl <| AM.buildSliceL (xs := ([(⟨(whole v32.1), (whole v32.1)⟩ : Range)]).map Range.av) rfl rfl rfl rfl rfl rfl <| AM.nil <| bndE h fun l46 e9 h => t_append0 (g := Range.av) rfl rfl rfl rfl rfl rfl rfl rfl (.list _) e9 fun b47 => rF rfl rfl rfl <| n_store_ptr rfl rfl rfl rfl .p3 rfl rfl <| rN <| tR <| rM rfl rfl <| r_callp rfl (whole_c rfl) (CoL.refl _) rfl <| rM rfl rfl <| ARun.qv (n_build rfl rfl rfl rfl rfl) rfl <| ARun.qv (n_build rfl rfl rfl rfl rfl) rfl <| n_store_ptr rfl rfl rfl rfl .p4 rfl rfl <| rN <| ATodo.stop <| ImpX.lq [1, 1, 1, 0, 0] ⟨b47, l46, (whole n10).Major, (whole n10).Minor, (whole n10).Patch, n10, (4 : Int), h, rfl⟩ rfl rfl
                  · exact have h := iteFb hc h; tK <| ATodo.stop <| ImpX.arrBox (j := 4) 6 (fun _ => .p2) rfl (fun _ => rfl) (fun _ => rfl) fun b48 => ImpX.lq [1, 1, 1, 0, 0] ⟨b48, [], (whole v32.1).Major, (whole v32.1).Minor, (whole v32.1).Patch, w64 (n10 - (1 : Int)), v33.1, h, rfl⟩ rfl rfl
                · rintro σ' ⟨b39, l40, n41, n42, n43, n44, n45, h, rfl⟩
                  unfold Stream_RightImages_j3 at h
                  refine tS <| tS <| ATodo.cut (fun σ' => ∃ (c49 : Bool), Stream_RightImages_j4 n10 l20 n21 v26 v29 v30 l35 n36 l40 n41 n42 n43 n44 n45 c49 = some z2 ∧ σ' = ⟨99, [(0, .ptr b_0 0), (3, .sl 6 b19 0 l20.length), (4, I n10), (7, .ptr b31 0), (9, .ptr b34 0), (14, .list 1 ([(0 : Int), (5 : Int)].map I)), (15, I ([(0 : Int), (5 : Int)].length : Int)), (16, I n21), (86, .bool c49)], [(b_0, .cells [.list 1 (l35.map I), I n36]), (b19, .arr 6 (l20.map Image.av)), (b31, .cells [I n10, I v26, I (0 : Int), .list 1 (v29.map AV.str), .sl 6 b39 0 l40.length, I v30.1]), (b39, .arr 6 (l40.map Range.av)), (b34, .cells [I n41, I n42, I n43, I n44, I n45, I (9999 : Int)])]⟩) ?_ ?_
                  · refine ATodo.regionM (id := 15) (A := [0, 1, 3, 7, 15, 31, 63, 127, 255, 511, 31, 1055, 4095, 8191, 16383]) 15 mixed rfl (by kernel_rfl) (by kernel_rfl) <| AM.qv (n_field_ptr rfl rfl) rfl <| AM.qv (q_load_ptr rfl rfl .p2 rfl) rfl <| AM.qv (t_len_sl rfl) rfl <| AM.qv (q_eql rfl rfl) rfl <| AM.qv (q_move rfl) rfl <| AM.guard_df rfl rfl rfl (fun hc => ?_) (fun hc => ?_)
                    · exact have h := iteF hc h; AM.qv (n_field_ptr rfl rfl) rfl <| AM.guard_yes rfl rfl rfl <| AM.qv (q_load_ptr rfl rfl .p2 rfl) rfl <| AM.guard_yes rfl rfl rfl <| bndE h fun v50 e10 h => AM.qv (t_index_sl rfl rfl rfl e10) rfl <| AM.guard_yes rfl rfl rfl <| AM.qv (t_field_aptr rfl rfl) rfl <| AM.guard_yes rfl rfl rfl <| AM.qv (t_load_aptr_part (g := Range.av) rfl rfl (.inl .p3) e10 rfl rfl) rfl <| AM.guard_yes rfl rfl rfl <| AM.qv (n_field_ptr rfl rfl) rfl <| AM.guard_yes rfl rfl rfl <| AM.qv (n_load_ptr_part rfl rfl .p4 rfl rfl) rfl <| AM.guard_yes rfl rfl rfl <| bndE h fun v51 e11 h => AM.callp rfl (Q_VersionOrder_c e11) (CoL.refl _) rfl <| AM.guard_yes rfl rfl rfl <| AM.qv (q_lss rfl rfl) rfl <| AM.qv (q_pick_f rfl rfl) rfl <| AM.nil <| rN <| ATodo.stop <| ImpX.lq [0, 0, 0, 0, 0] ⟨decide (v51 < (0 : Int)), h, rfl⟩ rfl rfl
                    · exact have h := iteT hc h; AM.guard_no rfl rfl rfl rfl <| AM.guard_no rfl rfl rfl rfl <| AM.guard_no rfl rfl rfl rfl <| AM.guard_no rfl rfl rfl rfl <| AM.guard_no rfl rfl rfl rfl <| AM.guard_no rfl rfl rfl rfl <| AM.guard_no rfl rfl rfl rfl <| AM.guard_no rfl rfl rfl rfl <| AM.qv (q_pick_t rfl rfl) rfl <| AM.nil <| rN <| ATodo.stop <| ImpX.lq [0, 0, 0, 0, 0] ⟨true, h, rfl⟩ rfl rfl
                  · rintro σ' ⟨c49, h, rfl⟩
                    unfold Stream_RightImages_j4 at h
                    refine ATodo.cut (fun σ' => ∃ (b52 : Bk) (l53 : List Range), Stream_RightImages_j5 n10 l20 n21 v26 v29 v30 l35 n36 l53 = some z2 ∧ σ' = ⟨99, [(0, .ptr b_0 0), (3, .sl 6 b19 0 l20.length), (4, I n10), (7, .ptr b31 0), (14, .list 1 ([(0 : Int), (5 : Int)].map I)), (15, I ([(0 : Int), (5 : Int)].length : Int)), (16, I n21)], [(b_0, .cells [.list 1 (l35.map I), I n36]), (b19, .arr 6 (l20.map Image.av)), (b31, .cells [I n10, I v26, I (0 : Int), .list 1 (v29.map AV.str), .sl 6 b52 0 l53.length, I v30.1]), (b52, .arr 6 (l53.map Range.av))]⟩) ?_ ?_
                    · refine ATodo.cond rfl (fun hc => ?_) (fun hc => ?_)
                      · exact have h := iteT hc h; tR <| rF rfl rfl rfl <| rL rfl rfl .p2 rfl rfl <| ARun.qv (q_load_ptr_all rfl rfl .p4 rfl) rfl <| n_buildSliceL (xs := ([(⟨(⟨n41, n42, n43⟩ : Version), (⟨n44, n45, (9999 : Int)⟩ : Version)⟩ : Range)]).map Range.av) rfl rfl rfl rfl rfl rfl <| bndE h fun l54 e12 h => t_append (g := Range.av) rfl rfl rfl rfl rfl rfl rfl rfl (.list _) e12 (fun _ => .p3) rfl fun b55 => rF rfl rfl rfl <| n_store_ptr rfl rfl rfl rfl .p2 rfl rfl <| rN <| ATodo.stop <| ImpX.lq [0, 0, 0, 0] ⟨b55, l54, h, rfl⟩ rfl rfl
                      · exact have h := iteFb hc h; tK <| ATodo.stop <| ImpX.lq [0, 0, 0, 0] ⟨b39, l40, h, rfl⟩ rfl rfl
                    · rintro σ' ⟨b52, l53, h, rfl⟩
                      unfold Stream_RightImages_j5 at h
                      exact tR <| rM rfl rfl <| ARun.qv (q_load_ptr_all rfl rfl .p2 rfl) rfl <| ARun.ghost <| ImpX.freeze .p3 <| ImpX.here <| n_buildSliceL (xs := [.agg [I n10, I v26, I (0 : Int), .list 1 (v29.map AV.str), .sl 6 b52 0 l53.length, I v30.1]]) rfl rfl rfl rfl rfl rfl <| ARun.ghost <| ImpX.cox (s := 95) (av' := .list 6 (([(⟨(⟨n10, v26, (0 : Int)⟩ : Version), v29, l53, v30.1⟩ : Image)] : List Image).map Image.av)) rfl (CoX.listL (.cons .r (.cons .r (.cons .r (.cons .r (.cons (.co (Co.froT .p3)) (.cons .r .nil)))))) rfl rfl) <| ImpX.here <| bndE h fun l56 e13 h => t_append (g := Image.av) rfl rfl rfl rfl rfl rfl rfl rfl (.list _) e13 (fun _ => .p1) rfl fun b57 => rA rfl rfl <| rN <| ATodo.blk <| ATodo.stop <| ImpX.lq [0, 0] ⟨b57, l35, n36, l56, h, rfl⟩ rfl rfl
          · rintro σ' ⟨b24, l22, n23, l25, h, rfl⟩
            unfold Stream_RightImages_j1 at h
            refine tR <| ARun.qv (q_addw rfl rfl) rfl <| rM rfl rfl <| rN <| ATodo.stop <| ?_
            obtain rfl := Option.some.inj h
            exact hJ2 _ _ rfl <| ImpX.lq [0, 0] ⟨b24, rfl⟩ rfl rfl
        · refine have h := iteF hc h; ATodo.exit rfl <| have h := outL h hA2; ATodo.blk <| tR <| rM rfl rfl <| ARun.qv (q_addw rfl rfl) rfl <| rA rfl rfl <| rN <| ATodo.stop <| ?_
          obtain rfl := Option.some.inj h
          exact hJ1 _ _ rfl <| ImpX.lq [0, 0] ⟨b19, rfl⟩ rfl rfl
    · refine have h := iteF hc h; ATodo.exit rfl <| have h := outL h hA1; tSR <| rM rfl rfl <| rA rfl rfl <| rN <| ATodo.ret <| ?_
      obtain rfl := Option.some.inj h
      exact ImpX.here ⟨_, .cons (.tmp _ _ rfl) .nil, _, .cons .p0 (.cons .p0 .nil), ⟨b8, rfl, rfl⟩⟩

set_option maxHeartbeats 4000000 in
theorem slices_Clone_Range_Range_c [GI : GTab] {p0x0 : List Range} {r : (List Range)} (h : slices_Clone_Range_Range p0x0 = some r) : ACall Tryd.prog 58 [.list 6 (p0x0.map Range.av)] [] (T1 (fun d_0 => [(d_0, .arr 6 (r.map Range.av))]) (fun d_0 => .sl 6 d_0 0 r.length)) := by
  unfold slices_Clone_Range_Range at h
  refine ACall.lessH ?_
  refine ACall.bodyN Tryd.func58 rfl Tryd.ntmps58 Tryd.results58 rfl rfl ?_
  refine ATodo.seq ?_
  refine ATodo.region ?_
  refine ARun.qv (q_assign rfl) rfl ?_
  refine ARun.nil ?_
  refine ATodo.seq ?_
  refine ATodo.seq ?_
  refine ATodo.region ?_
  refine ARun.qv (q_move rfl) rfl ?_
  refine r_eqnil rfl rfl rfl rfl (fun c hc => ?_)
  refine ARun.nil ?_
  refine ATodo.cond rfl (fun hT => ?_) (fun hF => ?_)
  · obtain rfl := app_nil_some h (List.map_eq_nil_iff.1 (hc hT))
    refine ATodo.seq ?_
    refine ATodo.region ?_
    refine ARun.qv (q_assign rfl) rfl ?_
    refine ARun.nil ?_
    refine ATodo.ret ?_
    refine ImpX.arr (s := 2) 6 rfl (fun b1 => ?_)
    exact ImpX.here ⟨_, .cons (.tmp _ _ rfl) .nil, _, .cons .here .nil, ⟨b1, rfl, rfl⟩⟩
  · refine ATodo.skip ?_
    refine ATodo.seq ?_
    refine ATodo.region ?_
    refine n_buildSlice (xs := ([] : List Range).map Range.av) rfl rfl rfl rfl rfl rfl (fun b2 => ?_)
    refine ARun.qv (q_move rfl) rfl ?_
    refine t_append (g := Range.av) (Xs := []) rfl rfl rfl rfl rfl rfl rfl rfl (.list _) h (fun _ => .here) rfl (fun b3 => ?_)
    refine ARun.qv (q_assign rfl) rfl ?_
    refine ARun.nil ?_
    refine ATodo.ret ?_
    exact ImpX.here ⟨_, .cons (.tmp _ _ rfl) .nil, _, .cons .here .nil, ⟨b3, rfl, rfl⟩⟩

set_option maxHeartbeats 4000000 in
theorem Stream_Images_c [GI : GTab] {b_0 : Bk} {p0x0 : Fleetmake_Stream} {r : (List Image) × Fleetmake_Stream} (h : Stream_Images p0x0 = some r) : ACall Tryd.prog 26 [.ptr b_0 0] [(b_0, .cells [.list 1 (p0x0.L.map I), I p0x0.at_])] (T1 (fun d_0 => [(b_0, .cells [.list 1 (r.2.L.map I), I r.2.at_]), (d_0, .arr 6 (r.1.map Image.av))]) (fun d_0 => .sl 6 d_0 0 r.1.length)) := by
  unfold Stream_Images at h
  refine ACall.lessH ?_
  refine ACall.bodyN Tryd.func26 rfl Tryd.ntmps26 Tryd.results26 rfl rfl ?_
  refine tSR <| rA rfl rfl <| rN <| tSR <| rM rfl rfl <| bndE h fun v1 e1 h => t_call1 rfl (Stream_RightImages_c e1) (CoL.refl _) (.cons .p0 .nil) (fun _ => rfl) rfl fun b2 => rA rfl rfl <| rN <| tS <| tS <| ATodo.cut (fun σ' => ∃ (l3 : List Int) (n4 : Int) (c5 : Bool), Stream_Images_j1 v1 l3 n4 c5 = some r ∧ σ' = ⟨80, [(0, .ptr b_0 0), (3, .sl 6 b2 0 v1.1.length), (13, .bool c5)], [(b_0, .cells [.list 1 (l3.map I), I n4]), (b2, .arr 6 (v1.1.map Image.av))]⟩) ?_ ?_
  · refine tR <| rM rfl rfl <| ARun.qv (t_len_sl rfl) rfl <| ARun.qv (q_gtr rfl rfl) rfl <| rM rfl rfl <| ARun.guard_dt rfl rfl rfl (fun hc => ?_) (fun hc => ?_)
    · exact have h := iteT hc h; rM rfl rfl <| rY rfl rfl rfl <| bndE h fun v6 e2 h => t_call0 rfl (Stream_Flip_c e2) (CoL.refl _) (.cons .p0 .nil) rfl rfl <| rT rfl rfl rfl <| rN <| ATodo.stop <| ImpX.lq [0, 0] ⟨v6.2.L, v6.2.at_, v6.1, h, rfl⟩ rfl rfl
    · exact have h := iteF hc h; rG rfl rfl rfl rfl <| rE rfl rfl rfl <| rN <| ATodo.stop <| ImpX.lq [0, 0] ⟨v1.2.L, v1.2.at_, false, h, rfl⟩ rfl rfl
  · rintro σ' ⟨l3, n4, c5, h, rfl⟩
    unfold Stream_Images_j1 at h
    refine ATodo.cut (fun σ' => ∃ (l7 : List Int) (n8 : Int) (l9 : List Image), Stream_Images_j2 l7 n8 l9 = some r ∧ σ' = ⟨80, [(3, .sl 6 b2 0 l9.length)], [(b_0, .cells [.list 1 (l7.map I), I n8]), (b2, .arr 6 (l9.map Image.av))]⟩) ?_ ?_
    · refine ATodo.cond rfl (fun hc => ?_) (fun hc => ?_)
      · refine have h := iteT hc h; tSR <| rM rfl rfl <| rM rfl rfl <| rM rfl rfl <| ARun.qv (t_len_sl rfl) rfl <| bndE h fun v10 e3 h => t_call0 rfl (Stream_Next_c e3) (CoL.refl _) (.cons .p0 .nil) rfl rfl <| bndE h fun v11 e4 h => ARun.qv (t_index_sl rfl rfl rfl e4) rfl <| rA rfl rfl <| rN <| tSR <| rM rfl rfl <| bndE h fun v12 e5 h => t_call0 rfl (Stream_Next_c e5) (CoL.refl _) (.cons .p0 .nil) rfl rfl <| rN <| ATodo.block <| tSR <| ARun.qv (q_eql rfl rfl) rfl <| rA rfl rfl <| rN <| ATodo.cut (fun σ' => ∃ (l13 : List Int) (n14 : Int) (l15 : List Image), Stream_Images_j3 l13 n14 l15 = some r ∧ σ' = ⟨80, [(3, .sl 6 b2 0 l15.length)], [(b_0, .cells [.list 1 (l13.map I), I n14]), (b2, .arr 6 (l15.map Image.av))]⟩) ?_ ?_
        · refine ATodo.cond_d rfl (fun hc => ?_) (fun hc => ?_)
          · exact have h := iteT hc h; tR <| rM rfl rfl <| rM rfl rfl <| bndE h fun v16 e6 h => t_call0 rfl (Stream_Version_c e6) (CoL.refl _) (.cons .p0 .nil) rfl rfl <| ARun.qv (q_nilCheck_aptr rfl) rfl <| ARun.qv (t_field_aptr rfl rfl) rfl <| t_store_aptr1 (g := Image.av) (el' := (⟨v16.1, v11.Models, v11.From, v11.Size⟩ : Image)) rfl rfl rfl rfl e4 rfl .p1 rfl <| ARun.ghost <| ImpX.eqs (s := 3) (av' := .sl 6 b2 0 (v1.1.set v10.1.toNat (⟨v16.1, v11.Models, v11.From, v11.Size⟩ : Image)).length) rfl (by rw [List.length_set]) <| ImpX.here <| ARun.ghost <| ImpX.eqs (s := 14) (av' := .sl 6 b2 0 (v1.1.set v10.1.toNat (⟨v16.1, v11.Models, v11.From, v11.Size⟩ : Image)).length) rfl (by rw [List.length_set]) <| ImpX.here <| ARun.ghost <| ImpX.eqs (s := 16) (av' := .sl 6 b2 0 (v1.1.set v10.1.toNat (⟨v16.1, v11.Models, v11.From, v11.Size⟩ : Image)).length) rfl (by rw [List.length_set]) <| ImpX.here <| rN <| ATodo.stop <| ImpX.lq [0, 0] ⟨v16.2.L, v16.2.at_, v1.1.set v10.1.toNat (⟨v16.1, v11.Models, v11.From, v11.Size⟩ : Image), h, rfl⟩ rfl rfl
          · refine have h := iteF hc h; tSR <| ARun.qv (q_eql rfl rfl) rfl <| rA rfl rfl <| rN <| ATodo.cut (fun σ' => ∃ (l17 : List Int) (n18 : Int) (l19 : List Image), Stream_Images_j4 l17 n18 l19 = some r ∧ σ' = ⟨80, [(3, .sl 6 b2 0 l19.length)], [(b_0, .cells [.list 1 (l17.map I), I n18]), (b2, .arr 6 (l19.map Image.av))]⟩) ?_ ?_
            · refine ATodo.cond_d rfl (fun hc => ?_) (fun hc => ?_)
              · exact have h := iteT hc h; tR <| rM rfl rfl <| n_buildSliceL (xs := ([([110] : Str), ([109] : Str)]).map AV.str) rfl rfl rfl rfl rfl rfl <| n_buildSliceL (xs := ([([] : Str)]).map AV.str) rfl rfl rfl rfl rfl rfl <| n_buildSliceL (xs := ([([109] : Str), ([109] : Str)]).map AV.str) rfl rfl rfl rfl rfl rfl <| n_buildSliceL (xs := [.nil, .list 1 ([([110] : Str), ([109] : Str)].map AV.str), .list 1 ([([] : Str)].map AV.str), .list 1 ([([109] : Str), ([109] : Str)].map AV.str)]) rfl rfl rfl rfl rfl rfl <| ARun.ghost <| ImpX.cox (s := 40) (av' := .list 1 (([[], [([110] : Str), ([109] : Str)], [([] : Str)], [([109] : Str), ([109] : Str)]] : List (List Str)).map (encL 1 AV.str))) rfl (CoX.listL (.cons .n (.cons .r (.cons .r (.cons .r .nil)))) rfl rfl) <| ImpX.here <| rM rfl rfl <| bndE h fun v20 e7 h => t_call0 rfl (Stream_Next_c e7) (CoL.refl _) (.cons .p0 .nil) rfl rfl <| bndE h fun v21 e8 h => ARun.qv (t_index rfl rfl rfl e8 rfl rfl) rfl <| ARun.qv (q_load_rptr rfl rfl rfl) rfl <| ARun.qv (q_nilCheck_aptr rfl) rfl <| ARun.qv (t_field_aptr rfl rfl) rfl <| t_store_aptr1 (g := Image.av) (el' := (⟨v11.Version, v21, v11.From, v11.Size⟩ : Image)) rfl rfl rfl rfl e4 rfl .p1 rfl <| ARun.ghost <| ImpX.eqs (s := 3) (av' := .sl 6 b2 0 (v1.1.set v10.1.toNat (⟨v11.Version, v21, v11.From, v11.Size⟩ : Image)).length) rfl (by rw [List.length_set]) <| ImpX.here <| ARun.ghost <| ImpX.eqs (s := 14) (av' := .sl 6 b2 0 (v1.1.set v10.1.toNat (⟨v11.Version, v21, v11.From, v11.Size⟩ : Image)).length) rfl (by rw [List.length_set]) <| ImpX.here <| ARun.ghost <| ImpX.eqs (s := 16) (av' := .sl 6 b2 0 (v1.1.set v10.1.toNat (⟨v11.Version, v21, v11.From, v11.Size⟩ : Image)).length) rfl (by rw [List.length_set]) <| ImpX.here <| rN <| ATodo.stop <| ImpX.lq [0, 0] ⟨v20.2.L, v20.2.at_, v1.1.set v10.1.toNat (⟨v11.Version, v21, v11.From, v11.Size⟩ : Image), h, rfl⟩ rfl rfl
              · refine have h := iteF hc h; tSR <| ARun.qv (q_eql rfl rfl) rfl <| rA rfl rfl <| rN <| ATodo.cut (fun σ' => ∃ (l22 : List Int) (n23 : Int) (l24 : List Image), Stream_Images_j5 l22 n23 l24 = some r ∧ σ' = ⟨80, [(3, .sl 6 b2 0 l24.length)], [(b_0, .cells [.list 1 (l22.map I), I n23]), (b2, .arr 6 (l24.map Image.av))]⟩) ?_ ?_
                · refine ATodo.cond_d rfl (fun hc => ?_) (fun hc => ?_)
                  · exact have h := iteT hc h; tR <| rM rfl rfl <| rM rfl rfl <| ARun.qv (q_nilCheck_aptr rfl) rfl <| ARun.qv (t_field_aptr rfl rfl) rfl <| ARun.qv (t_load_aptr (g := Image.av) rfl rfl (.inl .p1) e4 rfl) rfl <| bndE h fun v25 e9 h => t_call1 rfl (slices_Clone_Range_Range_c e9) (CoL.refl _) .nil (fun _ => rfl) rfl fun b26 => rM rfl rfl <| bndE h fun v27 e10 h => t_call0 rfl (Stream_Version_c e10) (CoL.refl _) (.cons .p1 .nil) rfl rfl <| rM rfl rfl <| bndE h fun v28 e11 h => t_call0 rfl (Stream_Version_c e11) (CoL.refl _) (.cons .p0 .nil) rfl rfl <| ARun.qv (n_build rfl rfl rfl rfl rfl) rfl <| n_buildSliceL (xs := ([(⟨v27.1, v28.1⟩ : Range)]).map Range.av) rfl rfl rfl rfl rfl rfl <| bndE h fun l29 e12 h => t_append (g := Range.av) rfl rfl rfl rfl rfl rfl rfl rfl (.list _) e12 (fun _ => .p1) rfl fun b30 => ARun.qv (q_nilCheck_aptr rfl) rfl <| ARun.qv (t_field_aptr rfl rfl) rfl <| ARun.ghost <| ImpX.freeze .p1 <| ImpX.here <| ARun.ghost <| ImpX.cox (s := 61) (av' := .list 6 (l29.map Range.av)) rfl (.co (Co.froT .p1)) <| ImpX.here <| t_store_aptr1 (g := Image.av) (el' := (⟨v11.Version, v11.Models, l29, v11.Size⟩ : Image)) rfl rfl rfl rfl e4 rfl .p2 rfl <| ARun.ghost <| ImpX.eqs (s := 3) (av' := .sl 6 b2 0 (v1.1.set v10.1.toNat (⟨v11.Version, v11.Models, l29, v11.Size⟩ : Image)).length) rfl (by rw [List.length_set]) <| ImpX.here <| ARun.ghost <| ImpX.eqs (s := 14) (av' := .sl 6 b2 0 (v1.1.set v10.1.toNat (⟨v11.Version, v11.Models, l29, v11.Size⟩ : Image)).length) rfl (by rw [List.length_set]) <| ImpX.here <| ARun.ghost <| ImpX.eqs (s := 16) (av' := .sl 6 b2 0 (v1.1.set v10.1.toNat (⟨v11.Version, v11.Models, l29, v11.Size⟩ : Image)).length) rfl (by rw [List.length_set]) <| ImpX.here <| rN <| ATodo.stop <| ImpX.lq [0, 1] ⟨v28.2.L, v28.2.at_, v1.1.set v10.1.toNat (⟨v11.Version, v11.Models, l29, v11.Size⟩ : Image), h, rfl⟩ rfl rfl
                  · refine have h := iteF hc h; tSR <| ARun.qv (q_eql rfl rfl) rfl <| rA rfl rfl <| rN <| ATodo.cut (fun σ' => ∃ (l31 : List Int) (n32 : Int) (l33 : List Image), Stream_Images_j6 l31 n32 l33 = some r ∧ σ' = ⟨80, [(3, .sl 6 b2 0 l33.length)], [(b_0, .cells [.list 1 (l31.map I), I n32]), (b2, .arr 6 (l33.map Image.av))]⟩) ?_ ?_
                    · refine ATodo.cond_d rfl (fun hc => ?_) (fun hc => ?_)
                      · exact have h := iteT hc h; ATodo.regionM (id := 13) (A := [0, 0, 2, 6, 14, 0, 32, 96, 224, 510, 1022, 2047, 4095, 8191]) 13 mixed rfl (by kernel_rfl) (by kernel_rfl) <| AM.qv (q_move rfl) rfl <| AM.qv (q_move rfl) rfl <| AM.qv (q_nilCheck_aptr rfl) rfl <| AM.qv (t_field_aptr rfl rfl) rfl <| AM.qv (t_load_aptr_part (g := Image.av) rfl rfl (.inl .p1) e4 rfl rfl) rfl <| AM.qv (q_move rfl) rfl <| AM.qv (q_nilCheck_aptr rfl) rfl <| AM.qv (t_field_aptr rfl rfl) rfl <| AM.qv (t_load_aptr_part (g := Image.av) rfl rfl (.inl .p1) e4 rfl rfl) rfl <| AM.qv (n_build rfl rfl rfl rfl rfl) rfl <| AM.buildSliceL (xs := ([(⟨v11.Version, v11.Version⟩ : Range)]).map Range.av) rfl rfl rfl rfl rfl rfl <| AM.qv (q_nilCheck_aptr rfl) rfl <| AM.qv (t_field_aptr rfl rfl) rfl <| AM.nil <| t_store_aptr1 (g := Image.av) (el' := (⟨v11.Version, v11.Models, [(⟨v11.Version, v11.Version⟩ : Range)], v11.Size⟩ : Image)) rfl rfl rfl rfl e4 rfl .p1 rfl <| ARun.ghost <| ImpX.eqs (s := 3) (av' := .sl 6 b2 0 (v1.1.set v10.1.toNat (⟨v11.Version, v11.Models, [(⟨v11.Version, v11.Version⟩ : Range)], v11.Size⟩ : Image)).length) rfl (by rw [List.length_set]) <| ImpX.here <| ARun.ghost <| ImpX.eqs (s := 14) (av' := .sl 6 b2 0 (v1.1.set v10.1.toNat (⟨v11.Version, v11.Models, [(⟨v11.Version, v11.Version⟩ : Range)], v11.Size⟩ : Image)).length) rfl (by rw [List.length_set]) <| ImpX.here <| ARun.ghost <| ImpX.eqs (s := 16) (av' := .sl 6 b2 0 (v1.1.set v10.1.toNat (⟨v11.Version, v11.Models, [(⟨v11.Version, v11.Version⟩ : Range)], v11.Size⟩ : Image)).length) rfl (by rw [List.length_set]) <| ImpX.here <| rN <| ATodo.stop <| ImpX.lq [0, 0] ⟨v12.2.L, v12.2.at_, v1.1.set v10.1.toNat (⟨v11.Version, v11.Models, [(⟨v11.Version, v11.Version⟩ : Range)], v11.Size⟩ : Image), h, rfl⟩ rfl rfl
                      · exact have h := iteF hc h; tR <| rM rfl rfl <| rM rfl rfl <| bndE h fun v34 e13 h => t_call0 rfl (Stream_Odd_c e13) (CoL.refl _) (.cons .p0 .nil) rfl rfl <| ARun.qv (q_nilCheck_aptr rfl) rfl <| ARun.qv (t_field_aptr rfl rfl) rfl <| t_store_aptr1 (g := Image.av) (el' := (⟨v11.Version, v11.Models, v11.From, v34.1⟩ : Image)) rfl rfl rfl rfl e4 rfl .p1 rfl <| ARun.ghost <| ImpX.eqs (s := 3) (av' := .sl 6 b2 0 (v1.1.set v10.1.toNat (⟨v11.Version, v11.Models, v11.From, v34.1⟩ : Image)).length) rfl (by rw [List.length_set]) <| ImpX.here <| ARun.ghost <| ImpX.eqs (s := 14) (av' := .sl 6 b2 0 (v1.1.set v10.1.toNat (⟨v11.Version, v11.Models, v11.From, v34.1⟩ : Image)).length) rfl (by rw [List.length_set]) <| ImpX.here <| ARun.ghost <| ImpX.eqs (s := 16) (av' := .sl 6 b2 0 (v1.1.set v10.1.toNat (⟨v11.Version, v11.Models, v11.From, v34.1⟩ : Image)).length) rfl (by rw [List.length_set]) <| ImpX.here <| rN <| ATodo.stop <| ImpX.lq [0, 0] ⟨v34.2.L, v34.2.at_, v1.1.set v10.1.toNat (⟨v11.Version, v11.Models, v11.From, v34.1⟩ : Image), h, rfl⟩ rfl rfl
                    · rintro σ' ⟨l31, n32, l33, h, rfl⟩
                      unfold Stream_Images_j6 at h
                      exact ATodo.stop <| ImpX.lq [0, 0] ⟨l31, n32, l33, h, rfl⟩ rfl rfl
                · rintro σ' ⟨l22, n23, l24, h, rfl⟩
                  unfold Stream_Images_j5 at h
                  exact ATodo.stop <| ImpX.lq [0, 0] ⟨l22, n23, l24, h, rfl⟩ rfl rfl
            · rintro σ' ⟨l17, n18, l19, h, rfl⟩
              unfold Stream_Images_j4 at h
              exact ATodo.stop <| ImpX.lq [0, 0] ⟨l17, n18, l19, h, rfl⟩ rfl rfl
        · rintro σ' ⟨l13, n14, l15, h, rfl⟩
          unfold Stream_Images_j3 at h
          exact ATodo.blk <| ATodo.stop <| ImpX.lq [0, 0] ⟨l13, n14, l15, h, rfl⟩ rfl rfl
      · exact have h := iteFb hc h; tK <| ATodo.stop <| ImpX.lq [0, 0] ⟨l3, n4, v1.1, h, rfl⟩ rfl rfl
    · rintro σ' ⟨l7, n8, l9, h, rfl⟩
      unfold Stream_Images_j2 at h
      refine tSR <| rM rfl rfl <| rA rfl rfl <| rN <| ATodo.ret <| ?_
      obtain rfl := Option.some.inj h
      exact ImpX.here ⟨_, .cons (.tmp _ _ rfl) .nil, _, .cons .p0 (.cons .p0 .nil), ⟨b2, rfl, rfl⟩⟩

set_option maxHeartbeats 4000000 in
theorem base_Out_c [GI : GTab] {p0x0 : Int} {p1x0 : Int} {p2x0 : Int} {r : Bool} (h : base_Out p0x0 p1x0 p2x0 = r) : Pu Tryd.prog 44 [I p0x0, I p1x0, I p2x0] (.bool r) := by
  unfold base_Out at h
  refine ACall.bodyN Tryd.func44 rfl Tryd.ntmps44 Tryd.results44 rfl rfl ?_
  refine tSR <| rA rfl rfl <| rN <| tS <| ATodo.cut (fun σ' => ∃ (c1 : Bool), base_Out_j1 c1 = r ∧ σ' = ⟨15, [(6, .bool c1)], []⟩) ?_ ?_
  · refine tR <| rM rfl rfl <| rM rfl rfl <| ARun.qv (q_lss rfl rfl) rfl <| rM rfl rfl <| ARun.guard_df rfl rfl rfl (fun hc => ?_) (fun hc => ?_)
    · rw [orFd hc] at h
      exact rM rfl rfl <| rY rfl rfl rfl <| rM rfl rfl <| rY rfl rfl rfl <| ARun.qv (q_gtr rfl rfl) rfl <| rE rfl rfl rfl <| rA rfl rfl <| rN <| ATodo.stop <| ImpX.lq [] ⟨decide (p2x0 < p0x0), h, rfl⟩ rfl rfl
    · rw [orTd hc] at h
      exact rG rfl rfl rfl rfl <| rG rfl rfl rfl rfl <| rT rfl rfl rfl <| rA rfl rfl <| rN <| ATodo.stop <| ImpX.lq [] ⟨true, h, rfl⟩ rfl rfl
  · rintro σ' ⟨c1, h, rfl⟩
    unfold base_Out_j1 at h
    refine ATodo.ret <| ?_
    obtain rfl := h
    exact ImpX.here ⟨_, .cons (.tmp _ _ rfl) .nil, rfl⟩

set_option maxHeartbeats 4000000 in
theorem base_Version_c [GI : GTab] {p0x0 : Version} {r : Bool} (h : base_Version p0x0 = r) : Pu Tryd.prog 63 [.agg [I p0x0.Major, I p0x0.Minor, I p0x0.Patch]] (.bool r) := by
  unfold base_Version at h
  refine ACall.bodyN Tryd.func63 rfl Tryd.ntmps63 Tryd.results63 rfl rfl ?_
  refine tSR <| n_box rfl rfl rfl rfl fun b1 => rA rfl rfl <| rN <| tS <| ATodo.cut (fun σ' => ∃ (c2 : Bool), base_Version_j1 c2 = r ∧ σ' = ⟨19, [(2, .bool c2)], []⟩) ?_ ?_
  · refine tR <| rF rfl rfl rfl <| rL rfl rfl .p0 rfl rfl <| r_callp rfl (base_Out_c rfl) (CoL.refl _) rfl <| ARun.qv (q_not rfl) rfl <| rM rfl rfl <| ARun.guard rfl rfl rfl (fun hc => ?_) (fun hc => ?_)
    · rw [andTb hc] at h
      refine rF rfl rfl rfl <| rY rfl rfl rfl <| rL rfl rfl .p0 rfl rfl <| rY rfl rfl rfl <| r_callp rfl (base_Out_c rfl) (CoL.refl _) rfl <| rY rfl rfl rfl <| ARun.qv (q_not rfl) rfl <| rT rfl rfl rfl <| rM rfl rfl <| ARun.guard rfl rfl rfl (fun hc => ?_) (fun hc => ?_)
      · rw [andTb hc] at h
        exact rF rfl rfl rfl <| rY rfl rfl rfl <| rL rfl rfl .p0 rfl rfl <| rY rfl rfl rfl <| r_callp rfl (base_Out_c rfl) (CoL.refl _) rfl <| rY rfl rfl rfl <| ARun.qv (q_not rfl) rfl <| rT rfl rfl rfl <| rA rfl rfl <| rN <| ATodo.stop <| ImpX.lq [] ⟨!(base_Out p0x0.Patch (0 : Int) (9999 : Int)), h, rfl⟩ rfl rfl
      · rw [andFb hc] at h
        exact rG rfl rfl rfl rfl <| rG rfl rfl rfl rfl <| rG rfl rfl rfl rfl <| rE rfl rfl rfl <| rA rfl rfl <| rN <| ATodo.stop <| ImpX.lq [] ⟨false, h, rfl⟩ rfl rfl
    · rw [andFb hc] at h
      exact rG rfl rfl rfl rfl <| rG rfl rfl rfl rfl <| rG rfl rfl rfl rfl <| rE rfl rfl rfl <| rM rfl rfl <| rG rfl rfl rfl rfl <| rG rfl rfl rfl rfl <| rG rfl rfl rfl rfl <| rG rfl rfl rfl rfl <| rE rfl rfl rfl <| rA rfl rfl <| rN <| ATodo.stop <| ImpX.lq [] ⟨false, h, rfl⟩ rfl rfl
  · rintro σ' ⟨c2, h, rfl⟩
    unfold base_Version_j1 at h
    refine ATodo.ret <| ?_
    obtain rfl := h
    exact ImpX.here ⟨_, .cons (.tmp _ _ rfl) .nil, rfl⟩

set_option maxHeartbeats 4000000 in
theorem campaign_versionFault_c [GI : GTab] {p0x0 : Version} {r : Int} (h : campaign_versionFault p0x0 = r) : Pu Tryd.prog 59 [.agg [I p0x0.Major, I p0x0.Minor, I p0x0.Patch]] (I r) := by
  unfold campaign_versionFault at h
  refine ACall.bodyN Tryd.func59 rfl Tryd.ntmps59 Tryd.results59 rfl rfl ?_
  refine tSR <| n_box rfl rfl rfl rfl fun b1 => rA rfl rfl <| rN <| tS <| tSR <| ARun.qv (q_load_ptr_all rfl rfl .p0 rfl) rfl <| r_callp rfl (base_Version_c rfl) (CoL.refl _) rfl <| ARun.qv (q_not rfl) rfl <| rN <| ATodo.cond rfl (fun hc => ?_) (fun hc => ?_)
  · refine have h := iteT hc h; tSR <| rA rfl rfl <| rN <| ATodo.ret <| ?_
    obtain rfl := h
    exact ImpX.here ⟨_, .cons (.tmp _ _ rfl) .nil, rfl⟩
  · refine have h := iteFb hc h; tK <| tSR <| rA rfl rfl <| rN <| ATodo.ret <| ?_
    obtain rfl := h
    exact ImpX.here ⟨_, .cons (.tmp _ _ rfl) .nil, rfl⟩

set_option maxHeartbeats 4000000 in
theorem campaign_VersionText_c {p0x0 : Version} {r : Str × Int} (h : campaign_VersionText p0x0 = some r) : Pu Tryd.prog 27 [.agg [I p0x0.Major, I p0x0.Minor, I p0x0.Patch]] (.tup [.str r.1, I r.2]) := by
  unfold campaign_VersionText at h
  refine ACall.bodyN Tryd.func27 rfl Tryd.ntmps27 Tryd.results27 rfl rfl ?_
  refine tSR <| n_box rfl rfl rfl rfl fun b1 => rA rfl rfl <| rA rfl rfl <| rN <| tS <| tSR <| ARun.qv (q_load_ptr_all rfl rfl .p0 rfl) rfl <| r_callp rfl (campaign_versionFault_c rfl) (CoL.refl _) rfl <| rA rfl rfl <| rN <| tSR <| rM rfl rfl <| ARun.qv (q_neq rfl rfl) rfl <| rN <| ATodo.cond_d rfl (fun hc => ?_) (fun hc => ?_)
  · refine have h := iteT hc h; tSR <| rM rfl rfl <| rA rfl rfl <| rA rfl rfl <| rN <| ATodo.ret <| ?_
    obtain rfl := Option.some.inj h
    exact ImpX.here ⟨_, .cons (.tmp _ _ rfl) (.cons (.tmp _ _ rfl) .nil), rfl⟩
  · refine have h := iteF hc h; tK <| tS <| ATodo.regionM (id := 4) (A := [0, 1, 3, 7, 0, 16, 55, 127, 255, 0, 512, 1655, 4095, 8191, 16383]) 15 mixed rfl (by kernel_rfl) (by kernel_rfl) <| AM.qv (n_field_ptr rfl rfl) rfl <| AM.qv (q_load_ptr rfl rfl .p0 rfl) rfl <| bndE h fun v2 e1 h => AM.callp rfl (strconv_Itoa_c e1) (CoL.refl _) rfl <| bndE h fun q3 e2 h => AM.qv (q_sadd e2 rfl rfl) rfl <| AM.qv (n_field_ptr rfl rfl) rfl <| AM.qv (q_load_ptr rfl rfl .p0 rfl) rfl <| bndE h fun v4 e3 h => AM.callp rfl (strconv_Itoa_c e3) (CoL.refl _) rfl <| bndE h fun q5 e4 h => AM.qv (q_sadd e4 rfl rfl) rfl <| bndE h fun q6 e5 h => AM.qv (q_sadd e5 rfl rfl) rfl <| AM.qv (n_field_ptr rfl rfl) rfl <| AM.qv (q_load_ptr rfl rfl .p0 rfl) rfl <| bndE h fun v7 e6 h => AM.callp rfl (strconv_Itoa_c e6) (CoL.refl _) rfl <| bndE h fun q8 e7 h => AM.qv (q_sadd e7 rfl rfl) rfl <| AM.qv (q_assign rfl) rfl <| AM.qv (q_assign rfl) rfl <| AM.nil <| rN <| ATodo.ret <| ?_
    obtain rfl := Option.some.inj h
    exact ImpX.here ⟨_, .cons (.tmp _ _ rfl) (.cons (.tmp _ _ rfl) .nil), rfl⟩

set_option maxHeartbeats 4000000 in
theorem Q_in_c [GI : GTab] {p0x0 : Int} {p1x0 : Int} {p2x0 : Int} {r : Bool} (h : Q_in p0x0 p1x0 p2x0 = r) : Pu Tryd.prog 49 [I p0x0, I p1x0, I p2x0] (.bool r) := by
  unfold Q_in at h
  refine ACall.bodyN Tryd.func49 rfl Tryd.ntmps49 Tryd.results49 rfl rfl ?_
  refine tSR <| rA rfl rfl <| rN <| tS <| ATodo.cut (fun σ' => ∃ (c1 : Bool), Q_in_j1 c1 = r ∧ σ' = ⟨15, [(6, .bool c1)], []⟩) ?_ ?_
  · refine tR <| rM rfl rfl <| rM rfl rfl <| ARun.qv (q_leq rfl rfl) rfl <| rM rfl rfl <| ARun.guard_dt rfl rfl rfl (fun hc => ?_) (fun hc => ?_)
    · rw [andTd hc] at h
      exact rM rfl rfl <| rY rfl rfl rfl <| rM rfl rfl <| rY rfl rfl rfl <| ARun.qv (q_leq rfl rfl) rfl <| rT rfl rfl rfl <| rA rfl rfl <| rN <| ATodo.stop <| ImpX.lq [] ⟨decide (p0x0 ≤ p2x0), h, rfl⟩ rfl rfl
    · rw [andFd hc] at h
      exact rG rfl rfl rfl rfl <| rG rfl rfl rfl rfl <| rE rfl rfl rfl <| rA rfl rfl <| rN <| ATodo.stop <| ImpX.lq [] ⟨false, h, rfl⟩ rfl rfl
  · rintro σ' ⟨c1, h, rfl⟩
    unfold Q_in_j1 at h
    refine ATodo.ret <| ?_
    obtain rfl := h
    exact ImpX.here ⟨_, .cons (.tmp _ _ rfl) .nil, rfl⟩

set_option maxHeartbeats 4000000 in
theorem Q_versionFault_c [GI : GTab] {p0x0 : Version} {r : Int} (h : Q_versionFault p0x0 = r) : Pu Tryd.prog 60 [.agg [I p0x0.Major, I p0x0.Minor, I p0x0.Patch]] (I r) := by
  unfold Q_versionFault at h
  refine ACall.bodyN Tryd.func60 rfl Tryd.ntmps60 Tryd.results60 rfl rfl ?_
  refine tSR <| n_box rfl rfl rfl rfl fun b1 => rA rfl rfl <| rN <| tS <| tS <| ATodo.cut (fun σ' => ∃ (c2 : Bool), Q_versionFault_j1 c2 = r ∧ σ' = ⟨19, [(18, .bool c2)], []⟩) ?_ ?_
  · refine tR <| rF rfl rfl rfl <| rL rfl rfl .p0 rfl rfl <| r_callp rfl (Q_in_c rfl) (CoL.refl _) rfl <| ARun.qv (q_not rfl) rfl <| rM rfl rfl <| ARun.guard rfl rfl rfl (fun hc => ?_) (fun hc => ?_)
    · rw [orFb hc] at h
      refine rF rfl rfl rfl <| rY rfl rfl rfl <| rL rfl rfl .p0 rfl rfl <| rY rfl rfl rfl <| r_callp rfl (Q_in_c rfl) (CoL.refl _) rfl <| rY rfl rfl rfl <| ARun.qv (q_not rfl) rfl <| rE rfl rfl rfl <| rM rfl rfl <| ARun.guard rfl rfl rfl (fun hc => ?_) (fun hc => ?_)
      · rw [orFb hc] at h
        exact rF rfl rfl rfl <| rY rfl rfl rfl <| rL rfl rfl .p0 rfl rfl <| rY rfl rfl rfl <| r_callp rfl (Q_in_c rfl) (CoL.refl _) rfl <| rY rfl rfl rfl <| ARun.qv (q_not rfl) rfl <| rE rfl rfl rfl <| rN <| ATodo.stop <| ImpX.lq [] ⟨!(Q_in p0x0.Patch (0 : Int) (9999 : Int)), h, rfl⟩ rfl rfl
      · rw [orTb hc] at h
        exact rG rfl rfl rfl rfl <| rG rfl rfl rfl rfl <| rG rfl rfl rfl rfl <| rT rfl rfl rfl <| rN <| ATodo.stop <| ImpX.lq [] ⟨true, h, rfl⟩ rfl rfl
    · rw [orTb hc] at h
      exact rG rfl rfl rfl rfl <| rG rfl rfl rfl rfl <| rG rfl rfl rfl rfl <| rT rfl rfl rfl <| rM rfl rfl <| rG rfl rfl rfl rfl <| rG rfl rfl rfl rfl <| rG rfl rfl rfl rfl <| rG rfl rfl rfl rfl <| rT rfl rfl rfl <| rN <| ATodo.stop <| ImpX.lq [] ⟨true, h, rfl⟩ rfl rfl
  · rintro σ' ⟨c2, h, rfl⟩
    unfold Q_versionFault_j1 at h
    refine ATodo.cond rfl (fun hc => ?_) (fun hc => ?_)
    · refine have h := iteT hc h; tSR <| rA rfl rfl <| rN <| ATodo.ret <| ?_
      obtain rfl := h
      exact ImpX.here ⟨_, .cons (.tmp _ _ rfl) .nil, rfl⟩
    · refine have h := iteFb hc h; tK <| tSR <| rA rfl rfl <| rN <| ATodo.ret <| ?_
      obtain rfl := h
      exact ImpX.here ⟨_, .cons (.tmp _ _ rfl) .nil, rfl⟩

set_option maxHeartbeats 4000000 in
theorem Q_VersionFault_c [GI : GTab] {p0x0 : Version} {r : Int} (h : Q_VersionFault p0x0 = r) : Pu Tryd.prog 28 [.agg [I p0x0.Major, I p0x0.Minor, I p0x0.Patch]] (I r) := by
  unfold Q_VersionFault at h
  refine ACall.bodyN Tryd.func28 rfl Tryd.ntmps28 Tryd.results28 rfl rfl ?_
  refine tSR <| n_box rfl rfl rfl rfl fun b1 => rA rfl rfl <| rN <| tSR <| ARun.qv (q_load_ptr_all rfl rfl .p0 rfl) rfl <| r_callp rfl (Q_versionFault_c rfl) (CoL.refl _) rfl <| rA rfl rfl <| rN <| ATodo.ret <| ?_
  obtain rfl := h
  exact ImpX.here ⟨_, .cons (.tmp _ _ rfl) .nil, rfl⟩

set_option maxHeartbeats 4000000 in
theorem base_Number_c {p0x0 : Str} {p1x0 : Int} {r : Int × Bool} (h : base_Number p0x0 p1x0 = some r) : Pu Tryd.prog 89 [.str p0x0, I p1x0] (.tup [I r.1, .bool r.2]) := by
  unfold base_Number at h
  refine ACall.bodyN Tryd.func89 rfl Tryd.ntmps89 Tryd.results89 rfl rfl ?_
  refine tSR <| rA rfl rfl <| rA rfl rfl <| rN <| tSR <| rM rfl rfl <| r_callp rfl (strings_TrimPrefix_c rfl) (CoL.refl _) rfl <| rA rfl rfl <| rN <| tS <| tS <| ATodo.cut (fun σ' => ∃ (c1 : Bool), base_Number_j1 p0x0 c1 = some r ∧ σ' = ⟨61, [(0, .str p0x0), (6, .str (Lib.trimPrefix p0x0 ([45] : Str))), (36, .bool c1)], []⟩) ?_ ?_
  · refine tR <| rM rfl rfl <| ARun.qv (q_seq rfl rfl) rfl <| rM rfl rfl <| ARun.guard_df rfl rfl rfl (fun hc => ?_) (fun hc => ?_)
    · refine have h := iteF hc h; rM rfl rfl <| rY rfl rfl rfl <| ARun.qv (q_len_str rfl) rfl <| rY rfl rfl rfl <| rM rfl rfl <| rY rfl rfl rfl <| ARun.qv (q_gtr rfl rfl) rfl <| rE rfl rfl rfl <| rM rfl rfl <| ARun.guard_df rfl rfl rfl (fun hc => ?_) (fun hc => ?_)
      · refine have h := iteF hc h; rM rfl rfl <| rY rfl rfl rfl <| bndE h fun c2 e1 h => ARun.qv (t_index_str rfl rfl e1) rfl <| rY rfl rfl rfl <| ARun.qv (q_eql rfl rfl) rfl <| rY rfl rfl rfl <| rM rfl rfl <| ARun.guard_dt rfl rfl rfl (fun hc => ?_) (fun hc => ?_)
        · rw [andTd hc] at h
          refine rM rfl rfl <| rY rfl rfl rfl <| ARun.qv (q_len_str rfl) rfl <| rY rfl rfl rfl <| ARun.qv (q_gtr rfl rfl) rfl <| rY rfl rfl rfl <| rM rfl rfl <| ARun.guard_df rfl rfl rfl (fun hc => ?_) (fun hc => ?_)
          · rw [orFd hc] at h
            exact rM rfl rfl <| rY rfl rfl rfl <| ARun.qv (q_len_str rfl) rfl <| rY rfl rfl rfl <| rM rfl rfl <| rY rfl rfl rfl <| ARun.qv (q_len_str rfl) rfl <| rY rfl rfl rfl <| ARun.qv (q_gtr rfl rfl) rfl <| rY rfl rfl rfl <| rE rfl rfl rfl <| rY rfl rfl rfl <| rT rfl rfl rfl <| rE rfl rfl rfl <| rN <| ATodo.stop <| ImpX.lq [] ⟨decide (((Lib.trimPrefix p0x0 ([45] : Str)).length : Int) < (p0x0.length : Int)), h, rfl⟩ rfl rfl
          · rw [orTd hc] at h
            exact rG rfl rfl rfl rfl <| rG rfl rfl rfl rfl <| rG rfl rfl rfl rfl <| rG rfl rfl rfl rfl <| rY rfl rfl rfl <| rT rfl rfl rfl <| rY rfl rfl rfl <| rT rfl rfl rfl <| rE rfl rfl rfl <| rN <| ATodo.stop <| ImpX.lq [] ⟨true, h, rfl⟩ rfl rfl
        · rw [andFd hc] at h
          exact rG rfl rfl rfl rfl <| rG rfl rfl rfl rfl <| rG rfl rfl rfl rfl <| ARun.guard_und rfl rfl rfl <| ARun.guard_und rfl rfl rfl <| ARun.guard_und rfl rfl rfl <| ARun.guard_und rfl rfl rfl <| ARun.guard_und rfl rfl rfl <| rG rfl rfl rfl rfl <| rY rfl rfl rfl <| rE rfl rfl rfl <| rE rfl rfl rfl <| rN <| ATodo.stop <| ImpX.lq [] ⟨false, h, rfl⟩ rfl rfl
      · exact have h := iteT hc h; rG rfl rfl rfl rfl <| rG rfl rfl rfl rfl <| rG rfl rfl rfl rfl <| ARun.guard_und rfl rfl rfl <| ARun.guard_und rfl rfl rfl <| ARun.guard_und rfl rfl rfl <| ARun.guard_und rfl rfl rfl <| ARun.guard_und rfl rfl rfl <| ARun.guard_und rfl rfl rfl <| ARun.guard_und rfl rfl rfl <| ARun.guard_und rfl rfl rfl <| ARun.guard_und rfl rfl rfl <| ARun.guard_und rfl rfl rfl <| rG rfl rfl rfl rfl <| rT rfl rfl rfl <| rN <| ATodo.stop <| ImpX.lq [] ⟨true, h, rfl⟩ rfl rfl
    · exact have h := iteT hc h; rG rfl rfl rfl rfl <| rG rfl rfl rfl rfl <| rG rfl rfl rfl rfl <| rT rfl rfl rfl <| rM rfl rfl <| rG rfl rfl rfl rfl <| rG rfl rfl rfl rfl <| rG rfl rfl rfl rfl <| rG rfl rfl rfl rfl <| ARun.guard_und rfl rfl rfl <| ARun.guard_und rfl rfl rfl <| ARun.guard_und rfl rfl rfl <| ARun.guard_und rfl rfl rfl <| ARun.guard_und rfl rfl rfl <| ARun.guard_und rfl rfl rfl <| ARun.guard_und rfl rfl rfl <| ARun.guard_und rfl rfl rfl <| ARun.guard_und rfl rfl rfl <| ARun.guard_und rfl rfl rfl <| rG rfl rfl rfl rfl <| rT rfl rfl rfl <| rN <| ATodo.stop <| ImpX.lq [] ⟨true, h, rfl⟩ rfl rfl
  · rintro σ' ⟨c1, h, rfl⟩
    unfold base_Number_j1 at h
    refine ATodo.cond rfl (fun hc => ?_) (fun hc => ?_)
    · refine have h := iteT hc h; tSR <| rA rfl rfl <| rA rfl rfl <| rN <| ATodo.ret <| ?_
      obtain rfl := Option.some.inj h
      exact ImpX.here ⟨_, .cons (.tmp _ _ rfl) (.cons (.tmp _ _ rfl) .nil), rfl⟩
    · refine have h := iteFb hc h; tK <| tS <| tSR <| rM rfl rfl <| ARun.qv (q_len_str rfl) rfl <| rM rfl rfl <| rN <| ATodo.block <| ATodo.loopI (fun x : Int => base_Number_b1 p0x0 x) (fun x σ' => σ' = ⟨61, [(0, .str p0x0), (6, .str (Lib.trimPrefix p0x0 ([45] : Str))), (38, I ((Lib.trimPrefix p0x0 ([45] : Str)).length : Int)), (39, I x)], []⟩) h ?_ ?_
      · exact ImpX.lq [] rfl rfl rfl
      · intro n4 z1 σ' J1 hmk h hJ1 hA1
        obtain rfl := hmk
        replace h : base_Number_b1 p0x0 n4 = some z1 := h
        unfold base_Number_b1 at h
        refine tSR <| ARun.qv (q_lss rfl rfl) rfl <| rN <| tS <| ATodo.cond_d rfl (fun hc => ?_) (fun hc => ?_)
        · refine have h := iteT hc h; tK <| tS <| ATodo.block <| tSR <| rM rfl rfl <| rA rfl rfl <| rN <| tS <| ATodo.cut (fun σ' => ∃ (c5 : Bool), base_Number_j2 n4 c5 = some z1 ∧ σ' = ⟨61, [(0, .str p0x0), (6, .str (Lib.trimPrefix p0x0 ([45] : Str))), (38, I ((Lib.trimPrefix p0x0 ([45] : Str)).length : Int)), (39, I n4), (51, .bool c5)], []⟩) ?_ ?_
          · refine tR <| rM rfl rfl <| rM rfl rfl <| bndE h fun c6 e2 h => ARun.qv (t_index_str rfl rfl e2) rfl <| ARun.qv (q_lss rfl rfl) rfl <| rM rfl rfl <| ARun.guard_df rfl rfl rfl (fun hc => ?_) (fun hc => ?_)
            · exact have h := iteF hc h; rM rfl rfl <| rY rfl rfl rfl <| rM rfl rfl <| rY rfl rfl rfl <| bndE h fun c7 e3 h => ARun.qv (t_index_str rfl rfl e3) rfl <| rY rfl rfl rfl <| ARun.qv (q_gtr rfl rfl) rfl <| rE rfl rfl rfl <| rN <| ATodo.stop <| ImpX.lq [] ⟨decide ((57 : Int) < (c7.toNat : Int)), h, rfl⟩ rfl rfl
            · exact have h := iteT hc h; rG rfl rfl rfl rfl <| rG rfl rfl rfl rfl <| rG rfl rfl rfl rfl <| rT rfl rfl rfl <| rN <| ATodo.stop <| ImpX.lq [] ⟨true, h, rfl⟩ rfl rfl
          · rintro σ' ⟨c5, h, rfl⟩
            unfold base_Number_j2 at h
            refine ATodo.cond rfl (fun hc => ?_) (fun hc => ?_)
            · refine have h := iteT hc h; tSR <| rA rfl rfl <| rA rfl rfl <| rN <| ATodo.ret <| have h := outL h hA1; ?_
              obtain rfl := Option.some.inj h
              exact ImpX.here ⟨_, .cons (.tmp _ _ rfl) (.cons (.tmp _ _ rfl) .nil), rfl⟩
            · refine have h := iteFb hc h; tK <| ATodo.blk <| tR <| ARun.qv (q_addw rfl rfl) rfl <| rM rfl rfl <| rN <| ATodo.stop <| ?_
              obtain rfl := Option.some.inj h
              exact hJ1 _ _ rfl <| ImpX.lq [] rfl rfl rfl
        · refine have h := iteF hc h; ATodo.exit rfl <| have h := outL h hA1; ?_
          unfold base_Number_k3 at h
          refine tSR <| rM rfl rfl <| bndE h fun v8 e4 h => t_callE rfl (strconv_Atoi_c e4) (CoL.refl _) rfl fun e9 e5 => rM rfl rfl <| rX rfl rfl rfl <| rX rfl rfl rfl <| rA rfl rfl <| rA rfl rfl <| rN <| tS <| ATodo.regionM (id := 11) (A := [0, 0, 2, 1, 15]) 5 mixed rfl (by kernel_rfl) (by kernel_rfl) <| AM.qv (q_move rfl) rfl <| AM.qv (q_move rfl) rfl <| AM.qv (q_eqE e5 rfl) rfl <| AM.qv (q_assign rfl) rfl <| AM.qv (q_assign rfl) rfl <| AM.nil <| rN <| ATodo.ret <| ?_
          obtain rfl := Option.some.inj h
          exact ImpX.here ⟨_, .cons (.tmp _ _ rfl) (.cons (.tmp _ _ rfl) .nil), rfl⟩

set_option maxHeartbeats 4000000 in
theorem base_Numbers_c {p0x0 : List Str} {p1x0 : Int} {r : (List Int) × Bool} (h : base_Numbers p0x0 p1x0 = some r) : ACall Tryd.prog 61 [.list 1 (p0x0.map AV.str), I p1x0] [] (T1 (fun d_0 => [(d_0, .arr 1 (r.1.map I))]) (fun d_0 => .tup [.sl 1 d_0 0 r.1.length, .bool r.2])) := by
  unfold base_Numbers at h
  refine ACall.lessH ?_
  refine ACall.bodyN Tryd.func61 rfl Tryd.ntmps61 Tryd.results61 rfl rfl ?_
  refine tSR <| rA rfl rfl <| rA rfl rfl <| rN <| tSR <| rA rfl rfl <| rN <| tS <| tSR <| rM rfl rfl <| ARun.qv (t_len rfl) rfl <| rM rfl rfl <| rN <| ATodo.block <| ATodo.loopI (fun x : (List Int) × Int => base_Numbers_b1 p0x0 p1x0 x.1 x.2) (fun x σ' => ∃ (b4 : Bk), σ' = ⟨31, [(1, I p1x0), (6, .sl 1 b4 0 x.1.length), (11, .list 1 (p0x0.map AV.str)), (12, I (p0x0.length : Int)), (13, I x.2)], [(b4, .arr 1 (x.1.map I))]⟩) h ?_ ?_
  · exact ImpX.arr (s := 6) 1 rfl fun b7 => ImpX.lq [0] ⟨b7, rfl⟩ rfl rfl
  · intro x z1 σ' J1 hmk h hJ1 hA1
    obtain ⟨l5, n6⟩ := x
    obtain ⟨b4, rfl⟩ := hmk
    replace h : base_Numbers_b1 p0x0 p1x0 l5 n6 = some z1 := h
    unfold base_Numbers_b1 at h
    refine tSR <| ARun.qv (q_lss rfl rfl) rfl <| rN <| tS <| ATodo.cond_d rfl (fun hc => ?_) (fun hc => ?_)
    · refine have h := iteT hc h; tK <| tS <| ATodo.block <| tSR <| bndE h fun v8 e1 h => ARun.qv (t_index rfl rfl rfl e1 rfl rfl) rfl <| ARun.qv (q_load_rptr rfl rfl rfl) rfl <| rA rfl rfl <| rN <| tSR <| rM rfl rfl <| rM rfl rfl <| bndE h fun v9 e2 h => r_callp rfl (base_Number_c e2) (CoL.refl _) rfl <| rM rfl rfl <| rX rfl rfl rfl <| rX rfl rfl rfl <| rA rfl rfl <| rA rfl rfl <| rN <| tS <| tSR <| rM rfl rfl <| ARun.qv (q_not rfl) rfl <| rN <| ATodo.cond rfl (fun hc => ?_) (fun hc => ?_)
      · refine have h := iteT hc h; tSR <| rA rfl rfl <| rA rfl rfl <| rN <| ATodo.ret <| have h := outL h hA1; ?_
        obtain rfl := Option.some.inj h
        exact ImpX.arr (s := 4) 1 rfl fun b10 => ImpX.here ⟨_, .cons (.tmp _ _ rfl) (.cons (.tmp _ _ rfl) .nil), _, .cons .p0 .nil, ⟨b10, rfl, rfl⟩⟩
      · refine have h := iteFb hc h; tK <| tR <| rM rfl rfl <| rM rfl rfl <| n_buildSliceL (xs := ([v9.1] : List Int).map I) rfl rfl rfl rfl rfl rfl <| bndE h fun l11 e3 h => t_append (g := I) rfl rfl rfl rfl rfl rfl rfl rfl (.list _) e3 (fun _ => .p0) rfl fun b12 => rA rfl rfl <| rN <| ATodo.blk <| tR <| ARun.qv (q_addw rfl rfl) rfl <| rM rfl rfl <| rN <| ATodo.stop <| ?_
        obtain rfl := Option.some.inj h
        exact hJ1 _ _ rfl <| ImpX.lq [0] ⟨b12, rfl⟩ rfl rfl
    · refine have h := iteF hc h; ATodo.exit rfl <| have h := outL h hA1; tSR <| rM rfl rfl <| rA rfl rfl <| rA rfl rfl <| rN <| ATodo.ret <| ?_
      obtain rfl := Option.some.inj h
      exact ImpX.here ⟨_, .cons (.tmp _ _ rfl) (.cons (.tmp _ _ rfl) .nil), _, .cons .p0 .nil, ⟨b4, rfl, rfl⟩⟩

set_option maxHeartbeats 4000000 in
theorem campaign_ParseVersion_c {p0x0 : Str} {r : Version × Int} (h : campaign_ParseVersion p0x0 = some r) : Pu Tryd.prog 30 [.str p0x0] (.tup [.agg [I r.1.Major, I r.1.Minor, I r.1.Patch], I r.2]) := by
  unfold campaign_ParseVersion at h
  refine ACall.bodyN Tryd.func30 rfl Tryd.ntmps30 Tryd.results30 rfl rfl ?_
  refine tSR <| n_alloc rfl rfl rfl rfl fun b1 => rA rfl rfl <| rN <| tSR <| rM rfl rfl <| bndE h fun v2 e1 h => t_call1 rfl (strings_Split_c e1) (CoL.refl _) .nil (fun _ => rfl) rfl fun b3 => bndE h fun v4 e2 h => t_callL1 rfl (base_Numbers_c e2) .nil (.cons (CoB.arrT .p0) (.cons (.co (.refl _)) .nil)) (fun _ => rfl) (fun _ => rfl) (fun _ => (.cons (NoS.arrT (fun _ => rfl)) .nil)) rfl fun b5 => rM rfl rfl <| rX rfl rfl rfl <| rX rfl rfl rfl <| rA rfl rfl <| rA rfl rfl <| rN <| tS <| tS <| ATodo.cut (fun σ' => ∃ (c6 : Bool), campaign_ParseVersion_j1 v4 c6 = some r ∧ σ' = ⟨36, [(2, .ptr b1 0), (4, .sl 1 b5 0 v4.1.length), (19, .bool c6)], [(b1, .cells [I (0 : Int), I (0 : Int), I (0 : Int)]), (b5, .arr 1 (v4.1.map I))]⟩) ?_ ?_
  · refine tR <| rM rfl rfl <| ARun.qv (q_not rfl) rfl <| rM rfl rfl <| ARun.guard rfl rfl rfl (fun hc => ?_) (fun hc => ?_)
    · rw [orFb hc] at h
      exact rM rfl rfl <| rY rfl rfl rfl <| ARun.qv (t_len_sl rfl) rfl <| rY rfl rfl rfl <| ARun.qv (q_neq rfl rfl) rfl <| rE rfl rfl rfl <| rN <| ATodo.stop <| ImpX.lq [2, 0] ⟨decide ((v4.1.length : Int) ≠ (3 : Int)), h, rfl⟩ rfl rfl
    · rw [orTb hc] at h
      exact rG rfl rfl rfl rfl <| rG rfl rfl rfl rfl <| rT rfl rfl rfl <| rN <| ATodo.stop <| ImpX.lq [2, 0] ⟨true, h, rfl⟩ rfl rfl
  · rintro σ' ⟨c6, h, rfl⟩
    unfold campaign_ParseVersion_j1 at h
    refine ATodo.cond rfl (fun hc => ?_) (fun hc => ?_)
    · refine have h := iteT hc h; tSR <| ARun.qv (n_build rfl rfl rfl rfl rfl) rfl <| n_store_ptr rfl rfl rfl rfl .p0 rfl rfl <| rA rfl rfl <| rN <| ATodo.ret <| ?_
      obtain rfl := Option.some.inj h
      exact ImpX.here ⟨_, .cons (.all _ _ _ _ _ _ rfl .p0 TUnder.h TInfo.h rfl rfl) (.cons (.tmp _ _ rfl) .nil), rfl⟩
    · refine have h := iteFb hc h; tK <| tS <| bndE h fun v7 e3 h => bndE h fun v8 e4 h => bndE h fun v9 e5 h => ATodo.regionT (id := 4) (A := [0, 1, 3, 0, 8, 24, 0, 64, 192, 511, 0, 2047]) (H0 := []) (HH := fun β => [((β 10), .cells [I (0 : Int), I (0 : Int), I (0 : Int)]), (b1, .cells [I (0 : Int), I (0 : Int), I (0 : Int)]), (b5, .arr 1 (v4.1.map I))]) 11 mixed rfl (by kernel_rfl) (by kernel_rfl) [⟨some 10, none, [], fun b => (b, .cells [I (0 : Int), I (0 : Int), I (0 : Int)]), none⟩] [10] rfl (by kernel_rfl) rfl .nil (fun _ => rfl) <| AT.am 10 rfl rfl <| AM.qv (q_move rfl) rfl <| AM.qv (t_index_sl rfl rfl rfl e3) rfl <| AM.qv (t_load_aptr (g := I) rfl rfl (.inl .p1) e3 rfl) rfl <| AM.qv (q_move rfl) rfl <| AM.qv (t_index_sl rfl rfl rfl e4) rfl <| AM.qv (t_load_aptr (g := I) rfl rfl (.inl .p1) e4 rfl) rfl <| AM.qv (q_move rfl) rfl <| AM.qv (t_index_sl rfl rfl rfl e5) rfl <| AM.qv (t_load_aptr (g := I) rfl rfl (.inl .p1) e5 rfl) rfl <| AM.qv (n_build rfl rfl rfl rfl rfl) rfl <| AM.nil <| AT.runD (V := fun b => .ptr b 0) (Ti := []) (Pi := fun b => [(b, .cells [I (0 : Int), I (0 : Int), I (0 : Int)])]) (fun _ => rfl) (fun _ => rfl) (fun _ _ => rfl) rfl (fun _ => rfl) rfl rfl rfl ?_ ?_
      · exact n_alloc rfl rfl rfl rfl fun b10 => ARun.nil ⟨b10, _, rfl, rfl⟩
      refine AT.nilN (fun _ => rfl) fun β => ?_
      generalize β 10 = b10
      clear β
      refine n_store_ptr rfl rfl rfl rfl .p0 rfl rfl <| rN <| tS <| tSR <| ARun.qv (q_load_ptr_all rfl rfl .p0 rfl) rfl <| r_callp rfl (base_Version_c (rfl : base_Version (⟨v7, v8, v9⟩ : Version) = _)) (CoL.refl _) rfl <| ARun.qv (q_not rfl) rfl <| rN <| ATodo.cond rfl (fun hc => ?_) (fun hc => ?_)
      · refine have h := iteT hc h; tSR <| ARun.qv (n_build rfl rfl rfl rfl rfl) rfl <| n_store_ptr rfl rfl rfl rfl .p1 rfl rfl <| rA rfl rfl <| rN <| ATodo.ret <| ?_
        obtain rfl := Option.some.inj h
        exact ImpX.here ⟨_, .cons (.all _ _ _ _ _ _ rfl .p1 TUnder.h TInfo.h rfl rfl) (.cons (.tmp _ _ rfl) .nil), rfl⟩
      · refine have h := iteFb hc h; tK <| tSR <| ARun.qv (q_load_ptr_all rfl rfl .p0 rfl) rfl <| n_store_ptr rfl rfl rfl rfl .p1 rfl rfl <| rA rfl rfl <| rN <| ATodo.ret <| ?_
        obtain rfl := Option.some.inj h
        exact ImpX.here ⟨_, .cons (.all _ _ _ _ _ _ rfl .p1 TUnder.h TInfo.h rfl rfl) (.cons (.tmp _ _ rfl) .nil), rfl⟩

set_option maxHeartbeats 4000000 in
theorem Q_only_c [GI : GTab] {p0x0 : Str} {p1x0 : Str} {r : Bool} (h : Q_only p0x0 p1x0 = some r) : Pu Tryd.prog 50 [.str p0x0, .str p1x0] (.bool r) := by
  unfold Q_only at h
  refine ACall.bodyN Tryd.func50 rfl Tryd.ntmps50 Tryd.results50 rfl rfl ?_
  refine tSR <| rA rfl rfl <| rN <| tS <| tSR <| rM rfl rfl <| ARun.qv (q_len_str rfl) rfl <| rM rfl rfl <| rN <| ATodo.block <| ATodo.loopI (fun x : Int => Q_only_b1 p0x0 p1x0 x) (fun x σ' => σ' = ⟨18, [(0, .str p0x0), (1, .str p1x0), (7, I (p0x0.length : Int)), (8, I x)], []⟩) h ?_ ?_
  · exact ImpX.lq [] rfl rfl rfl
  · intro n2 z1 σ' J1 hmk h hJ1 hA1
    obtain rfl := hmk
    replace h : Q_only_b1 p0x0 p1x0 n2 = some z1 := h
    unfold Q_only_b1 at h
    refine tSR <| ARun.qv (q_lss rfl rfl) rfl <| rN <| tS <| ATodo.cond_d rfl (fun hc => ?_) (fun hc => ?_)
    · refine have h := iteT hc h; tK <| tS <| ATodo.block <| tSR <| rM rfl rfl <| rA rfl rfl <| rN <| tSR <| rM rfl rfl <| rM rfl rfl <| rM rfl rfl <| bndE h fun c3 e1 h => ARun.qv (t_index_str rfl rfl e1) rfl <| r_callp rfl (strings_IndexByte_c rfl) (CoL.refl _) rfl <| ARun.qv (q_lss rfl rfl) rfl <| rN <| ATodo.cond_d rfl (fun hc => ?_) (fun hc => ?_)
      · refine have h := iteT hc h; tSR <| rA rfl rfl <| rN <| ATodo.ret <| have h := outL h hA1; ?_
        obtain rfl := Option.some.inj h
        exact ImpX.here ⟨_, .cons (.tmp _ _ rfl) .nil, rfl⟩
      · refine have h := iteF hc h; tK <| ATodo.blk <| tR <| ARun.qv (q_addw rfl rfl) rfl <| rM rfl rfl <| rN <| ATodo.stop <| ?_
        obtain rfl := Option.some.inj h
        exact hJ1 _ _ rfl <| ImpX.lq [] rfl rfl rfl
    · refine have h := iteF hc h; ATodo.exit rfl <| have h := outL h hA1; tSR <| rA rfl rfl <| rN <| ATodo.ret <| ?_
      obtain rfl := Option.some.inj h
      exact ImpX.here ⟨_, .cons (.tmp _ _ rfl) .nil, rfl⟩

set_option maxHeartbeats 4000000 in
theorem Q_Number_c {p0x0 : Str} {p1x0 : Int} {r : Int × Bool} (h : Q_Number p0x0 p1x0 = some r) : Pu Tryd.prog 64 [.str p0x0, I p1x0] (.tup [I r.1, .bool r.2]) := by
  unfold Q_Number at h
  refine ACall.bodyN Tryd.func64 rfl Tryd.ntmps64 Tryd.results64 rfl rfl ?_
  refine tSR <| rA rfl rfl <| rA rfl rfl <| rN <| tSR <| rM rfl rfl <| r_callp rfl (strings_TrimPrefix_c rfl) (CoL.refl _) rfl <| rA rfl rfl <| rN <| tS <| tS <| ATodo.cut (fun σ' => ∃ (c1 : Bool), Q_Number_j1 p0x0 c1 = some r ∧ σ' = ⟨38, [(0, .str p0x0), (23, .bool c1)], []⟩) ?_ ?_
  · refine tR <| rM rfl rfl <| ARun.qv (q_seq rfl rfl) rfl <| rM rfl rfl <| ARun.guard_df rfl rfl rfl (fun hc => ?_) (fun hc => ?_)
    · refine have h := iteF hc h; rM rfl rfl <| rY rfl rfl rfl <| ARun.qv (q_len_str rfl) rfl <| rY rfl rfl rfl <| rM rfl rfl <| rY rfl rfl rfl <| ARun.qv (q_gtr rfl rfl) rfl <| rE rfl rfl rfl <| rM rfl rfl <| ARun.guard_df rfl rfl rfl (fun hc => ?_) (fun hc => ?_)
      · exact have h := iteF hc h; rM rfl rfl <| rY rfl rfl rfl <| bndE h fun v2 e1 h => r_callp rfl (Q_only_c e1) (CoL.refl _) rfl <| rY rfl rfl rfl <| ARun.qv (q_not rfl) rfl <| rE rfl rfl rfl <| rN <| ATodo.stop <| ImpX.lq [] ⟨!v2, h, rfl⟩ rfl rfl
      · exact have h := iteT hc h; rG rfl rfl rfl rfl <| rG rfl rfl rfl rfl <| rT rfl rfl rfl <| rN <| ATodo.stop <| ImpX.lq [] ⟨true, h, rfl⟩ rfl rfl
    · exact have h := iteT hc h; rG rfl rfl rfl rfl <| rG rfl rfl rfl rfl <| rG rfl rfl rfl rfl <| rT rfl rfl rfl <| rM rfl rfl <| rG rfl rfl rfl rfl <| rG rfl rfl rfl rfl <| rG rfl rfl rfl rfl <| rT rfl rfl rfl <| rN <| ATodo.stop <| ImpX.lq [] ⟨true, h, rfl⟩ rfl rfl
  · rintro σ' ⟨c1, h, rfl⟩
    unfold Q_Number_j1 at h
    refine ATodo.cond rfl (fun hc => ?_) (fun hc => ?_)
    · refine have h := iteT hc h; tSR <| rA rfl rfl <| rA rfl rfl <| rN <| ATodo.ret <| ?_
      obtain rfl := Option.some.inj h
      exact ImpX.here ⟨_, .cons (.tmp _ _ rfl) (.cons (.tmp _ _ rfl) .nil), rfl⟩
    · refine have h := iteFb hc h; tK <| tSR <| rM rfl rfl <| bndE h fun v3 e2 h => t_callE rfl (strconv_Atoi_c e2) (CoL.refl _) rfl fun e4 e3 => rM rfl rfl <| rX rfl rfl rfl <| rX rfl rfl rfl <| rA rfl rfl <| rA rfl rfl <| rN <| tS <| ATodo.cut (fun σ' => ∃ (c5 : Bool), Q_Number_j2 v3 c5 = some r ∧ σ' = ⟨38, [(4, I v3.1), (5, .bool c5)], []⟩) ?_ ?_
      · refine tR <| rM rfl rfl <| rM rfl rfl <| ARun.qv (q_eqE e3 rfl) rfl <| rM rfl rfl <| ARun.guard rfl rfl rfl (fun hc => ?_) (fun hc => ?_)
        · exact have h := iteT hc h; rM rfl rfl <| rY rfl rfl rfl <| bndE h fun v6 e4 h => r_callp rfl (strconv_Itoa_c e4) (CoL.refl _) rfl <| rY rfl rfl rfl <| rM rfl rfl <| rY rfl rfl rfl <| ARun.qv (q_seq rfl rfl) rfl <| rT rfl rfl rfl <| rA rfl rfl <| rA rfl rfl <| rN <| ATodo.stop <| ImpX.lq [] ⟨decide (v6 = p0x0), h, rfl⟩ rfl rfl
        · exact have h := iteFb hc h; rG rfl rfl rfl rfl <| rG rfl rfl rfl rfl <| rG rfl rfl rfl rfl <| rE rfl rfl rfl <| rA rfl rfl <| rA rfl rfl <| rN <| ATodo.stop <| ImpX.lq [] ⟨false, h, rfl⟩ rfl rfl
      · rintro σ' ⟨c5, h, rfl⟩
        unfold Q_Number_j2 at h
        refine ATodo.ret <| ?_
        obtain rfl := Option.some.inj h
        exact ImpX.here ⟨_, .cons (.tmp _ _ rfl) (.cons (.tmp _ _ rfl) .nil), rfl⟩

set_option maxHeartbeats 4000000 in
theorem Q_VersionOf_c {p0x0 : Str} {r : Version × Int} (h : Q_VersionOf p0x0 = some r) : Pu Tryd.prog 31 [.str p0x0] (.tup [.agg [I r.1.Major, I r.1.Minor, I r.1.Patch], I r.2]) := by
  unfold Q_VersionOf at h
  refine ACall.bodyN Tryd.func31 rfl Tryd.ntmps31 Tryd.results31 rfl rfl ?_
  refine tSR <| n_alloc rfl rfl rfl rfl fun b1 => rA rfl rfl <| rN <| tSR <| rM rfl rfl <| bndE h fun v2 e1 h => t_call1 rfl (strings_Split_c e1) (CoL.refl _) .nil (fun _ => rfl) rfl fun b3 => rA rfl rfl <| rN <| tS <| tSR <| rM rfl rfl <| ARun.qv (t_len_sl rfl) rfl <| ARun.qv (q_neq rfl rfl) rfl <| rN <| ATodo.cond_d rfl (fun hc => ?_) (fun hc => ?_)
  · refine have h := iteT hc h; tSR <| ARun.qv (n_build rfl rfl rfl rfl rfl) rfl <| n_store_ptr rfl rfl rfl rfl .p1 rfl rfl <| rA rfl rfl <| rN <| ATodo.ret <| ?_
    obtain rfl := Option.some.inj h
    exact ImpX.here ⟨_, .cons (.all _ _ _ _ _ _ rfl .p1 TUnder.h TInfo.h rfl rfl) (.cons (.tmp _ _ rfl) .nil), rfl⟩
  · refine have h := iteF hc h; tK <| tSR <| n_allocA (g := I) (Xs := ([(0 : Int), (0 : Int), (0 : Int)] : List Int)) rfl rfl rfl rfl rfl rfl fun b4 => rN <| tS <| tSR <| rM rfl rfl <| ARun.qv (t_len_sl rfl) rfl <| rM rfl rfl <| rN <| ATodo.block <| ATodo.loopI (fun x : (List Int) × Int => Q_VersionOf_b1 v2 x.1 x.2) (fun x σ' => σ' = ⟨46, [(2, .ptr b1 0), (5, .ptr b4 0), (15, .sl 1 b3 0 v2.length), (16, I (v2.length : Int)), (17, I x.2)], [(b1, .cells [I (0 : Int), I (0 : Int), I (0 : Int)]), (b4, .arr 1 (x.1.map I)), (b3, .arr 1 (v2.map AV.str))]⟩) h ?_ ?_
    · exact ImpX.lq [2, 0, 0] rfl rfl rfl
    · intro x z1 σ' J1 hmk h hJ1 hA1
      obtain ⟨l7, n8⟩ := x
      obtain rfl := hmk
      replace h : Q_VersionOf_b1 v2 l7 n8 = some z1 := h
      unfold Q_VersionOf_b1 at h
      refine tSR <| ARun.qv (q_lss rfl rfl) rfl <| rN <| tS <| ATodo.cond_d rfl (fun hc => ?_) (fun hc => ?_)
      · refine have h := iteT hc h; tK <| tS <| ATodo.block <| tSR <| rM rfl rfl <| bndE h fun v9 e2 h => ARun.qv (t_index_sl rfl rfl rfl e2) rfl <| ARun.qv (t_load_aptr (g := AV.str) rfl rfl (.inl .p2) e2 rfl) rfl <| rA rfl rfl <| rA rfl rfl <| rN <| tSR <| rA rfl rfl <| rN <| tSR <| rM rfl rfl <| rM rfl rfl <| bndE h fun v10 e3 h => r_callp rfl (Q_Number_c e3) (CoL.refl _) rfl <| rM rfl rfl <| rX rfl rfl rfl <| rX rfl rfl rfl <| bndE h fun v11 e4 h => ARun.qv (t_index_ar rfl rfl rfl e4) rfl <| t_store_aptr1 (g := I) (el' := v10.1) rfl rfl rfl rfl (idxA_some e4).2 rfl .p1 rfl <| rA rfl rfl <| rN <| tS <| ATodo.cut (fun σ' => ∃ (c12 : Bool), Q_VersionOf_j1 l7 n8 v10 c12 = some z1 ∧ σ' = ⟨46, [(2, .ptr b1 0), (5, .ptr b4 0), (15, .sl 1 b3 0 v2.length), (16, I (v2.length : Int)), (17, I n8), (36, .bool c12)], [(b1, .cells [I (0 : Int), I (0 : Int), I (0 : Int)]), (b4, .arr 1 ((l7.set n8.toNat v10.1).map I)), (b3, .arr 1 (v2.map AV.str))]⟩) ?_ ?_
        · refine tR <| rM rfl rfl <| ARun.qv (q_not rfl) rfl <| rM rfl rfl <| ARun.guard rfl rfl rfl (fun hc => ?_) (fun hc => ?_)
          · exact have h := iteFb hc h; rM rfl rfl <| rY rfl rfl rfl <| bndE h fun v13 e5 h => ARun.qv (t_index_ar rfl rfl rfl e5) rfl <| rY rfl rfl rfl <| ARun.qv (t_load_aptr (g := I) rfl rfl (.inl .p1) (idxA_some e5).2 rfl) rfl <| rY rfl rfl rfl <| ARun.qv (q_lss rfl rfl) rfl <| rE rfl rfl rfl <| rN <| ATodo.stop <| ImpX.lq [0, 0, 0] ⟨decide (v13 < (0 : Int)), h, rfl⟩ rfl rfl
          · exact have h := iteT hc h; rG rfl rfl rfl rfl <| rG rfl rfl rfl rfl <| rG rfl rfl rfl rfl <| rT rfl rfl rfl <| rN <| ATodo.stop <| ImpX.lq [0, 0, 0] ⟨true, h, rfl⟩ rfl rfl
        · rintro σ' ⟨c12, h, rfl⟩
          unfold Q_VersionOf_j1 at h
          refine ATodo.cond rfl (fun hc => ?_) (fun hc => ?_)
          · refine have h := iteT hc h; tSR <| ARun.qv (n_build rfl rfl rfl rfl rfl) rfl <| n_store_ptr rfl rfl rfl rfl .p0 rfl rfl <| rA rfl rfl <| rN <| ATodo.ret <| have h := outL h hA1; ?_
            obtain rfl := Option.some.inj h
            exact ImpX.here ⟨_, .cons (.all _ _ _ _ _ _ rfl .p0 TUnder.h TInfo.h rfl rfl) (.cons (.tmp _ _ rfl) .nil), rfl⟩
          · refine have h := iteFb hc h; tK <| ATodo.blk <| tR <| ARun.qv (q_addw rfl rfl) rfl <| rM rfl rfl <| rN <| ATodo.stop <| ?_
            obtain rfl := Option.some.inj h
            exact hJ1 _ _ rfl <| ImpX.lq [0, 0, 0] rfl rfl rfl
      · refine have h := iteF hc h; ATodo.exit rfl <| have h := outL h hA1; ?_
        unfold Q_VersionOf_k2 at h
        refine tSR <| bndE h fun v14 e6 h => ARun.qv (t_index_ar rfl rfl rfl e6) rfl <| ARun.qv (t_load_aptr (g := I) rfl rfl (.inl .p1) (idxA_some e6).2 rfl) rfl <| bndE h fun v15 e7 h => ARun.qv (t_index_ar rfl rfl rfl e7) rfl <| ARun.qv (t_load_aptr (g := I) rfl rfl (.inl .p1) (idxA_some e7).2 rfl) rfl <| bndE h fun v16 e8 h => ARun.qv (t_index_ar rfl rfl rfl e8) rfl <| ARun.qv (t_load_aptr (g := I) rfl rfl (.inl .p1) (idxA_some e8).2 rfl) rfl <| ARun.qv (n_build rfl rfl rfl rfl rfl) rfl <| n_store_ptr rfl rfl rfl rfl .p0 rfl rfl <| rA rfl rfl <| rN <| ATodo.ret <| ?_
        obtain rfl := Option.some.inj h
        exact ImpX.here ⟨_, .cons (.all _ _ _ _ _ _ rfl .p0 TUnder.h TInfo.h rfl rfl) (.cons (.tmp _ _ rfl) .nil), rfl⟩

set_option maxHeartbeats 4000000 in
theorem cmp_Or_int_c [GI : GTab] {p0x0 : List Int} {r : Int} (h : cmp_Or_int p0x0 = some r) : Pu Tryd.prog 65 [.list 1 (p0x0.map I)] (I r) := by
  unfold cmp_Or_int at h
  refine ACall.bodyN Tryd.func65 rfl Tryd.ntmps65 Tryd.results65 rfl rfl ?_
  refine tSR <| rA rfl rfl <| rN <| tSR <| rA rfl rfl <| rN <| tS <| tSR <| rM rfl rfl <| ARun.qv (t_len rfl) rfl <| rM rfl rfl <| rN <| ATodo.block <| ATodo.loopI (fun x : Int => cmp_Or_int_b1 p0x0 x) (fun x σ' => σ' = ⟨18, [(3, I (0 : Int)), (6, .list 1 (p0x0.map I)), (7, I (p0x0.length : Int)), (8, I x)], []⟩) h ?_ ?_
  · exact ImpX.lq [] rfl rfl rfl
  · intro n2 z1 σ' J1 hmk h hJ1 hA1
    obtain rfl := hmk
    replace h : cmp_Or_int_b1 p0x0 n2 = some z1 := h
    unfold cmp_Or_int_b1 at h
    refine tSR <| ARun.qv (q_lss rfl rfl) rfl <| rN <| tS <| ATodo.cond_d rfl (fun hc => ?_) (fun hc => ?_)
    · refine have h := iteT hc h; tK <| tS <| ATodo.block <| tSR <| bndE h fun v3 e1 h => ARun.qv (t_index rfl rfl rfl e1 rfl rfl) rfl <| ARun.qv (q_load_rptr rfl rfl rfl) rfl <| rA rfl rfl <| rN <| tSR <| rM rfl rfl <| rM rfl rfl <| ARun.qv (q_neq rfl rfl) rfl <| rN <| ATodo.cond_d rfl (fun hc => ?_) (fun hc => ?_)
      · refine have h := iteT hc h; tSR <| rM rfl rfl <| rA rfl rfl <| rN <| ATodo.ret <| have h := outL h hA1; ?_
        obtain rfl := Option.some.inj h
        exact ImpX.here ⟨_, .cons (.tmp _ _ rfl) .nil, rfl⟩
      · refine have h := iteF hc h; tK <| ATodo.blk <| tR <| ARun.qv (q_addw rfl rfl) rfl <| rM rfl rfl <| rN <| ATodo.stop <| ?_
        obtain rfl := Option.some.inj h
        exact hJ1 _ _ rfl <| ImpX.lq [] rfl rfl rfl
    · refine have h := iteF hc h; ATodo.exit rfl <| have h := outL h hA1; tSR <| rM rfl rfl <| rA rfl rfl <| rN <| ATodo.ret <| ?_
      obtain rfl := Option.some.inj h
      exact ImpX.here ⟨_, .cons (.tmp _ _ rfl) .nil, rfl⟩

set_option maxHeartbeats 4000000 in
theorem campaign_Compare_c [GI : GTab] {p0x0 : Version} {p1x0 : Version} {r : Int} (h : campaign_Compare p0x0 p1x0 = some r) : Pu Tryd.prog 32 [.agg [I p0x0.Major, I p0x0.Minor, I p0x0.Patch], .agg [I p1x0.Major, I p1x0.Minor, I p1x0.Patch]] (I r) := by
  unfold campaign_Compare at h
  refine ACall.bodyN Tryd.func32 rfl Tryd.ntmps32 Tryd.results32 rfl rfl ?_
  refine tSR <| n_box rfl rfl rfl rfl fun b1 => n_box rfl rfl rfl rfl fun b2 => rA rfl rfl <| rN <| tS <| ATodo.regionM (id := 1) (A := [0, 1, 0, 4, 15, 0, 32, 0, 128, 511, 0, 1024, 0, 4096, 16383, 32767, 65535, 131071]) 18 mixed rfl (by kernel_rfl) (by kernel_rfl) <| AM.qv (n_field_ptr rfl rfl) rfl <| AM.qv (q_load_ptr rfl rfl .p1 rfl) rfl <| AM.qv (n_field_ptr rfl rfl) rfl <| AM.qv (q_load_ptr rfl rfl .p0 rfl) rfl <| AM.callp rfl (cmp_Compare_int_c rfl) (CoL.refl _) rfl <| AM.qv (n_field_ptr rfl rfl) rfl <| AM.qv (q_load_ptr rfl rfl .p1 rfl) rfl <| AM.qv (n_field_ptr rfl rfl) rfl <| AM.qv (q_load_ptr rfl rfl .p0 rfl) rfl <| AM.callp rfl (cmp_Compare_int_c rfl) (CoL.refl _) rfl <| AM.qv (n_field_ptr rfl rfl) rfl <| AM.qv (q_load_ptr rfl rfl .p1 rfl) rfl <| AM.qv (n_field_ptr rfl rfl) rfl <| AM.qv (q_load_ptr rfl rfl .p0 rfl) rfl <| AM.callp rfl (cmp_Compare_int_c rfl) (CoL.refl _) rfl <| AM.buildSliceL (xs := ([(cmp_Compare_int p0x0.Major p1x0.Major), (cmp_Compare_int p0x0.Minor p1x0.Minor), (cmp_Compare_int p0x0.Patch p1x0.Patch)] : List Int).map I) rfl rfl rfl rfl rfl rfl <| bndE h fun v3 e1 h => AM.callp rfl (cmp_Or_int_c e1) (CoL.refl _) rfl <| AM.qv (q_assign rfl) rfl <| AM.nil <| rN <| ATodo.ret <| ?_
  obtain rfl := Option.some.inj h
  exact ImpX.here ⟨_, .cons (.tmp _ _ rfl) .nil, rfl⟩

set_option maxHeartbeats 4000000 in
theorem base_Key_c [GI : GTab] {p0x0 : Str} {r : Bool} (h : base_Key p0x0 = some r) : Pu Tryd.prog 68 [.str p0x0] (.bool r) := by
  unfold base_Key at h
  refine ACall.bodyN Tryd.func68 rfl Tryd.ntmps68 Tryd.results68 rfl rfl ?_
  refine tSR <| rA rfl rfl <| rN <| tS <| tS <| ATodo.cut (fun σ' => ∃ (c1 : Bool), base_Key_j1 p0x0 c1 = some r ∧ σ' = ⟨54, [(0, .str p0x0), (21, .bool c1)], []⟩) ?_ ?_
  · refine tR <| rM rfl rfl <| ARun.qv (q_seq rfl rfl) rfl <| rM rfl rfl <| ARun.guard_df rfl rfl rfl (fun hc => ?_) (fun hc => ?_)
    · refine have h := iteF hc h; rM rfl rfl <| rY rfl rfl rfl <| ARun.qv (q_len_str rfl) rfl <| rY rfl rfl rfl <| ARun.qv (q_gtr rfl rfl) rfl <| rE rfl rfl rfl <| rM rfl rfl <| ARun.guard_df rfl rfl rfl (fun hc => ?_) (fun hc => ?_)
      · refine have h := iteF hc h; rM rfl rfl <| rY rfl rfl rfl <| bndE h fun c2 e1 h => ARun.qv (t_index_str rfl rfl e1) rfl <| rY rfl rfl rfl <| ARun.qv (q_lss rfl rfl) rfl <| rE rfl rfl rfl <| rM rfl rfl <| ARun.guard_df rfl rfl rfl (fun hc => ?_) (fun hc => ?_)
        · exact have h := iteF hc h; rM rfl rfl <| rY rfl rfl rfl <| bndE h fun c3 e2 h => ARun.qv (t_index_str rfl rfl e2) rfl <| rY rfl rfl rfl <| ARun.qv (q_gtr rfl rfl) rfl <| rE rfl rfl rfl <| rN <| ATodo.stop <| ImpX.lq [] ⟨decide ((122 : Int) < (c3.toNat : Int)), h, rfl⟩ rfl rfl
        · exact have h := iteT hc h; rG rfl rfl rfl rfl <| rG rfl rfl rfl rfl <| rT rfl rfl rfl <| rN <| ATodo.stop <| ImpX.lq [] ⟨true, h, rfl⟩ rfl rfl
      · exact have h := iteT hc h; rG rfl rfl rfl rfl <| rG rfl rfl rfl rfl <| rT rfl rfl rfl <| rM rfl rfl <| rG rfl rfl rfl rfl <| rG rfl rfl rfl rfl <| rG rfl rfl rfl rfl <| rT rfl rfl rfl <| rN <| ATodo.stop <| ImpX.lq [] ⟨true, h, rfl⟩ rfl rfl
    · exact have h := iteT hc h; rG rfl rfl rfl rfl <| rG rfl rfl rfl rfl <| rT rfl rfl rfl <| rM rfl rfl <| rG rfl rfl rfl rfl <| rG rfl rfl rfl rfl <| rG rfl rfl rfl rfl <| rT rfl rfl rfl <| rM rfl rfl <| rG rfl rfl rfl rfl <| rG rfl rfl rfl rfl <| rG rfl rfl rfl rfl <| rT rfl rfl rfl <| rN <| ATodo.stop <| ImpX.lq [] ⟨true, h, rfl⟩ rfl rfl
  · rintro σ' ⟨c1, h, rfl⟩
    unfold base_Key_j1 at h
    refine ATodo.cond rfl (fun hc => ?_) (fun hc => ?_)
    · refine have h := iteT hc h; tSR <| rA rfl rfl <| rN <| ATodo.ret <| ?_
      obtain rfl := Option.some.inj h
      exact ImpX.here ⟨_, .cons (.tmp _ _ rfl) .nil, rfl⟩
    · refine have h := iteFb hc h; tK <| tS <| tSR <| rM rfl rfl <| ARun.qv (q_len_str rfl) rfl <| rM rfl rfl <| rN <| ATodo.block <| ATodo.loopI (fun x : Int => base_Key_b1 p0x0 x) (fun x σ' => σ' = ⟨54, [(0, .str p0x0), (23, I (p0x0.length : Int)), (24, I x)], []⟩) h ?_ ?_
      · exact ImpX.lq [] rfl rfl rfl
      · intro n5 z1 σ' J1 hmk h hJ1 hA1
        obtain rfl := hmk
        replace h : base_Key_b1 p0x0 n5 = some z1 := h
        unfold base_Key_b1 at h
        refine tSR <| ARun.qv (q_lss rfl rfl) rfl <| rN <| tS <| ATodo.cond_d rfl (fun hc => ?_) (fun hc => ?_)
        · refine have h := iteT hc h; tK <| tS <| ATodo.block <| tSR <| rM rfl rfl <| rA rfl rfl <| rN <| tSR <| rM rfl rfl <| rM rfl rfl <| bndE h fun c6 e3 h => ARun.qv (t_index_str rfl rfl e3) rfl <| rA rfl rfl <| rN <| tS <| ATodo.cut (fun σ' => ∃ (c7 : Bool), base_Key_j2 n5 c7 = some z1 ∧ σ' = ⟨54, [(0, .str p0x0), (23, I (p0x0.length : Int)), (24, I n5), (52, .bool c7)], []⟩) ?_ ?_
          · refine tR <| rM rfl rfl <| ARun.qv (q_geq rfl rfl) rfl <| rM rfl rfl <| ARun.guard_dt rfl rfl rfl (fun hc => ?_) (fun hc => ?_)
            · rw [if_pos hc] at h
              refine rM rfl rfl <| rY rfl rfl rfl <| ARun.qv (q_leq rfl rfl) rfl <| rT rfl rfl rfl <| rM rfl rfl <| ARun.guard_df rfl rfl rfl (fun hc => ?_) (fun hc => ?_)
              · rw [if_neg hc] at h
                refine rM rfl rfl <| rY rfl rfl rfl <| ARun.qv (q_geq rfl rfl) rfl <| rY rfl rfl rfl <| rM rfl rfl <| ARun.guard_dt rfl rfl rfl (fun hc => ?_) (fun hc => ?_)
                · rw [if_pos hc] at h
                  refine rM rfl rfl <| rY rfl rfl rfl <| ARun.qv (q_leq rfl rfl) rfl <| rY rfl rfl rfl <| rT rfl rfl rfl <| rE rfl rfl rfl <| rM rfl rfl <| ARun.guard_df rfl rfl rfl (fun hc => ?_) (fun hc => ?_)
                  · rw [if_neg hc] at h
                    refine rM rfl rfl <| rY rfl rfl rfl <| ARun.qv (q_eql rfl rfl) rfl <| rE rfl rfl rfl <| rM rfl rfl <| ARun.guard_df rfl rfl rfl (fun hc => ?_) (fun hc => ?_)
                    · rw [if_neg hc] at h
                      exact rM rfl rfl <| rY rfl rfl rfl <| ARun.qv (q_eql rfl rfl) rfl <| rE rfl rfl rfl <| ARun.qv (q_not_d rfl) rfl <| rN <| ATodo.stop <| ImpX.lq [] ⟨decide (¬ ((c6.toNat : Int) = (95 : Int))), h, rfl⟩ rfl rfl
                    · rw [if_pos hc] at h
                      exact rG rfl rfl rfl rfl <| rT rfl rfl rfl <| ARun.qv (q_not rfl) rfl <| rN <| ATodo.stop <| ImpX.lq [] ⟨!true, h, rfl⟩ rfl rfl
                  · rw [if_pos hc] at h
                    exact rG rfl rfl rfl rfl <| rT rfl rfl rfl <| rM rfl rfl <| rG rfl rfl rfl rfl <| rG rfl rfl rfl rfl <| rT rfl rfl rfl <| ARun.qv (q_not rfl) rfl <| rN <| ATodo.stop <| ImpX.lq [] ⟨!true, h, rfl⟩ rfl rfl
                · rw [if_neg hc] at h
                  refine rG rfl rfl rfl rfl <| rY rfl rfl rfl <| rE rfl rfl rfl <| rE rfl rfl rfl <| rM rfl rfl <| rY rfl rfl rfl <| rM rfl rfl <| rY rfl rfl rfl <| ARun.qv (q_eql rfl rfl) rfl <| rE rfl rfl rfl <| rM rfl rfl <| ARun.guard_df rfl rfl rfl (fun hc => ?_) (fun hc => ?_)
                  · rw [if_neg hc] at h
                    exact rM rfl rfl <| rY rfl rfl rfl <| ARun.qv (q_eql rfl rfl) rfl <| rE rfl rfl rfl <| ARun.qv (q_not_d rfl) rfl <| rN <| ATodo.stop <| ImpX.lq [] ⟨decide (¬ ((c6.toNat : Int) = (95 : Int))), h, rfl⟩ rfl rfl
                  · rw [if_pos hc] at h
                    exact rG rfl rfl rfl rfl <| rT rfl rfl rfl <| ARun.qv (q_not rfl) rfl <| rN <| ATodo.stop <| ImpX.lq [] ⟨!true, h, rfl⟩ rfl rfl
              · rw [if_pos hc] at h
                exact rG rfl rfl rfl rfl <| rG rfl rfl rfl rfl <| ARun.guard_und rfl rfl rfl <| ARun.guard_und rfl rfl rfl <| rG rfl rfl rfl rfl <| rT rfl rfl rfl <| rM rfl rfl <| rG rfl rfl rfl rfl <| rG rfl rfl rfl rfl <| rT rfl rfl rfl <| rM rfl rfl <| rG rfl rfl rfl rfl <| rG rfl rfl rfl rfl <| rT rfl rfl rfl <| ARun.qv (q_not rfl) rfl <| rN <| ATodo.stop <| ImpX.lq [] ⟨!true, h, rfl⟩ rfl rfl
            · rw [if_neg hc] at h
              refine rG rfl rfl rfl rfl <| rE rfl rfl rfl <| rM rfl rfl <| rY rfl rfl rfl <| rM rfl rfl <| rY rfl rfl rfl <| ARun.qv (q_geq rfl rfl) rfl <| rY rfl rfl rfl <| rM rfl rfl <| ARun.guard_dt rfl rfl rfl (fun hc => ?_) (fun hc => ?_)
              · rw [if_pos hc] at h
                refine rM rfl rfl <| rY rfl rfl rfl <| ARun.qv (q_leq rfl rfl) rfl <| rY rfl rfl rfl <| rT rfl rfl rfl <| rE rfl rfl rfl <| rM rfl rfl <| ARun.guard_df rfl rfl rfl (fun hc => ?_) (fun hc => ?_)
                · rw [if_neg hc] at h
                  refine rM rfl rfl <| rY rfl rfl rfl <| ARun.qv (q_eql rfl rfl) rfl <| rE rfl rfl rfl <| rM rfl rfl <| ARun.guard_df rfl rfl rfl (fun hc => ?_) (fun hc => ?_)
                  · rw [if_neg hc] at h
                    exact rM rfl rfl <| rY rfl rfl rfl <| ARun.qv (q_eql rfl rfl) rfl <| rE rfl rfl rfl <| ARun.qv (q_not_d rfl) rfl <| rN <| ATodo.stop <| ImpX.lq [] ⟨decide (¬ ((c6.toNat : Int) = (95 : Int))), h, rfl⟩ rfl rfl
                  · rw [if_pos hc] at h
                    exact rG rfl rfl rfl rfl <| rT rfl rfl rfl <| ARun.qv (q_not rfl) rfl <| rN <| ATodo.stop <| ImpX.lq [] ⟨!true, h, rfl⟩ rfl rfl
                · rw [if_pos hc] at h
                  exact rG rfl rfl rfl rfl <| rT rfl rfl rfl <| rM rfl rfl <| rG rfl rfl rfl rfl <| rG rfl rfl rfl rfl <| rT rfl rfl rfl <| ARun.qv (q_not rfl) rfl <| rN <| ATodo.stop <| ImpX.lq [] ⟨!true, h, rfl⟩ rfl rfl
              · rw [if_neg hc] at h
                refine rG rfl rfl rfl rfl <| rY rfl rfl rfl <| rE rfl rfl rfl <| rE rfl rfl rfl <| rM rfl rfl <| rY rfl rfl rfl <| rM rfl rfl <| rY rfl rfl rfl <| ARun.qv (q_eql rfl rfl) rfl <| rE rfl rfl rfl <| rM rfl rfl <| ARun.guard_df rfl rfl rfl (fun hc => ?_) (fun hc => ?_)
                · rw [if_neg hc] at h
                  exact rM rfl rfl <| rY rfl rfl rfl <| ARun.qv (q_eql rfl rfl) rfl <| rE rfl rfl rfl <| ARun.qv (q_not_d rfl) rfl <| rN <| ATodo.stop <| ImpX.lq [] ⟨decide (¬ ((c6.toNat : Int) = (95 : Int))), h, rfl⟩ rfl rfl
                · rw [if_pos hc] at h
                  exact rG rfl rfl rfl rfl <| rT rfl rfl rfl <| ARun.qv (q_not rfl) rfl <| rN <| ATodo.stop <| ImpX.lq [] ⟨!true, h, rfl⟩ rfl rfl
          · rintro σ' ⟨c7, h, rfl⟩
            unfold base_Key_j2 at h
            refine ATodo.cond rfl (fun hc => ?_) (fun hc => ?_)
            · refine have h := iteT hc h; tSR <| rA rfl rfl <| rN <| ATodo.ret <| have h := outL h hA1; ?_
              obtain rfl := Option.some.inj h
              exact ImpX.here ⟨_, .cons (.tmp _ _ rfl) .nil, rfl⟩
            · refine have h := iteFb hc h; tK <| ATodo.blk <| tR <| ARun.qv (q_addw rfl rfl) rfl <| rM rfl rfl <| rN <| ATodo.stop <| ?_
              obtain rfl := Option.some.inj h
              exact hJ1 _ _ rfl <| ImpX.lq [] rfl rfl rfl
        · refine have h := iteF hc h; ATodo.exit rfl <| have h := outL h hA1; tSR <| rA rfl rfl <| rN <| ATodo.ret <| ?_
          obtain rfl := Option.some.inj h
          exact ImpX.here ⟨_, .cons (.tmp _ _ rfl) .nil, rfl⟩

set_option maxHeartbeats 4000000 in
theorem campaign_covers_1x_c [GI : GTab] {p0x0 : Range} {p1x0 : Version} {r : Bool} (h : campaign_covers_1x p0x0 p1x0 = some r) : Pu Tryd.prog 119 [.agg [I p0x0.Low.Major, I p0x0.Low.Minor, I p0x0.Low.Patch, I p0x0.High.Major, I p0x0.High.Minor, I p0x0.High.Patch], .rptr [I p1x0.Major, I p1x0.Minor, I p1x0.Patch]] (.bool r) := by
  unfold campaign_covers_1x at h
  refine ACall.bodyN Tryd.func119 rfl Tryd.ntmps119 Tryd.results119 rfl rfl ?_
  refine tSR <| n_box rfl rfl rfl rfl fun b1 => rA rfl rfl <| rN <| tS <| ATodo.cut (fun σ' => ∃ (c2 : Bool), campaign_covers_1x_j1 c2 = some r ∧ σ' = ⟨16, [(3, .bool c2)], []⟩) ?_ ?_
  · refine tR <| rF rfl rfl rfl <| ARun.qv (n_load_ptr_part rfl rfl .p0 rfl rfl) rfl <| ARun.qv (q_load_rptr_agg rfl rfl rfl) rfl <| bndE h fun v3 e1 h => r_callp rfl (campaign_Compare_c e1) (CoL.refl _) rfl <| ARun.qv (q_leq rfl rfl) rfl <| rM rfl rfl <| ARun.guard_dt rfl rfl rfl (fun hc => ?_) (fun hc => ?_)
    · exact have h := iteT hc h; ARun.qv (q_load_rptr_agg rfl rfl rfl) rfl <| rY rfl rfl rfl <| rF rfl rfl rfl <| rY rfl rfl rfl <| ARun.qv (n_load_ptr_part rfl rfl .p0 rfl rfl) rfl <| rY rfl rfl rfl <| bndE h fun v4 e2 h => r_callp rfl (campaign_Compare_c e2) (CoL.refl _) rfl <| rY rfl rfl rfl <| ARun.qv (q_leq rfl rfl) rfl <| rT rfl rfl rfl <| rA rfl rfl <| rN <| ATodo.stop <| ImpX.lq [] ⟨decide (v4 ≤ (0 : Int)), h, rfl⟩ rfl rfl
    · exact have h := iteF hc h; rG rfl rfl rfl rfl <| rG rfl rfl rfl rfl <| rG rfl rfl rfl rfl <| rG rfl rfl rfl rfl <| rE rfl rfl rfl <| rA rfl rfl <| rN <| ATodo.stop <| ImpX.lq [] ⟨false, h, rfl⟩ rfl rfl
  · rintro σ' ⟨c2, h, rfl⟩
    unfold campaign_covers_1x_j1 at h
    refine ATodo.ret <| ?_
    obtain rfl := Option.some.inj h
    exact ImpX.here ⟨_, .cons (.tmp _ _ rfl) .nil, rfl⟩

set_option maxHeartbeats 4000000 in
theorem slices_IndexFunc_Range_Range_c [GI : GTab] {p0x0 : List Range} {fnb : Range → Option Bool} {fnb_F : FuncId} [IsFn Tryd.prog fnb_F] {fnb_C : List AV} (fnb_h : ∀ {y0 : _} {u : Bool}, fnb y0 = some u → Pu Tryd.prog fnb_F (.agg [I y0.Low.Major, I y0.Low.Minor, I y0.Low.Patch, I y0.High.Major, I y0.High.Minor, I y0.High.Patch] ::  fnb_C) (.bool u)) {r : Int} (h : slices_IndexFunc_Range_Range p0x0 fnb = some r) : Pu Tryd.prog 143 [.list 6 (p0x0.map Range.av), .func (.func fnb_F) fnb_C] (I r) := by
  unfold slices_IndexFunc_Range_Range at h
  refine ACall.bodyN Tryd.func143 rfl Tryd.ntmps143 Tryd.results143 rfl rfl ?_
  refine tSR <| rA rfl rfl <| rN <| tS <| tSR <| rM rfl rfl <| ARun.qv (t_len rfl) rfl <| rM rfl rfl <| rN <| ATodo.block <| ATodo.loopI (fun x : Int => slices_IndexFunc_Range_Range_b1 p0x0 fnb x) (fun x σ' => σ' = ⟨19, [(0, .list 6 (p0x0.map Range.av)), (1, .func (.func fnb_F) fnb_C), (7, I (p0x0.length : Int)), (8, I x)], []⟩) h ?_ ?_
  · exact ImpX.lq [] rfl rfl rfl
  · intro n2 z1 σ' J1 hmk h hJ1 hA1
    obtain rfl := hmk
    replace h : slices_IndexFunc_Range_Range_b1 p0x0 fnb n2 = some z1 := h
    unfold slices_IndexFunc_Range_Range_b1 at h
    refine tSR <| ARun.qv (q_lss rfl rfl) rfl <| rN <| tS <| ATodo.cond_d rfl (fun hc => ?_) (fun hc => ?_)
    · refine have h := iteT hc h; tK <| tS <| ATodo.block <| tSR <| rM rfl rfl <| rA rfl rfl <| rN <| tSR <| rM rfl rfl <| rM rfl rfl <| rM rfl rfl <| bndE h fun v3 e1 h => ARun.qv (t_index rfl rfl rfl e1 rfl rfl) rfl <| ARun.qv (q_load_rptr_agg rfl rfl rfl) rfl <| bndE h fun v4 e2 h => r_callvp rfl rfl (fnb_h e2) (CoL.refl _) rfl <| rN <| ATodo.cond rfl (fun hc => ?_) (fun hc => ?_)
      · refine have h := iteT hc h; tSR <| rM rfl rfl <| rA rfl rfl <| rN <| ATodo.ret <| have h := outL h hA1; ?_
        obtain rfl := Option.some.inj h
        exact ImpX.here ⟨_, .cons (.tmp _ _ rfl) .nil, rfl⟩
      · refine have h := iteFb hc h; tK <| ATodo.blk <| tR <| ARun.qv (q_addw rfl rfl) rfl <| rM rfl rfl <| rN <| ATodo.stop <| ?_
        obtain rfl := Option.some.inj h
        exact hJ1 _ _ rfl <| ImpX.lq [] rfl rfl rfl
    · refine have h := iteF hc h; ATodo.exit rfl <| have h := outL h hA1; tSR <| rA rfl rfl <| rN <| ATodo.ret <| ?_
      obtain rfl := Option.some.inj h
      exact ImpX.here ⟨_, .cons (.tmp _ _ rfl) .nil, rfl⟩

set_option maxHeartbeats 4000000 in
theorem slices_ContainsFunc_Range_Range_c [GI : GTab] {p0x0 : List Range} {fnb : Range → Option Bool} {fnb_F : FuncId} [IsFn Tryd.prog fnb_F] {fnb_C : List AV} (fnb_h : ∀ {y0 : _} {u : Bool}, fnb y0 = some u → Pu Tryd.prog fnb_F (.agg [I y0.Low.Major, I y0.Low.Minor, I y0.Low.Patch, I y0.High.Major, I y0.High.Minor, I y0.High.Patch] ::  fnb_C) (.bool u)) {r : Bool} (h : slices_ContainsFunc_Range_Range p0x0 fnb = some r) : Pu Tryd.prog 118 [.list 6 (p0x0.map Range.av), .func (.func fnb_F) fnb_C] (.bool r) := by
  unfold slices_ContainsFunc_Range_Range at h
  refine ACall.bodyN Tryd.func118 rfl Tryd.ntmps118 Tryd.results118 rfl rfl ?_
  refine tSR <| rA rfl rfl <| rN <| tSR <| rM rfl rfl <| rM rfl rfl <| bndE h fun v1 e1 h => r_callpB rfl (slices_IndexFunc_Range_Range_c fnb_h e1) (.cons (.co (.refl _)) (.cons (.co (.refl _)) .nil)) rfl rfl <| ARun.qv (q_geq rfl rfl) rfl <| rA rfl rfl <| rN <| ATodo.ret <| ?_
  obtain rfl := Option.some.inj h
  exact ImpX.here ⟨_, .cons (.tmp _ _ rfl) .nil, rfl⟩

set_option maxHeartbeats 4000000 in
theorem campaign_covers_c [GI : GTab] {p0x0 : Image} {p1x0 : Version} {r : Bool} (h : campaign_covers p0x0 p1x0 = some r) : Pu Tryd.prog 94 [.agg [I p0x0.Version.Major, I p0x0.Version.Minor, I p0x0.Version.Patch, .list 1 (p0x0.Models.map AV.str), .list 6 (p0x0.From.map Range.av), I p0x0.Size], .agg [I p1x0.Major, I p1x0.Minor, I p1x0.Patch]] (.bool r) := by
  unfold campaign_covers at h
  refine ACall.bodyN Tryd.func94 rfl Tryd.ntmps94 Tryd.results94 rfl rfl ?_
  refine tSR <| n_box rfl rfl rfl rfl fun b1 => n_box rfl rfl rfl rfl fun b2 => rA rfl rfl <| rN <| tSR <| rF rfl rfl rfl <| rL rfl rfl .p1 rfl rfl <| ARun.qv (q_makeFunc rfl) rfl <| bndE h fun v3 e1 h => r_callpB rfl (slices_ContainsFunc_Range_Range_c (fun e => campaign_covers_1x_c e) e1) (.cons (.co (.refl _)) (.cons (.funcL _ _ _ (.cons (.boxL _ _ _ .p0 (.cons (.co (.refl _)) (.cons (.co (.refl _)) (.cons (.co (.refl _)) .nil)))) .nil)) .nil)) rfl rfl <| rA rfl rfl <| rN <| ATodo.ret <| ?_
  obtain rfl := Option.some.inj h
  exact ImpX.here ⟨_, .cons (.tmp _ _ rfl) .nil, rfl⟩

set_option maxHeartbeats 4000000 in
theorem campaign_rangesFault_c [GI : GTab] {p0x0 : Image} {r : Int} (h : campaign_rangesFault p0x0 = some r) : Pu Tryd.prog 69 [.agg [I p0x0.Version.Major, I p0x0.Version.Minor, I p0x0.Version.Patch, .list 1 (p0x0.Models.map AV.str), .list 6 (p0x0.From.map Range.av), I p0x0.Size]] (I r) := by
  unfold campaign_rangesFault at h
  refine ACall.bodyN Tryd.func69 rfl Tryd.ntmps69 Tryd.results69 rfl rfl ?_
  refine tSR <| n_box rfl rfl rfl rfl fun b1 => rA rfl rfl <| rN <| tS <| tSR <| rF rfl rfl rfl <| rL rfl rfl .p0 rfl rfl <| ARun.qv (t_len rfl) rfl <| ARun.qv (q_gtr rfl rfl) rfl <| rN <| ATodo.cond_d rfl (fun hc => ?_) (fun hc => ?_)
  · refine have h := iteT hc h; tSR <| rA rfl rfl <| rN <| ATodo.ret <| ?_
    obtain rfl := Option.some.inj h
    exact ImpX.here ⟨_, .cons (.tmp _ _ rfl) .nil, rfl⟩
  · refine have h := iteF hc h; tK <| tS <| tSR <| rF rfl rfl rfl <| rL rfl rfl .p0 rfl rfl <| ARun.qv (t_len rfl) rfl <| rM rfl rfl <| rN <| ATodo.block <| ATodo.loopI (fun x : Int => campaign_rangesFault_b1 p0x0 x) (fun x σ' => σ' = ⟨57, [(1, .ptr b1 0), (10, .list 6 (p0x0.From.map Range.av)), (11, I (p0x0.From.length : Int)), (12, I x)], [(b1, .cells [I p0x0.Version.Major, I p0x0.Version.Minor, I p0x0.Version.Patch, .list 1 (p0x0.Models.map AV.str), .list 6 (p0x0.From.map Range.av), I p0x0.Size])]⟩) h ?_ ?_
    · exact ImpX.lq [0] rfl rfl rfl
    · intro n3 z1 σ' J1 hmk h hJ1 hA1
      obtain rfl := hmk
      replace h : campaign_rangesFault_b1 p0x0 n3 = some z1 := h
      unfold campaign_rangesFault_b1 at h
      refine tSR <| ARun.qv (q_lss rfl rfl) rfl <| rN <| tS <| ATodo.cond_d rfl (fun hc => ?_) (fun hc => ?_)
      · refine have h := iteT hc h; tK <| tS <| ATodo.block <| tSR <| rM rfl rfl <| bndE h fun v4 e1 h => ARun.qv (t_index rfl rfl rfl e1 rfl rfl) rfl <| ARun.qv (q_load_rptr_agg rfl rfl rfl) rfl <| n_alloc rfl rfl rfl rfl fun b5 => rA rfl rfl <| n_store_ptr rfl rfl rfl rfl .p0 rfl rfl <| rN <| ATodo.block <| tS <| ATodo.cut (fun σ' => ∃ (c6 : Bool), campaign_rangesFault_j1 p0x0 n3 v4 c6 = some z1 ∧ σ' = ⟨57, [(1, .ptr b1 0), (3, I n3), (4, .ptr b5 0), (10, .list 6 (p0x0.From.map Range.av)), (11, I (p0x0.From.length : Int)), (12, I n3), (17, .bool c6)], [(b1, .cells [I p0x0.Version.Major, I p0x0.Version.Minor, I p0x0.Version.Patch, .list 1 (p0x0.Models.map AV.str), .list 6 (p0x0.From.map Range.av), I p0x0.Size]), (b5, .cells [I v4.Low.Major, I v4.Low.Minor, I v4.Low.Patch, I v4.High.Major, I v4.High.Minor, I v4.High.Patch])]⟩) ?_ ?_
        · refine tR <| rF rfl rfl rfl <| ARun.qv (n_load_ptr_part rfl rfl .p0 rfl rfl) rfl <| r_callp rfl (base_Version_c rfl) (CoL.refl _) rfl <| ARun.qv (q_not rfl) rfl <| rM rfl rfl <| ARun.guard rfl rfl rfl (fun hc => ?_) (fun hc => ?_)
          · refine have h := iteFb hc h; rF rfl rfl rfl <| rY rfl rfl rfl <| ARun.qv (n_load_ptr_part rfl rfl .p0 rfl rfl) rfl <| rY rfl rfl rfl <| r_callp rfl (base_Version_c rfl) (CoL.refl _) rfl <| rY rfl rfl rfl <| ARun.qv (q_not rfl) rfl <| rE rfl rfl rfl <| rM rfl rfl <| ARun.guard rfl rfl rfl (fun hc => ?_) (fun hc => ?_)
            · exact have h := iteFb hc h; rF rfl rfl rfl <| rY rfl rfl rfl <| ARun.qv (n_load_ptr_part rfl rfl .p0 rfl rfl) rfl <| rY rfl rfl rfl <| rF rfl rfl rfl <| rY rfl rfl rfl <| ARun.qv (n_load_ptr_part rfl rfl .p0 rfl rfl) rfl <| rY rfl rfl rfl <| bndE h fun v7 e2 h => r_callp rfl (campaign_Compare_c e2) (CoL.refl _) rfl <| rY rfl rfl rfl <| ARun.qv (q_gtr rfl rfl) rfl <| rE rfl rfl rfl <| rA rfl rfl <| rN <| ATodo.stop <| ImpX.lq [1, 0] ⟨decide ((0 : Int) < v7), h, rfl⟩ rfl rfl
            · exact have h := iteT hc h; rG rfl rfl rfl rfl <| rG rfl rfl rfl rfl <| rG rfl rfl rfl rfl <| rG rfl rfl rfl rfl <| rG rfl rfl rfl rfl <| rT rfl rfl rfl <| rA rfl rfl <| rN <| ATodo.stop <| ImpX.lq [1, 0] ⟨true, h, rfl⟩ rfl rfl
          · exact have h := iteT hc h; rG rfl rfl rfl rfl <| rG rfl rfl rfl rfl <| rG rfl rfl rfl rfl <| rT rfl rfl rfl <| rM rfl rfl <| rG rfl rfl rfl rfl <| rG rfl rfl rfl rfl <| rG rfl rfl rfl rfl <| rG rfl rfl rfl rfl <| rG rfl rfl rfl rfl <| rG rfl rfl rfl rfl <| rT rfl rfl rfl <| rA rfl rfl <| rN <| ATodo.stop <| ImpX.lq [1, 0] ⟨true, h, rfl⟩ rfl rfl
        · rintro σ' ⟨c6, h, rfl⟩
          unfold campaign_rangesFault_j1 at h
          refine ATodo.cond rfl (fun hc => ?_) (fun hc => ?_)
          · refine have h := iteT hc h; tSR <| rA rfl rfl <| rN <| ATodo.ret <| have h := outL h hA1; ?_
            obtain rfl := Option.some.inj h
            exact ImpX.here ⟨_, .cons (.tmp _ _ rfl) .nil, rfl⟩
          · refine have h := iteFb hc h; tS <| ATodo.cut (fun σ' => ∃ (c8 : Bool), campaign_rangesFault_j2 n3 c8 = some z1 ∧ σ' = ⟨57, [(1, .ptr b1 0), (10, .list 6 (p0x0.From.map Range.av)), (11, I (p0x0.From.length : Int)), (12, I n3), (36, .bool c8)], [(b1, .cells [I p0x0.Version.Major, I p0x0.Version.Minor, I p0x0.Version.Patch, .list 1 (p0x0.Models.map AV.str), .list 6 (p0x0.From.map Range.av), I p0x0.Size])]⟩) ?_ ?_
            · refine ATodo.regionM (id := 8) (A := [0, 1, 3, 7, 15, 7, 39, 7, 135, 487, 999, 2023, 4095, 8191, 16383, 32767]) 16 mixed rfl (by kernel_rfl) (by kernel_rfl) <| AM.qv (q_move rfl) rfl <| AM.qv (q_gtr rfl rfl) rfl <| AM.qv (q_move rfl) rfl <| AM.guard_dt rfl rfl rfl (fun hc => ?_) (fun hc => ?_)
              · exact have h := iteT hc h; AM.qv (n_field_ptr rfl rfl) rfl <| AM.guard_yes rfl rfl rfl <| AM.qv (n_load_ptr_part rfl rfl .p1 rfl rfl) rfl <| AM.guard_yes rfl rfl rfl <| AM.qv (n_field_ptr rfl rfl) rfl <| AM.guard_yes rfl rfl rfl <| AM.qv (q_load_ptr rfl rfl .p0 rfl) rfl <| AM.guard_yes rfl rfl rfl <| AM.qv (q_move rfl) rfl <| AM.guard_yes rfl rfl rfl <| AM.qv (q_subw rfl rfl) rfl <| AM.guard_yes rfl rfl rfl <| bndE h fun v9 e3 h => AM.qv (t_index rfl rfl rfl e3 rfl rfl) rfl <| AM.guard_yes rfl rfl rfl <| AM.qv (n_field_rptr rfl rfl) rfl <| AM.guard_yes rfl rfl rfl <| AM.qv (q_load_rptr_agg rfl rfl rfl) rfl <| AM.guard_yes rfl rfl rfl <| bndE h fun v10 e4 h => AM.callp rfl (campaign_Compare_c e4) (CoL.refl _) rfl <| AM.guard_yes rfl rfl rfl <| AM.qv (q_leq rfl rfl) rfl <| AM.qv (q_pick_t rfl rfl) rfl <| AM.qv (q_assign rfl) rfl <| AM.nil <| rN <| ATodo.stop <| ImpX.lq [0] ⟨decide (v10 ≤ (0 : Int)), h, rfl⟩ rfl rfl
              · exact have h := iteF hc h; AM.guard_no rfl rfl rfl rfl <| AM.guard_no rfl rfl rfl rfl <| AM.guard_no rfl rfl rfl rfl <| AM.guard_no rfl rfl rfl rfl <| AM.guard_no rfl rfl rfl rfl <| AM.guard_no rfl rfl rfl rfl <| AM.guard_no rfl rfl rfl rfl <| AM.guard_no rfl rfl rfl rfl <| AM.guard_no rfl rfl rfl rfl <| AM.guard_no rfl rfl rfl rfl <| AM.qv (q_pick_f rfl rfl) rfl <| AM.qv (q_assign rfl) rfl <| AM.nil <| rN <| ATodo.stop <| ImpX.lq [0] ⟨false, h, rfl⟩ rfl rfl
            · rintro σ' ⟨c8, h, rfl⟩
              unfold campaign_rangesFault_j2 at h
              refine ATodo.cond rfl (fun hc => ?_) (fun hc => ?_)
              · refine have h := iteT hc h; tSR <| rA rfl rfl <| rN <| ATodo.ret <| have h := outL h hA1; ?_
                obtain rfl := Option.some.inj h
                exact ImpX.here ⟨_, .cons (.tmp _ _ rfl) .nil, rfl⟩
              · refine have h := iteFb hc h; tK <| ATodo.blk <| ATodo.blk <| tR <| ARun.qv (q_addw rfl rfl) rfl <| rM rfl rfl <| rN <| ATodo.stop <| ?_
                obtain rfl := Option.some.inj h
                exact hJ1 _ _ rfl <| ImpX.lq [0] rfl rfl rfl
      · refine have h := iteF hc h; ATodo.exit rfl <| have h := outL h hA1; ?_
        unfold campaign_rangesFault_k3 at h
        refine tS <| tSR <| ARun.qv (q_load_ptr_all rfl rfl .p0 rfl) rfl <| rF rfl rfl rfl <| ARun.qv (n_load_ptr_part rfl rfl .p0 rfl rfl) rfl <| bndE h fun v11 e5 h => r_callp rfl (campaign_covers_c e5) (CoL.refl _) rfl <| rN <| ATodo.cond rfl (fun hc => ?_) (fun hc => ?_)
        · refine have h := iteT hc h; tSR <| rA rfl rfl <| rN <| ATodo.ret <| ?_
          obtain rfl := Option.some.inj h
          exact ImpX.here ⟨_, .cons (.tmp _ _ rfl) .nil, rfl⟩
        · refine have h := iteFb hc h; tK <| tSR <| rA rfl rfl <| rN <| ATodo.ret <| ?_
          obtain rfl := Option.some.inj h
          exact ImpX.here ⟨_, .cons (.tmp _ _ rfl) .nil, rfl⟩

set_option maxHeartbeats 4000000 in
theorem campaign_CheckImages_c [GI : GTab] {p0x0 : List Image} {r : Int} (h : campaign_CheckImages p0x0 = some r) : Pu Tryd.prog 34 [.list 6 (p0x0.map Image.av)] (I r) := by
  unfold campaign_CheckImages at h
  refine ACall.bodyN Tryd.func34 rfl Tryd.ntmps34 Tryd.results34 rfl rfl ?_
  refine tSR <| rA rfl rfl <| rN <| tS <| tSR <| rM rfl rfl <| ARun.qv (t_len rfl) rfl <| ARun.qv (q_gtr rfl rfl) rfl <| rN <| ATodo.cond_d rfl (fun hc => ?_) (fun hc => ?_)
  · refine have h := iteT hc h; tSR <| rA rfl rfl <| rN <| ATodo.ret <| ?_
    obtain rfl := Option.some.inj h
    exact ImpX.here ⟨_, .cons (.tmp _ _ rfl) .nil, rfl⟩
  · refine have h := iteF hc h; tK <| tS <| tSR <| rM rfl rfl <| ARun.qv (t_len rfl) rfl <| rM rfl rfl <| rN <| ATodo.block <| ATodo.loopI (fun x : Int => campaign_CheckImages_b1 p0x0 x) (fun x σ' => σ' = ⟨81, [(0, .list 6 (p0x0.map Image.av)), (11, .list 6 (p0x0.map Image.av)), (12, I (p0x0.length : Int)), (13, I x)], []⟩) h ?_ ?_
    · exact ImpX.lq [] rfl rfl rfl
    · intro n2 z1 σ' J1 hmk h hJ1 hA1
      obtain rfl := hmk
      replace h : campaign_CheckImages_b1 p0x0 n2 = some z1 := h
      unfold campaign_CheckImages_b1 at h
      refine tSR <| ARun.qv (q_lss rfl rfl) rfl <| rN <| tS <| ATodo.cond_d rfl (fun hc => ?_) (fun hc => ?_)
      · refine have h := iteT hc h; tK <| tS <| ATodo.block <| tSR <| rM rfl rfl <| bndE h fun v3 e1 h => ARun.qv (t_index rfl rfl rfl e1 rfl rfl) rfl <| ARun.qv (q_load_rptr_agg rfl rfl rfl) rfl <| n_alloc rfl rfl rfl rfl fun b4 => rA rfl rfl <| n_store_ptr rfl rfl rfl rfl .p0 rfl rfl <| rN <| tS <| ATodo.block <| tSR <| rF rfl rfl rfl <| ARun.qv (n_load_ptr_part rfl rfl .p0 rfl rfl) rfl <| r_callp rfl (base_Version_c rfl) (CoL.refl _) rfl <| ARun.qv (q_not rfl) rfl <| rA rfl rfl <| rN <| ATodo.cond rfl (fun hc => ?_) (fun hc => ?_)
        · refine have h := iteT hc h; tSR <| rA rfl rfl <| rN <| ATodo.ret <| have h := outL h hA1; ?_
          obtain rfl := Option.some.inj h
          exact ImpX.here ⟨_, .cons (.tmp _ _ rfl) .nil, rfl⟩
        · refine have h := iteFb hc h; tS <| ATodo.cut (fun σ' => ∃ (c5 : Bool), campaign_CheckImages_j1 n2 v3 c5 = some z1 ∧ σ' = ⟨81, [(0, .list 6 (p0x0.map Image.av)), (4, .ptr b4 0), (11, .list 6 (p0x0.map Image.av)), (12, I (p0x0.length : Int)), (13, I n2), (23, .bool c5)], [(b4, .cells [I v3.Version.Major, I v3.Version.Minor, I v3.Version.Patch, .list 1 (v3.Models.map AV.str), .list 6 (v3.From.map Range.av), I v3.Size])]⟩) ?_ ?_
          · refine ATodo.regionM (id := 8) (A := [0, 1, 3, 7, 15, 7, 7, 71, 231, 487, 999, 2047, 4095, 8191, 16383]) 15 mixed rfl (by kernel_rfl) (by kernel_rfl) <| AM.qv (q_move rfl) rfl <| AM.qv (q_gtr rfl rfl) rfl <| AM.qv (q_move rfl) rfl <| AM.guard_dt rfl rfl rfl (fun hc => ?_) (fun hc => ?_)
            · exact have h := iteT hc h; AM.qv (n_field_ptr rfl rfl) rfl <| AM.guard_yes rfl rfl rfl <| AM.qv (n_load_ptr_part rfl rfl .p0 rfl rfl) rfl <| AM.guard_yes rfl rfl rfl <| AM.qv (q_move rfl) rfl <| AM.guard_yes rfl rfl rfl <| AM.qv (q_move rfl) rfl <| AM.guard_yes rfl rfl rfl <| AM.qv (q_subw rfl rfl) rfl <| AM.guard_yes rfl rfl rfl <| bndE h fun v6 e2 h => AM.qv (t_index rfl rfl rfl e2 rfl rfl) rfl <| AM.guard_yes rfl rfl rfl <| AM.qv (n_field_rptr rfl rfl) rfl <| AM.guard_yes rfl rfl rfl <| AM.qv (n_load_rptr_part rfl rfl rfl rfl) rfl <| AM.guard_yes rfl rfl rfl <| bndE h fun v7 e3 h => AM.callp rfl (campaign_Compare_c e3) (CoL.refl _) rfl <| AM.guard_yes rfl rfl rfl <| AM.qv (q_leq rfl rfl) rfl <| AM.qv (q_pick_t rfl rfl) rfl <| AM.qv (q_assign rfl) rfl <| AM.nil <| rN <| ATodo.stop <| ImpX.lq [0] ⟨decide (v7 ≤ (0 : Int)), h, rfl⟩ rfl rfl
            · exact have h := iteF hc h; AM.guard_no rfl rfl rfl rfl <| AM.guard_no rfl rfl rfl rfl <| AM.guard_no rfl rfl rfl rfl <| AM.guard_no rfl rfl rfl rfl <| AM.guard_no rfl rfl rfl rfl <| AM.guard_no rfl rfl rfl rfl <| AM.guard_no rfl rfl rfl rfl <| AM.guard_no rfl rfl rfl rfl <| AM.guard_no rfl rfl rfl rfl <| AM.qv (q_pick_f rfl rfl) rfl <| AM.qv (q_assign rfl) rfl <| AM.nil <| rN <| ATodo.stop <| ImpX.lq [0] ⟨false, h, rfl⟩ rfl rfl
          · rintro σ' ⟨c5, h, rfl⟩
            unfold campaign_CheckImages_j1 at h
            refine ATodo.cond rfl (fun hc => ?_) (fun hc => ?_)
            · refine have h := iteT hc h; tSR <| rA rfl rfl <| rN <| ATodo.ret <| have h := outL h hA1; ?_
              obtain rfl := Option.some.inj h
              exact ImpX.here ⟨_, .cons (.tmp _ _ rfl) .nil, rfl⟩
            · refine have h := iteFb hc h; tSR <| rF rfl rfl rfl <| rL rfl rfl .p0 rfl rfl <| ARun.qv (t_len rfl) rfl <| ARun.qv (q_eql rfl rfl) rfl <| rA rfl rfl <| rN <| ATodo.cond_d rfl (fun hc => ?_) (fun hc => ?_)
              · refine have h := iteT hc h; tSR <| rA rfl rfl <| rN <| ATodo.ret <| have h := outL h hA1; ?_
                obtain rfl := Option.some.inj h
                exact ImpX.here ⟨_, .cons (.tmp _ _ rfl) .nil, rfl⟩
              · refine have h := iteF hc h; tSR <| rF rfl rfl rfl <| rL rfl rfl .p0 rfl rfl <| ARun.qv (t_len rfl) rfl <| ARun.qv (q_gtr rfl rfl) rfl <| rA rfl rfl <| rN <| ATodo.cond_d rfl (fun hc => ?_) (fun hc => ?_)
                · refine have h := iteT hc h; tSR <| rA rfl rfl <| rN <| ATodo.ret <| have h := outL h hA1; ?_
                  obtain rfl := Option.some.inj h
                  exact ImpX.here ⟨_, .cons (.tmp _ _ rfl) .nil, rfl⟩
                · refine have h := iteF hc h; tK <| ATodo.blk <| tS <| tSR <| rF rfl rfl rfl <| rL rfl rfl .p0 rfl rfl <| ARun.qv (t_len rfl) rfl <| rM rfl rfl <| rN <| ATodo.block <| ATodo.loopI (fun x : Int => campaign_CheckImages_b2 n2 v3 x) (fun x σ' => σ' = ⟨81, [(0, .list 6 (p0x0.map Image.av)), (4, .ptr b4 0), (11, .list 6 (p0x0.map Image.av)), (12, I (p0x0.length : Int)), (13, I n2), (49, .list 1 (v3.Models.map AV.str)), (50, I (v3.Models.length : Int)), (51, I x)], [(b4, .cells [I v3.Version.Major, I v3.Version.Minor, I v3.Version.Patch, .list 1 (v3.Models.map AV.str), .list 6 (v3.From.map Range.av), I v3.Size])]⟩) h ?_ ?_
                  · exact ImpX.lq [0] rfl rfl rfl
                  · intro n9 z2 σ' J2 hmk h hJ2 hA2
                    obtain rfl := hmk
                    replace h : campaign_CheckImages_b2 n2 v3 n9 = some z2 := h
                    unfold campaign_CheckImages_b2 at h
                    refine tSR <| ARun.qv (q_lss rfl rfl) rfl <| rN <| tS <| ATodo.cond_d rfl (fun hc => ?_) (fun hc => ?_)
                    · refine have h := iteT hc h; tK <| tS <| ATodo.block <| tSR <| rM rfl rfl <| bndE h fun v10 e4 h => ARun.qv (t_index rfl rfl rfl e4 rfl rfl) rfl <| ARun.qv (q_load_rptr rfl rfl rfl) rfl <| rA rfl rfl <| rA rfl rfl <| rN <| tS <| tSR <| rM rfl rfl <| bndE h fun v11 e5 h => r_callp rfl (base_Key_c e5) (CoL.refl _) rfl <| ARun.qv (q_not rfl) rfl <| rN <| ATodo.cond rfl (fun hc => ?_) (fun hc => ?_)
                      · refine have h := iteT hc h; tSR <| rA rfl rfl <| rN <| ATodo.ret <| have h := outL h hA2; have h := outL h hA1; ?_
                        obtain rfl := Option.some.inj h
                        exact ImpX.here ⟨_, .cons (.tmp _ _ rfl) .nil, rfl⟩
                      · refine have h := iteFb hc h; tK <| tS <| ATodo.cut (fun σ' => ∃ (c12 : Bool), campaign_CheckImages_j2 n9 c12 = some z2 ∧ σ' = ⟨81, [(0, .list 6 (p0x0.map Image.av)), (4, .ptr b4 0), (11, .list 6 (p0x0.map Image.av)), (12, I (p0x0.length : Int)), (13, I n2), (49, .list 1 (v3.Models.map AV.str)), (50, I (v3.Models.length : Int)), (51, I n9), (70, .bool c12)], [(b4, .cells [I v3.Version.Major, I v3.Version.Minor, I v3.Version.Patch, .list 1 (v3.Models.map AV.str), .list 6 (v3.From.map Range.av), I v3.Size])]⟩) ?_ ?_
                        · refine tR <| rM rfl rfl <| ARun.qv (q_gtr rfl rfl) rfl <| rM rfl rfl <| ARun.guard_dt rfl rfl rfl (fun hc => ?_) (fun hc => ?_)
                          · exact have h := iteT hc h; rM rfl rfl <| rY rfl rfl rfl <| rF rfl rfl rfl <| rY rfl rfl rfl <| rL rfl rfl .p0 rfl rfl <| rY rfl rfl rfl <| rM rfl rfl <| rY rfl rfl rfl <| ARun.qv (q_subw rfl rfl) rfl <| rY rfl rfl rfl <| bndE h fun v13 e6 h => ARun.qv (t_index rfl rfl rfl e6 rfl rfl) rfl <| rY rfl rfl rfl <| ARun.qv (q_load_rptr rfl rfl rfl) rfl <| rY rfl rfl rfl <| ARun.qv (t_sleq rfl rfl) rfl <| rT rfl rfl rfl <| rN <| ATodo.stop <| ImpX.lq [0] ⟨Op.bytesLess v10 v13 || v10 == v13, h, rfl⟩ rfl rfl
                          · exact have h := iteF hc h; rG rfl rfl rfl rfl <| rG rfl rfl rfl rfl <| rG rfl rfl rfl rfl <| rG rfl rfl rfl rfl <| rG rfl rfl rfl rfl <| rG rfl rfl rfl rfl <| rG rfl rfl rfl rfl <| rE rfl rfl rfl <| rN <| ATodo.stop <| ImpX.lq [0] ⟨false, h, rfl⟩ rfl rfl
                        · rintro σ' ⟨c12, h, rfl⟩
                          unfold campaign_CheckImages_j2 at h
                          refine ATodo.cond rfl (fun hc => ?_) (fun hc => ?_)
                          · refine have h := iteT hc h; tSR <| rA rfl rfl <| rN <| ATodo.ret <| have h := outL h hA2; have h := outL h hA1; ?_
                            obtain rfl := Option.some.inj h
                            exact ImpX.here ⟨_, .cons (.tmp _ _ rfl) .nil, rfl⟩
                          · refine have h := iteFb hc h; tK <| ATodo.blk <| tR <| ARun.qv (q_addw rfl rfl) rfl <| rM rfl rfl <| rN <| ATodo.stop <| ?_
                            obtain rfl := Option.some.inj h
                            exact hJ2 _ _ rfl <| ImpX.lq [0] rfl rfl rfl
                    · refine have h := iteF hc h; ATodo.exit rfl <| have h := outL h hA2; ?_
                      unfold campaign_CheckImages_k3 at h
                      refine tS <| tSR <| ARun.qv (q_load_ptr_all rfl rfl .p0 rfl) rfl <| bndE h fun v14 e7 h => r_callp rfl (campaign_rangesFault_c e7) (CoL.refl _) rfl <| rA rfl rfl <| rN <| tSR <| rM rfl rfl <| ARun.qv (q_neq rfl rfl) rfl <| rN <| ATodo.cond_d rfl (fun hc => ?_) (fun hc => ?_)
                      · refine have h := iteT hc h; tSR <| rM rfl rfl <| rA rfl rfl <| rN <| ATodo.ret <| have h := outL h hA1; ?_
                        obtain rfl := Option.some.inj h
                        exact ImpX.here ⟨_, .cons (.tmp _ _ rfl) .nil, rfl⟩
                      · refine have h := iteF hc h; tK <| tSR <| rF rfl rfl rfl <| rL rfl rfl .p0 rfl rfl <| r_callp rfl (base_Out_c rfl) (CoL.refl _) rfl <| rN <| ATodo.cond rfl (fun hc => ?_) (fun hc => ?_)
                        · refine have h := iteT hc h; tSR <| rA rfl rfl <| rN <| ATodo.ret <| have h := outL h hA1; ?_
                          obtain rfl := Option.some.inj h
                          exact ImpX.here ⟨_, .cons (.tmp _ _ rfl) .nil, rfl⟩
                        · refine have h := iteFb hc h; tK <| ATodo.blk <| tR <| ARun.qv (q_addw rfl rfl) rfl <| rM rfl rfl <| rN <| ATodo.stop <| ?_
                          obtain rfl := Option.some.inj h
                          exact hJ1 _ _ rfl <| ImpX.lq [] rfl rfl rfl
      · refine have h := iteF hc h; ATodo.exit rfl <| have h := outL h hA1; tSR <| rA rfl rfl <| rN <| ATodo.ret <| ?_
        obtain rfl := Option.some.inj h
        exact ImpX.here ⟨_, .cons (.tmp _ _ rfl) .nil, rfl⟩

set_option maxHeartbeats 4000000 in
theorem Q_Key_c [GI : GTab] {p0x0 : Str} {r : Bool} (h : Q_Key p0x0 = some r) : Pu Tryd.prog 51 [.str p0x0] (.bool r) := by
  unfold Q_Key at h
  refine ACall.bodyN Tryd.func51 rfl Tryd.ntmps51 Tryd.results51 rfl rfl ?_
  refine tSR <| rA rfl rfl <| rN <| tS <| ATodo.cut (fun σ' => ∃ (c1 : Bool), Q_Key_j1 c1 = some r ∧ σ' = ⟨15, [(2, .bool c1)], []⟩) ?_ ?_
  · refine tR <| rM rfl rfl <| ARun.qv (q_len_str rfl) rfl <| r_callp rfl (Q_in_c rfl) (CoL.refl _) rfl <| rM rfl rfl <| ARun.guard rfl rfl rfl (fun hc => ?_) (fun hc => ?_)
    · refine have h := iteT hc h; rM rfl rfl <| rY rfl rfl rfl <| bndE h fun l2 e1 h => ARun.qv (t_slice_str rfl .none (.some _ _ _ rfl) rfl rfl e1) rfl <| rY rfl rfl rfl <| bndE h fun v3 e2 h => r_callp rfl (Q_only_c e2) (CoL.refl _) rfl <| rT rfl rfl rfl <| rM rfl rfl <| ARun.guard rfl rfl rfl (fun hc => ?_) (fun hc => ?_)
      · exact have h := iteT hc h; rM rfl rfl <| rY rfl rfl rfl <| bndE h fun v4 e3 h => r_callp rfl (Q_only_c e3) (CoL.refl _) rfl <| rT rfl rfl rfl <| rA rfl rfl <| rN <| ATodo.stop <| ImpX.lq [] ⟨v4, h, rfl⟩ rfl rfl
      · exact have h := iteFb hc h; rG rfl rfl rfl rfl <| rE rfl rfl rfl <| rA rfl rfl <| rN <| ATodo.stop <| ImpX.lq [] ⟨false, h, rfl⟩ rfl rfl
    · exact have h := iteFb hc h; rG rfl rfl rfl rfl <| rG rfl rfl rfl rfl <| rE rfl rfl rfl <| rM rfl rfl <| rG rfl rfl rfl rfl <| rG rfl rfl rfl rfl <| rE rfl rfl rfl <| rA rfl rfl <| rN <| ATodo.stop <| ImpX.lq [] ⟨false, h, rfl⟩ rfl rfl
  · rintro σ' ⟨c1, h, rfl⟩
    unfold Q_Key_j1 at h
    refine ATodo.ret <| ?_
    obtain rfl := Option.some.inj h
    exact ImpX.here ⟨_, .cons (.tmp _ _ rfl) .nil, rfl⟩

set_option maxHeartbeats 4000000 in
theorem Q_fits_1x_c [GI : GTab] {p0x0 : Range} {p1x0 : Version} {r : Bool} (h : Q_fits_1x p0x0 p1x0 = some r) : Pu Tryd.prog 120 [.agg [I p0x0.Low.Major, I p0x0.Low.Minor, I p0x0.Low.Patch, I p0x0.High.Major, I p0x0.High.Minor, I p0x0.High.Patch], .rptr [I p1x0.Major, I p1x0.Minor, I p1x0.Patch]] (.bool r) := by
  unfold Q_fits_1x at h
  refine ACall.bodyN Tryd.func120 rfl Tryd.ntmps120 Tryd.results120 rfl rfl ?_
  refine tSR <| n_box rfl rfl rfl rfl fun b1 => rA rfl rfl <| rN <| tS <| ATodo.cut (fun σ' => ∃ (c2 : Bool), Q_fits_1x_j1 c2 = some r ∧ σ' = ⟨16, [(3, .bool c2)], []⟩) ?_ ?_
  · refine tR <| rF rfl rfl rfl <| ARun.qv (n_load_ptr_part rfl rfl .p0 rfl rfl) rfl <| ARun.qv (q_load_rptr_agg rfl rfl rfl) rfl <| bndE h fun v3 e1 h => r_callp rfl (Q_VersionOrder_c e1) (CoL.refl _) rfl <| ARun.qv (q_leq rfl rfl) rfl <| rM rfl rfl <| ARun.guard_dt rfl rfl rfl (fun hc => ?_) (fun hc => ?_)
    · exact have h := iteT hc h; ARun.qv (q_load_rptr_agg rfl rfl rfl) rfl <| rY rfl rfl rfl <| rF rfl rfl rfl <| rY rfl rfl rfl <| ARun.qv (n_load_ptr_part rfl rfl .p0 rfl rfl) rfl <| rY rfl rfl rfl <| bndE h fun v4 e2 h => r_callp rfl (Q_VersionOrder_c e2) (CoL.refl _) rfl <| rY rfl rfl rfl <| ARun.qv (q_leq rfl rfl) rfl <| rT rfl rfl rfl <| rA rfl rfl <| rN <| ATodo.stop <| ImpX.lq [] ⟨decide (v4 ≤ (0 : Int)), h, rfl⟩ rfl rfl
    · exact have h := iteF hc h; rG rfl rfl rfl rfl <| rG rfl rfl rfl rfl <| rG rfl rfl rfl rfl <| rG rfl rfl rfl rfl <| rE rfl rfl rfl <| rA rfl rfl <| rN <| ATodo.stop <| ImpX.lq [] ⟨false, h, rfl⟩ rfl rfl
  · rintro σ' ⟨c2, h, rfl⟩
    unfold Q_fits_1x_j1 at h
    refine ATodo.ret <| ?_
    obtain rfl := Option.some.inj h
    exact ImpX.here ⟨_, .cons (.tmp _ _ rfl) .nil, rfl⟩

set_option maxHeartbeats 4000000 in
theorem Q_fits_c [GI : GTab] {p0x0 : Image} {p1x0 : Version} {r : Bool} (h : Q_fits p0x0 p1x0 = some r) : Pu Tryd.prog 95 [.agg [I p0x0.Version.Major, I p0x0.Version.Minor, I p0x0.Version.Patch, .list 1 (p0x0.Models.map AV.str), .list 6 (p0x0.From.map Range.av), I p0x0.Size], .agg [I p1x0.Major, I p1x0.Minor, I p1x0.Patch]] (.bool r) := by
  unfold Q_fits at h
  refine ACall.bodyN Tryd.func95 rfl Tryd.ntmps95 Tryd.results95 rfl rfl ?_
  refine tSR <| n_box rfl rfl rfl rfl fun b1 => n_box rfl rfl rfl rfl fun b2 => rA rfl rfl <| rN <| tSR <| rF rfl rfl rfl <| rL rfl rfl .p1 rfl rfl <| ARun.qv (q_makeFunc rfl) rfl <| bndE h fun v3 e1 h => r_callpB rfl (slices_ContainsFunc_Range_Range_c (fun e => Q_fits_1x_c e) e1) (.cons (.co (.refl _)) (.cons (.funcL _ _ _ (.cons (.boxL _ _ _ .p0 (.cons (.co (.refl _)) (.cons (.co (.refl _)) (.cons (.co (.refl _)) .nil)))) .nil)) .nil)) rfl rfl <| rA rfl rfl <| rN <| ATodo.ret <| ?_
  obtain rfl := Option.some.inj h
  exact ImpX.here ⟨_, .cons (.tmp _ _ rfl) .nil, rfl⟩

set_option maxHeartbeats 4000000 in
theorem Q_rangesFault_c [GI : GTab] {p0x0 : Image} {r : Int} (h : Q_rangesFault p0x0 = some r) : Pu Tryd.prog 70 [.agg [I p0x0.Version.Major, I p0x0.Version.Minor, I p0x0.Version.Patch, .list 1 (p0x0.Models.map AV.str), .list 6 (p0x0.From.map Range.av), I p0x0.Size]] (I r) := by
  unfold Q_rangesFault at h
  refine ACall.bodyN Tryd.func70 rfl Tryd.ntmps70 Tryd.results70 rfl rfl ?_
  refine tSR <| n_box rfl rfl rfl rfl fun b1 => rA rfl rfl <| rN <| tS <| tSR <| rF rfl rfl rfl <| rL rfl rfl .p0 rfl rfl <| ARun.qv (t_len rfl) rfl <| ARun.qv (q_gtr rfl rfl) rfl <| rN <| ATodo.cond_d rfl (fun hc => ?_) (fun hc => ?_)
  · refine have h := iteT hc h; tSR <| rA rfl rfl <| rN <| ATodo.ret <| ?_
    obtain rfl := Option.some.inj h
    exact ImpX.here ⟨_, .cons (.tmp _ _ rfl) .nil, rfl⟩
  · refine have h := iteF hc h; tK <| tS <| tSR <| rF rfl rfl rfl <| rL rfl rfl .p0 rfl rfl <| ARun.qv (t_len rfl) rfl <| rM rfl rfl <| rN <| ATodo.block <| ATodo.loopI (fun x : Int => Q_rangesFault_b1 p0x0 x) (fun x σ' => σ' = ⟨64, [(1, .ptr b1 0), (13, .list 6 (p0x0.From.map Range.av)), (14, I (p0x0.From.length : Int)), (15, I x)], [(b1, .cells [I p0x0.Version.Major, I p0x0.Version.Minor, I p0x0.Version.Patch, .list 1 (p0x0.Models.map AV.str), .list 6 (p0x0.From.map Range.av), I p0x0.Size])]⟩) h ?_ ?_
    · exact ImpX.lq [0] rfl rfl rfl
    · intro n3 z1 σ' J1 hmk h hJ1 hA1
      obtain rfl := hmk
      replace h : Q_rangesFault_b1 p0x0 n3 = some z1 := h
      unfold Q_rangesFault_b1 at h
      refine tSR <| ARun.qv (q_lss rfl rfl) rfl <| rN <| tS <| ATodo.cond_d rfl (fun hc => ?_) (fun hc => ?_)
      · refine have h := iteT hc h; tK <| tS <| ATodo.block <| tSR <| rM rfl rfl <| bndE h fun v4 e1 h => ARun.qv (t_index rfl rfl rfl e1 rfl rfl) rfl <| ARun.qv (q_load_rptr_agg rfl rfl rfl) rfl <| n_alloc rfl rfl rfl rfl fun b5 => rA rfl rfl <| n_store_ptr rfl rfl rfl rfl .p0 rfl rfl <| rN <| tS <| tSR <| rF rfl rfl rfl <| ARun.qv (n_load_ptr_part rfl rfl .p0 rfl rfl) rfl <| rF rfl rfl rfl <| ARun.qv (n_load_ptr_part rfl rfl .p0 rfl rfl) rfl <| n_buildSliceL (xs := ([v4.Low, v4.High] : List Version).map Version.av) rfl rfl rfl rfl rfl rfl <| ARun.qv (t_len rfl) rfl <| rM rfl rfl <| rN <| ATodo.block <| ATodo.loopI (fun x : Int => Q_rangesFault_b2 p0x0 n3 v4 x) (fun x σ' => σ' = ⟨64, [(1, .ptr b1 0), (3, I n3), (4, .ptr b5 0), (13, .list 6 (p0x0.From.map Range.av)), (14, I (p0x0.From.length : Int)), (15, I n3), (24, .list 3 ([v4.Low, v4.High].map Version.av)), (25, I ([v4.Low, v4.High].length : Int)), (26, I x)], [(b1, .cells [I p0x0.Version.Major, I p0x0.Version.Minor, I p0x0.Version.Patch, .list 1 (p0x0.Models.map AV.str), .list 6 (p0x0.From.map Range.av), I p0x0.Size]), (b5, .cells [I v4.Low.Major, I v4.Low.Minor, I v4.Low.Patch, I v4.High.Major, I v4.High.Minor, I v4.High.Patch])]⟩) h ?_ ?_
        · exact ImpX.lq [1, 0] rfl rfl rfl
        · intro n7 z2 σ' J2 hmk h hJ2 hA2
          obtain rfl := hmk
          replace h : Q_rangesFault_b2 p0x0 n3 v4 n7 = some z2 := h
          unfold Q_rangesFault_b2 at h
          refine tSR <| ARun.qv (q_lss rfl rfl) rfl <| rN <| tS <| ATodo.cond_d rfl (fun hc => ?_) (fun hc => ?_)
          · refine have h := iteT hc h; tK <| tS <| ATodo.block <| tSR <| bndE h fun v8 e2 h => ARun.qv (t_index rfl rfl rfl e2 rfl rfl) rfl <| ARun.qv (q_load_rptr_agg rfl rfl rfl) rfl <| n_alloc rfl rfl rfl rfl fun b9 => n_store_ptr rfl rfl rfl rfl .p0 rfl rfl <| rN <| tSR <| ARun.qv (q_load_ptr_all rfl rfl .p0 rfl) rfl <| r_callp rfl (Q_versionFault_c rfl) (CoL.refl _) rfl <| rA rfl rfl <| rN <| tSR <| rM rfl rfl <| ARun.qv (q_neq rfl rfl) rfl <| rN <| ATodo.cond_d rfl (fun hc => ?_) (fun hc => ?_)
            · refine have h := iteT hc h; tSR <| rM rfl rfl <| rA rfl rfl <| rN <| ATodo.ret <| have h := outL h hA2; have h := outL h hA1; ?_
              obtain rfl := Option.some.inj h
              exact ImpX.here ⟨_, .cons (.tmp _ _ rfl) .nil, rfl⟩
            · refine have h := iteF hc h; tK <| ATodo.blk <| tR <| ARun.qv (q_addw rfl rfl) rfl <| rM rfl rfl <| rN <| ATodo.stop <| ?_
              obtain rfl := Option.some.inj h
              exact hJ2 _ _ rfl <| ImpX.lq [1, 1] rfl rfl rfl
          · refine have h := iteF hc h; ATodo.exit rfl <| have h := outL h hA2; ?_
            unfold Q_rangesFault_k2 at h
            refine ATodo.block <| tSR <| rF rfl rfl rfl <| ARun.qv (n_load_ptr_part rfl rfl .p1 rfl rfl) rfl <| rF rfl rfl rfl <| ARun.qv (n_load_ptr_part rfl rfl .p1 rfl rfl) rfl <| bndE h fun v10 e3 h => r_callp rfl (Q_VersionOrder_c e3) (CoL.refl _) rfl <| ARun.qv (q_gtr rfl rfl) rfl <| rA rfl rfl <| rN <| ATodo.cond_d rfl (fun hc => ?_) (fun hc => ?_)
            · refine have h := iteT hc h; tSR <| rA rfl rfl <| rN <| ATodo.ret <| have h := outL h hA1; ?_
              obtain rfl := Option.some.inj h
              exact ImpX.here ⟨_, .cons (.tmp _ _ rfl) .nil, rfl⟩
            · refine have h := iteF hc h; tS <| ATodo.cut (fun σ' => ∃ (c11 : Bool), Q_rangesFault_j1 n3 c11 = some z1 ∧ σ' = ⟨64, [(1, .ptr b1 0), (13, .list 6 (p0x0.From.map Range.av)), (14, I (p0x0.From.length : Int)), (15, I n3), (43, .bool c11)], [(b1, .cells [I p0x0.Version.Major, I p0x0.Version.Minor, I p0x0.Version.Patch, .list 1 (p0x0.Models.map AV.str), .list 6 (p0x0.From.map Range.av), I p0x0.Size])]⟩) ?_ ?_
              · refine ATodo.regionM (id := 15) (A := [0, 1, 3, 7, 15, 7, 39, 7, 135, 487, 999, 2023, 4095, 8191, 16383, 32767]) 16 mixed rfl (by kernel_rfl) (by kernel_rfl) <| AM.qv (q_move rfl) rfl <| AM.qv (q_gtr rfl rfl) rfl <| AM.qv (q_move rfl) rfl <| AM.guard_dt rfl rfl rfl (fun hc => ?_) (fun hc => ?_)
                · exact have h := iteT hc h; AM.qv (n_field_ptr rfl rfl) rfl <| AM.guard_yes rfl rfl rfl <| AM.qv (n_load_ptr_part rfl rfl .p1 rfl rfl) rfl <| AM.guard_yes rfl rfl rfl <| AM.qv (n_field_ptr rfl rfl) rfl <| AM.guard_yes rfl rfl rfl <| AM.qv (q_load_ptr rfl rfl .p0 rfl) rfl <| AM.guard_yes rfl rfl rfl <| AM.qv (q_move rfl) rfl <| AM.guard_yes rfl rfl rfl <| AM.qv (q_subw rfl rfl) rfl <| AM.guard_yes rfl rfl rfl <| bndE h fun v12 e4 h => AM.qv (t_index rfl rfl rfl e4 rfl rfl) rfl <| AM.guard_yes rfl rfl rfl <| AM.qv (n_field_rptr rfl rfl) rfl <| AM.guard_yes rfl rfl rfl <| AM.qv (q_load_rptr_agg rfl rfl rfl) rfl <| AM.guard_yes rfl rfl rfl <| bndE h fun v13 e5 h => AM.callp rfl (Q_VersionOrder_c e5) (CoL.refl _) rfl <| AM.guard_yes rfl rfl rfl <| AM.qv (q_leq rfl rfl) rfl <| AM.qv (q_pick_t rfl rfl) rfl <| AM.qv (q_assign rfl) rfl <| AM.nil <| rN <| ATodo.stop <| ImpX.lq [0] ⟨decide (v13 ≤ (0 : Int)), h, rfl⟩ rfl rfl
                · exact have h := iteF hc h; AM.guard_no rfl rfl rfl rfl <| AM.guard_no rfl rfl rfl rfl <| AM.guard_no rfl rfl rfl rfl <| AM.guard_no rfl rfl rfl rfl <| AM.guard_no rfl rfl rfl rfl <| AM.guard_no rfl rfl rfl rfl <| AM.guard_no rfl rfl rfl rfl <| AM.guard_no rfl rfl rfl rfl <| AM.guard_no rfl rfl rfl rfl <| AM.guard_no rfl rfl rfl rfl <| AM.qv (q_pick_f rfl rfl) rfl <| AM.qv (q_assign rfl) rfl <| AM.nil <| rN <| ATodo.stop <| ImpX.lq [0] ⟨false, h, rfl⟩ rfl rfl
              · rintro σ' ⟨c11, h, rfl⟩
                unfold Q_rangesFault_j1 at h
                refine ATodo.cond rfl (fun hc => ?_) (fun hc => ?_)
                · refine have h := iteT hc h; tSR <| rA rfl rfl <| rN <| ATodo.ret <| have h := outL h hA1; ?_
                  obtain rfl := Option.some.inj h
                  exact ImpX.here ⟨_, .cons (.tmp _ _ rfl) .nil, rfl⟩
                · refine have h := iteFb hc h; tK <| ATodo.blk <| ATodo.blk <| tR <| ARun.qv (q_addw rfl rfl) rfl <| rM rfl rfl <| rN <| ATodo.stop <| ?_
                  obtain rfl := Option.some.inj h
                  exact hJ1 _ _ rfl <| ImpX.lq [0] rfl rfl rfl
      · refine have h := iteF hc h; ATodo.exit rfl <| have h := outL h hA1; ?_
        unfold Q_rangesFault_k3 at h
        refine tS <| tSR <| ARun.qv (q_load_ptr_all rfl rfl .p0 rfl) rfl <| rF rfl rfl rfl <| ARun.qv (n_load_ptr_part rfl rfl .p0 rfl rfl) rfl <| bndE h fun v14 e6 h => r_callp rfl (Q_fits_c e6) (CoL.refl _) rfl <| rN <| ATodo.cond rfl (fun hc => ?_) (fun hc => ?_)
        · refine have h := iteT hc h; tSR <| rA rfl rfl <| rN <| ATodo.ret <| ?_
          obtain rfl := Option.some.inj h
          exact ImpX.here ⟨_, .cons (.tmp _ _ rfl) .nil, rfl⟩
        · refine have h := iteFb hc h; tK <| tSR <| rA rfl rfl <| rN <| ATodo.ret <| ?_
          obtain rfl := Option.some.inj h
          exact ImpX.here ⟨_, .cons (.tmp _ _ rfl) .nil, rfl⟩

set_option maxHeartbeats 4000000 in
theorem Q_ImagesFault_c [GI : GTab] {p0x0 : List Image} {r : Int} (h : Q_ImagesFault p0x0 = some r) : Pu Tryd.prog 35 [.list 6 (p0x0.map Image.av)] (I r) := by
  unfold Q_ImagesFault at h
  refine ACall.bodyN Tryd.func35 rfl Tryd.ntmps35 Tryd.results35 rfl rfl ?_
  refine tSR <| rA rfl rfl <| rN <| tS <| tSR <| rM rfl rfl <| ARun.qv (t_len rfl) rfl <| ARun.qv (q_gtr rfl rfl) rfl <| rN <| ATodo.cond_d rfl (fun hc => ?_) (fun hc => ?_)
  · refine have h := iteT hc h; tSR <| rA rfl rfl <| rN <| ATodo.ret <| ?_
    obtain rfl := Option.some.inj h
    exact ImpX.here ⟨_, .cons (.tmp _ _ rfl) .nil, rfl⟩
  · refine have h := iteF hc h; tK <| tS <| tSR <| rM rfl rfl <| ARun.qv (t_len rfl) rfl <| rM rfl rfl <| rN <| ATodo.block <| ATodo.loopI (fun x : Int => Q_ImagesFault_b1 p0x0 x) (fun x σ' => σ' = ⟨84, [(0, .list 6 (p0x0.map Image.av)), (12, .list 6 (p0x0.map Image.av)), (13, I (p0x0.length : Int)), (14, I x)], []⟩) h ?_ ?_
    · exact ImpX.lq [] rfl rfl rfl
    · intro n2 z1 σ' J1 hmk h hJ1 hA1
      obtain rfl := hmk
      replace h : Q_ImagesFault_b1 p0x0 n2 = some z1 := h
      unfold Q_ImagesFault_b1 at h
      refine tSR <| ARun.qv (q_lss rfl rfl) rfl <| rN <| tS <| ATodo.cond_d rfl (fun hc => ?_) (fun hc => ?_)
      · refine have h := iteT hc h; tK <| tS <| ATodo.block <| tSR <| rM rfl rfl <| bndE h fun v3 e1 h => ARun.qv (t_index rfl rfl rfl e1 rfl rfl) rfl <| ARun.qv (q_load_rptr_agg rfl rfl rfl) rfl <| n_alloc rfl rfl rfl rfl fun b4 => rA rfl rfl <| n_store_ptr rfl rfl rfl rfl .p0 rfl rfl <| rN <| tS <| tSR <| rF rfl rfl rfl <| ARun.qv (n_load_ptr_part rfl rfl .p0 rfl rfl) rfl <| r_callp rfl (Q_versionFault_c rfl) (CoL.refl _) rfl <| rA rfl rfl <| rN <| tSR <| rM rfl rfl <| ARun.qv (q_neq rfl rfl) rfl <| rN <| ATodo.cond_d rfl (fun hc => ?_) (fun hc => ?_)
        · refine have h := iteT hc h; tSR <| rM rfl rfl <| rA rfl rfl <| rN <| ATodo.ret <| have h := outL h hA1; ?_
          obtain rfl := Option.some.inj h
          exact ImpX.here ⟨_, .cons (.tmp _ _ rfl) .nil, rfl⟩
        · refine have h := iteF hc h; tK <| tS <| ATodo.block <| tS <| ATodo.cut (fun σ' => ∃ (c5 : Bool), Q_ImagesFault_j1 n2 v3 c5 = some z1 ∧ σ' = ⟨84, [(0, .list 6 (p0x0.map Image.av)), (4, .ptr b4 0), (12, .list 6 (p0x0.map Image.av)), (13, I (p0x0.length : Int)), (14, I n2), (25, .bool c5)], [(b4, .cells [I v3.Version.Major, I v3.Version.Minor, I v3.Version.Patch, .list 1 (v3.Models.map AV.str), .list 6 (v3.From.map Range.av), I v3.Size])]⟩) ?_ ?_
          · refine ATodo.regionM (id := 9) (A := [0, 1, 3, 7, 7, 23, 63, 127, 255, 7, 519, 2047, 4095, 8191, 16383]) 15 mixed rfl (by kernel_rfl) (by kernel_rfl) <| AM.qv (q_move rfl) rfl <| AM.qv (q_gtr rfl rfl) rfl <| AM.qv (q_move rfl) rfl <| AM.guard_dt rfl rfl rfl (fun hc => ?_) (fun hc => ?_)
            · exact have h := iteT hc h; AM.qv (q_move rfl) rfl <| AM.guard_yes rfl rfl rfl <| AM.qv (q_move rfl) rfl <| AM.guard_yes rfl rfl rfl <| AM.qv (q_subw rfl rfl) rfl <| AM.guard_yes rfl rfl rfl <| bndE h fun v6 e2 h => AM.qv (t_index rfl rfl rfl e2 rfl rfl) rfl <| AM.guard_yes rfl rfl rfl <| AM.qv (n_field_rptr rfl rfl) rfl <| AM.guard_yes rfl rfl rfl <| AM.qv (n_load_rptr_part rfl rfl rfl rfl) rfl <| AM.guard_yes rfl rfl rfl <| AM.qv (n_field_ptr rfl rfl) rfl <| AM.guard_yes rfl rfl rfl <| AM.qv (n_load_ptr_part rfl rfl .p0 rfl rfl) rfl <| AM.guard_yes rfl rfl rfl <| bndE h fun v7 e3 h => AM.callp rfl (Q_VersionOrder_c e3) (CoL.refl _) rfl <| AM.guard_yes rfl rfl rfl <| AM.qv (q_geq rfl rfl) rfl <| AM.qv (q_pick_t rfl rfl) rfl <| AM.qv (q_assign rfl) rfl <| AM.nil <| rN <| ATodo.stop <| ImpX.lq [0] ⟨decide ((0 : Int) ≤ v7), h, rfl⟩ rfl rfl
            · exact have h := iteF hc h; AM.guard_no rfl rfl rfl rfl <| AM.guard_no rfl rfl rfl rfl <| AM.guard_no rfl rfl rfl rfl <| AM.guard_no rfl rfl rfl rfl <| AM.guard_no rfl rfl rfl rfl <| AM.guard_no rfl rfl rfl rfl <| AM.guard_no rfl rfl rfl rfl <| AM.guard_no rfl rfl rfl rfl <| AM.guard_no rfl rfl rfl rfl <| AM.qv (q_pick_f rfl rfl) rfl <| AM.qv (q_assign rfl) rfl <| AM.nil <| rN <| ATodo.stop <| ImpX.lq [0] ⟨false, h, rfl⟩ rfl rfl
          · rintro σ' ⟨c5, h, rfl⟩
            unfold Q_ImagesFault_j1 at h
            refine ATodo.cond rfl (fun hc => ?_) (fun hc => ?_)
            · refine have h := iteT hc h; tSR <| rA rfl rfl <| rN <| ATodo.ret <| have h := outL h hA1; ?_
              obtain rfl := Option.some.inj h
              exact ImpX.here ⟨_, .cons (.tmp _ _ rfl) .nil, rfl⟩
            · refine have h := iteFb hc h; tSR <| rF rfl rfl rfl <| rL rfl rfl .p0 rfl rfl <| ARun.qv (t_len rfl) rfl <| ARun.qv (q_eql rfl rfl) rfl <| rA rfl rfl <| rN <| ATodo.cond_d rfl (fun hc => ?_) (fun hc => ?_)
              · refine have h := iteT hc h; tSR <| rA rfl rfl <| rN <| ATodo.ret <| have h := outL h hA1; ?_
                obtain rfl := Option.some.inj h
                exact ImpX.here ⟨_, .cons (.tmp _ _ rfl) .nil, rfl⟩
              · refine have h := iteF hc h; tSR <| rF rfl rfl rfl <| rL rfl rfl .p0 rfl rfl <| ARun.qv (t_len rfl) rfl <| ARun.qv (q_gtr rfl rfl) rfl <| rA rfl rfl <| rN <| ATodo.cond_d rfl (fun hc => ?_) (fun hc => ?_)
                · refine have h := iteT hc h; tSR <| rA rfl rfl <| rN <| ATodo.ret <| have h := outL h hA1; ?_
                  obtain rfl := Option.some.inj h
                  exact ImpX.here ⟨_, .cons (.tmp _ _ rfl) .nil, rfl⟩
                · refine have h := iteF hc h; tK <| ATodo.blk <| tS <| tSR <| rF rfl rfl rfl <| rL rfl rfl .p0 rfl rfl <| ARun.qv (t_len rfl) rfl <| rM rfl rfl <| rN <| ATodo.block <| ATodo.loopI (fun x : Int => Q_ImagesFault_b2 n2 v3 x) (fun x σ' => σ' = ⟨84, [(0, .list 6 (p0x0.map Image.av)), (4, .ptr b4 0), (12, .list 6 (p0x0.map Image.av)), (13, I (p0x0.length : Int)), (14, I n2), (51, .list 1 (v3.Models.map AV.str)), (52, I (v3.Models.length : Int)), (53, I x)], [(b4, .cells [I v3.Version.Major, I v3.Version.Minor, I v3.Version.Patch, .list 1 (v3.Models.map AV.str), .list 6 (v3.From.map Range.av), I v3.Size])]⟩) h ?_ ?_
                  · exact ImpX.lq [0] rfl rfl rfl
                  · intro n9 z2 σ' J2 hmk h hJ2 hA2
                    obtain rfl := hmk
                    replace h : Q_ImagesFault_b2 n2 v3 n9 = some z2 := h
                    unfold Q_ImagesFault_b2 at h
                    refine tSR <| ARun.qv (q_lss rfl rfl) rfl <| rN <| tS <| ATodo.cond_d rfl (fun hc => ?_) (fun hc => ?_)
                    · refine have h := iteT hc h; tK <| tS <| ATodo.block <| tSR <| rM rfl rfl <| bndE h fun v10 e4 h => ARun.qv (t_index rfl rfl rfl e4 rfl rfl) rfl <| ARun.qv (q_load_rptr rfl rfl rfl) rfl <| rA rfl rfl <| rA rfl rfl <| rN <| tS <| tSR <| rM rfl rfl <| bndE h fun v11 e5 h => r_callp rfl (Q_Key_c e5) (CoL.refl _) rfl <| ARun.qv (q_not rfl) rfl <| rN <| ATodo.cond rfl (fun hc => ?_) (fun hc => ?_)
                      · refine have h := iteT hc h; tSR <| rA rfl rfl <| rN <| ATodo.ret <| have h := outL h hA2; have h := outL h hA1; ?_
                        obtain rfl := Option.some.inj h
                        exact ImpX.here ⟨_, .cons (.tmp _ _ rfl) .nil, rfl⟩
                      · refine have h := iteFb hc h; tK <| tS <| ATodo.cut (fun σ' => ∃ (c12 : Bool), Q_ImagesFault_j2 n9 c12 = some z2 ∧ σ' = ⟨84, [(0, .list 6 (p0x0.map Image.av)), (4, .ptr b4 0), (12, .list 6 (p0x0.map Image.av)), (13, I (p0x0.length : Int)), (14, I n2), (51, .list 1 (v3.Models.map AV.str)), (52, I (v3.Models.length : Int)), (53, I n9), (72, .bool c12)], [(b4, .cells [I v3.Version.Major, I v3.Version.Minor, I v3.Version.Patch, .list 1 (v3.Models.map AV.str), .list 6 (v3.From.map Range.av), I v3.Size])]⟩) ?_ ?_
                        · refine tR <| rM rfl rfl <| ARun.qv (q_gtr rfl rfl) rfl <| rM rfl rfl <| ARun.guard_dt rfl rfl rfl (fun hc => ?_) (fun hc => ?_)
                          · exact have h := iteT hc h; rM rfl rfl <| rY rfl rfl rfl <| rF rfl rfl rfl <| rY rfl rfl rfl <| rL rfl rfl .p0 rfl rfl <| rY rfl rfl rfl <| rM rfl rfl <| rY rfl rfl rfl <| ARun.qv (q_subw rfl rfl) rfl <| rY rfl rfl rfl <| bndE h fun v13 e6 h => ARun.qv (t_index rfl rfl rfl e6 rfl rfl) rfl <| rY rfl rfl rfl <| ARun.qv (q_load_rptr rfl rfl rfl) rfl <| rY rfl rfl rfl <| ARun.qv (t_sleq rfl rfl) rfl <| rT rfl rfl rfl <| rN <| ATodo.stop <| ImpX.lq [0] ⟨Op.bytesLess v10 v13 || v10 == v13, h, rfl⟩ rfl rfl
                          · exact have h := iteF hc h; rG rfl rfl rfl rfl <| rG rfl rfl rfl rfl <| rG rfl rfl rfl rfl <| rG rfl rfl rfl rfl <| rG rfl rfl rfl rfl <| rG rfl rfl rfl rfl <| rG rfl rfl rfl rfl <| rE rfl rfl rfl <| rN <| ATodo.stop <| ImpX.lq [0] ⟨false, h, rfl⟩ rfl rfl
                        · rintro σ' ⟨c12, h, rfl⟩
                          unfold Q_ImagesFault_j2 at h
                          refine ATodo.cond rfl (fun hc => ?_) (fun hc => ?_)
                          · refine have h := iteT hc h; tSR <| rA rfl rfl <| rN <| ATodo.ret <| have h := outL h hA2; have h := outL h hA1; ?_
                            obtain rfl := Option.some.inj h
                            exact ImpX.here ⟨_, .cons (.tmp _ _ rfl) .nil, rfl⟩
                          · refine have h := iteFb hc h; tK <| ATodo.blk <| tR <| ARun.qv (q_addw rfl rfl) rfl <| rM rfl rfl <| rN <| ATodo.stop <| ?_
                            obtain rfl := Option.some.inj h
                            exact hJ2 _ _ rfl <| ImpX.lq [0] rfl rfl rfl
                    · refine have h := iteF hc h; ATodo.exit rfl <| have h := outL h hA2; ?_
                      unfold Q_ImagesFault_k3 at h
                      refine tS <| tSR <| ARun.qv (q_load_ptr_all rfl rfl .p0 rfl) rfl <| bndE h fun v14 e7 h => r_callp rfl (Q_rangesFault_c e7) (CoL.refl _) rfl <| rA rfl rfl <| rN <| tSR <| rM rfl rfl <| ARun.qv (q_neq rfl rfl) rfl <| rN <| ATodo.cond_d rfl (fun hc => ?_) (fun hc => ?_)
                      · refine have h := iteT hc h; tSR <| rM rfl rfl <| rA rfl rfl <| rN <| ATodo.ret <| have h := outL h hA1; ?_
                        obtain rfl := Option.some.inj h
                        exact ImpX.here ⟨_, .cons (.tmp _ _ rfl) .nil, rfl⟩
                      · refine have h := iteF hc h; tK <| tSR <| rF rfl rfl rfl <| rL rfl rfl .p0 rfl rfl <| r_callp rfl (Q_in_c rfl) (CoL.refl _) rfl <| ARun.qv (q_not rfl) rfl <| rN <| ATodo.cond rfl (fun hc => ?_) (fun hc => ?_)
                        · refine have h := iteT hc h; tSR <| rA rfl rfl <| rN <| ATodo.ret <| have h := outL h hA1; ?_
                          obtain rfl := Option.some.inj h
                          exact ImpX.here ⟨_, .cons (.tmp _ _ rfl) .nil, rfl⟩
                        · refine have h := iteFb hc h; tK <| ATodo.blk <| tR <| ARun.qv (q_addw rfl rfl) rfl <| rM rfl rfl <| rN <| ATodo.stop <| ?_
                          obtain rfl := Option.some.inj h
                          exact hJ1 _ _ rfl <| ImpX.lq [] rfl rfl rfl
      · refine have h := iteF hc h; ATodo.exit rfl <| have h := outL h hA1; tSR <| rA rfl rfl <| rN <| ATodo.ret <| ?_
        obtain rfl := Option.some.inj h
        exact ImpX.here ⟨_, .cons (.tmp _ _ rfl) .nil, rfl⟩

set_option maxHeartbeats 4000000 in
theorem L_versioned_c {r : Bool} (h : L_versioned = some r) : Pu Tryd.prog 36 [] (.bool r) := by
  unfold L_versioned at h
  refine ACall.bodyN Tryd.func36 rfl Tryd.ntmps36 Tryd.results36 rfl rfl ?_
  refine tSR <| rA rfl rfl <| rN <| tSR <| bndE h fun v1 e1 h => r_callp rfl (campaign_ParseVersion_c e1) (CoL.refl _) rfl <| rM rfl rfl <| rX rfl rfl rfl <| rX rfl rfl rfl <| n_alloc rfl rfl rfl rfl fun b2 => n_store_ptr rfl rfl rfl rfl .p0 rfl rfl <| rA rfl rfl <| rN <| tS <| ATodo.cut (fun σ' => ∃ (c3 : Bool), L_versioned_j1 c3 = some r ∧ σ' = ⟨14, [(0, .bool c3)], []⟩) ?_ ?_
  · refine tR <| rM rfl rfl <| ARun.qv (q_eql rfl rfl) rfl <| rM rfl rfl <| ARun.guard_dt rfl rfl rfl (fun hc => ?_) (fun hc => ?_)
    · rw [andTd hc] at h
      exact ARun.qv (q_load_ptr_all rfl rfl .p0 rfl) rfl <| rY rfl rfl rfl <| ARun.qv (n_build rfl rfl rfl rfl rfl) rfl <| rY rfl rfl rfl <| ARun.qv (t_teq (g := Version.av) (X := v1.1) (Y := (⟨(1 : Int), (2 : Int), (3 : Int)⟩ : Version)) rfl rfl rfl rfl rfl) rfl <| rT rfl rfl rfl <| rA rfl rfl <| rN <| ATodo.stop <| ImpX.lq [] ⟨decide (v1.1 = (⟨(1 : Int), (2 : Int), (3 : Int)⟩ : Version)), h, rfl⟩ rfl rfl
    · rw [andFd hc] at h
      exact rG rfl rfl rfl rfl <| rG rfl rfl rfl rfl <| rE rfl rfl rfl <| rA rfl rfl <| rN <| ATodo.stop <| ImpX.lq [] ⟨false, h, rfl⟩ rfl rfl
  · rintro σ' ⟨c3, h, rfl⟩
    unfold L_versioned_j1 at h
    refine ATodo.ret <| ?_
    obtain rfl := Option.some.inj h
    exact ImpX.here ⟨_, .cons (.tmp _ _ rfl) .nil, rfl⟩

set_option maxHeartbeats 4000000 in
theorem L_VersionsRead_c {p0x0 : List Int} {r : Bool} (h : L_VersionsRead p0x0 = some r) : Pu Tryd.prog 4 [.list 1 (p0x0.map I)] (.bool r) := by
  unfold L_VersionsRead at h
  refine ACall.bodyN Tryd.func4 rfl Tryd.ntmps4 Tryd.results4 rfl rfl ?_
  refine tSR <| rA rfl rfl <| rN <| tSR <| rM rfl rfl <| ARun.qv (n_build rfl rfl rfl rfl rfl) rfl <| n_box rfl rfl rfl rfl fun b1 => rA rfl rfl <| rN <| tSR <| rM rfl rfl <| bndE h fun v2 e1 h => t_call0 rfl (Stream_Version_c e1) (CoL.refl _) (.cons .p0 .nil) rfl rfl <| rM rfl rfl <| bndE h fun v3 e2 h => t_call0 rfl (Stream_Version_c e2) (CoL.refl _) (.cons .p0 .nil) rfl rfl <| rM rfl rfl <| bndE h fun v4 e3 h => t_call0 rfl (Stream_VersionText_c e3) (CoL.refl _) (.cons .p0 .nil) rfl rfl <| rM rfl rfl <| bndE h fun v5 e4 h => t_call1 rfl (Stream_Images_c e4) (CoL.refl _) (.cons .p0 .nil) (fun _ => rfl) rfl fun b6 => n_alloc rfl rfl rfl rfl fun b7 => n_alloc rfl rfl rfl rfl fun b8 => n_store_ptr rfl rfl rfl rfl .p1 rfl rfl <| n_store_ptr rfl rfl rfl rfl .p0 rfl rfl <| rA rfl rfl <| rA rfl rfl <| rN <| tSR <| ARun.qv (q_load_ptr_all rfl rfl .p1 rfl) rfl <| bndE h fun v9 e5 h => r_callp rfl (campaign_VersionText_c e5) (CoL.refl _) rfl <| rM rfl rfl <| rX rfl rfl rfl <| rX rfl rfl rfl <| rA rfl rfl <| rA rfl rfl <| rN <| tSR <| ARun.qv (q_load_ptr_all rfl rfl .p1 rfl) rfl <| r_callp rfl (Q_VersionFault_c rfl) (CoL.refl _) rfl <| rA rfl rfl <| rA rfl rfl <| rN <| tS <| tSR <| rM rfl rfl <| ARun.qv (q_eql rfl rfl) rfl <| rN <| ATodo.cut (fun σ' => ∃ (q10 : Str), L_VersionsRead_j1 v2 v3 v4 v5 v9 q10 = some r ∧ σ' = ⟨85, [(4, .ptr b7 0), (5, .ptr b8 0), (6, .str v4.1), (7, .sl 6 b6 0 v5.1.length), (8, .str v9.1), (9, I v9.2), (10, I (Q_VersionFault v2.1)), (11, .str q10)], [(b7, .cells [I v2.1.Major, I v2.1.Minor, I v2.1.Patch]), (b8, .cells [I v3.1.Major, I v3.1.Minor, I v3.1.Patch]), (b6, .arr 6 (v5.1.map Image.av))]⟩) ?_ ?_
  · refine ATodo.cond_d rfl (fun hc => ?_) (fun hc => ?_)
    · exact have h := iteT hc h; tR <| ARun.qv (q_load_ptr_all rfl rfl .p1 rfl) rfl <| bndE h fun v11 e6 h => r_callp rfl (Q_VersionLine_c e6) (CoL.refl _) rfl <| rA rfl rfl <| rN <| ATodo.stop <| ImpX.lq [1, 0, 1] ⟨v11, h, rfl⟩ rfl rfl
    · exact have h := iteF hc h; tK <| ATodo.stop <| ImpX.lq [1, 0, 1] ⟨([] : Str), h, rfl⟩ rfl rfl
  · rintro σ' ⟨q10, h, rfl⟩
    unfold L_VersionsRead_j1 at h
    refine tSR <| rM rfl rfl <| bndE h fun v12 e7 h => r_callp rfl (campaign_ParseVersion_c e7) (CoL.refl _) rfl <| rM rfl rfl <| rX rfl rfl rfl <| rX rfl rfl rfl <| n_alloc rfl rfl rfl rfl fun b13 => n_store_ptr rfl rfl rfl rfl .p0 rfl rfl <| rA rfl rfl <| rN <| tSR <| rM rfl rfl <| bndE h fun v14 e8 h => r_callp rfl (Q_VersionOf_c e8) (CoL.refl _) rfl <| rM rfl rfl <| rX rfl rfl rfl <| rX rfl rfl rfl <| n_alloc rfl rfl rfl rfl fun b15 => n_store_ptr rfl rfl rfl rfl .p0 rfl rfl <| rA rfl rfl <| rN <| tS <| ATodo.cut (fun σ' => ∃ (c16 : Bool), L_VersionsRead_j2 c16 = some r ∧ σ' = ⟨85, [(2, .bool c16)], []⟩) ?_ ?_
    · refine ATodo.regionM (id := 9) (A := [0, 0, 3, 7, 15, 15, 63, 127, 255, 511, 511, 2047, 4095, 8191, 16383, 16383, 65535, 131071, 262143, 524287, 524287, 2097151, 524287, 524287, 16777215, 33554431, 67108863, 134217727, 268435455, 536870911, 268435455, 2147483647, 4294967295, 8589934591, 17179869183, 34359738367, 68719476735, 137438953471]) 38 mixed rfl (by kernel_rfl) (by kernel_rfl) <| AM.qv (q_move rfl) rfl <| AM.qv (q_move rfl) rfl <| AM.qv (q_seq rfl rfl) rfl <| AM.qv (q_move rfl) rfl <| AM.guard_dt rfl rfl rfl (fun hc => ?_) (fun hc => ?_)
      · refine have h := iteT hc h; AM.qv (q_move rfl) rfl <| AM.guard_yes rfl rfl rfl <| AM.qv (q_move rfl) rfl <| AM.guard_yes rfl rfl rfl <| AM.qv (q_eql rfl rfl) rfl <| AM.qv (q_pick_t rfl rfl) rfl <| AM.qv (q_move rfl) rfl <| AM.guard_dt rfl rfl rfl (fun hc => ?_) (fun hc => ?_)
        · refine have h := iteT hc h; AM.qv (q_load_ptr_all rfl rfl .p1 rfl) rfl <| AM.guard_yes rfl rfl rfl <| AM.qv (q_load_ptr_all rfl rfl .p0 rfl) rfl <| AM.guard_yes rfl rfl rfl <| AM.qv (t_teq (g := Version.av) (X := v12.1) (Y := v14.1) rfl rfl rfl rfl rfl) rfl <| AM.qv (q_pick_t rfl rfl) rfl <| AM.qv (q_move rfl) rfl <| AM.guard_dt rfl rfl rfl (fun hc => ?_) (fun hc => ?_)
          · refine have h := iteT hc h; AM.qv (q_move rfl) rfl <| AM.guard_yes rfl rfl rfl <| AM.qv (q_move rfl) rfl <| AM.guard_yes rfl rfl rfl <| AM.qv (q_eql rfl rfl) rfl <| AM.qv (q_pick_t rfl rfl) rfl <| AM.qv (q_move rfl) rfl <| AM.guard_dt rfl rfl rfl (fun hc => ?_) (fun hc => ?_)
            · refine have h := iteT hc h; AM.qv (q_load_ptr_all rfl rfl .p2 rfl) rfl <| AM.guard_yes rfl rfl rfl <| AM.qv (q_load_ptr_all rfl rfl .p3 rfl) rfl <| AM.guard_yes rfl rfl rfl <| bndE h fun v17 e9 h => AM.callp rfl (campaign_Compare_c e9) (CoL.refl _) rfl <| AM.guard_yes rfl rfl rfl <| AM.qv (q_load_ptr_all rfl rfl .p2 rfl) rfl <| AM.guard_yes rfl rfl rfl <| AM.qv (q_load_ptr_all rfl rfl .p3 rfl) rfl <| AM.guard_yes rfl rfl rfl <| bndE h fun v18 e10 h => AM.callp rfl (Q_VersionOrder_c e10) (CoL.refl _) rfl <| AM.guard_yes rfl rfl rfl <| AM.qv (q_eql rfl rfl) rfl <| AM.qv (q_pick_t rfl rfl) rfl <| AM.qv (q_move rfl) rfl <| AM.guard_dt rfl rfl rfl (fun hc => ?_) (fun hc => ?_)
              · refine have h := iteT hc h; AM.qv (q_move rfl) rfl <| AM.guard_yes rfl rfl rfl <| bndE h fun v19 e11 h => AM.callpB rfl (campaign_CheckImages_c e11) (.cons (CoB.arrT .p4) .nil) rfl rfl <| AM.guard_yes rfl rfl rfl <| AM.qv (q_move rfl) rfl <| AM.guard_yes rfl rfl rfl <| bndE h fun v20 e12 h => AM.callpB rfl (Q_ImagesFault_c e12) (.cons (CoB.arrT .p4) .nil) rfl rfl <| AM.guard_yes rfl rfl rfl <| AM.qv (q_eql rfl rfl) rfl <| AM.qv (q_pick_t rfl rfl) rfl <| AM.qv (q_move rfl) rfl <| AM.guard_dt rfl rfl rfl (fun hc => ?_) (fun hc => ?_)
                · exact have h := iteT hc h; bndE h fun v21 e13 h => AM.callp rfl (L_versioned_c e13) (CoL.refl _) rfl <| AM.qv (q_pick_t rfl rfl) rfl <| AM.qv (q_assign rfl) rfl <| AM.nil <| rN <| ATodo.stop <| ImpX.lq [] ⟨v21, h, rfl⟩ rfl rfl
                · exact have h := iteF hc h; AM.qv (q_pick_f rfl rfl) rfl <| AM.qv (q_assign rfl) rfl <| AM.nil <| rN <| ATodo.stop <| ImpX.lq [] ⟨false, h, rfl⟩ rfl rfl
              · exact have h := iteF hc h; AM.guard_no rfl rfl rfl rfl <| AM.guard_no rfl rfl rfl rfl <| AM.guard_no rfl rfl rfl rfl <| AM.guard_no rfl rfl rfl rfl <| AM.qv (q_pick_f rfl rfl) rfl <| AM.qv (q_move rfl) rfl <| AM.guard_no rfl rfl rfl rfl <| AM.qv (q_pick_f rfl rfl) rfl <| AM.qv (q_assign rfl) rfl <| AM.nil <| rN <| ATodo.stop <| ImpX.lq [] ⟨false, h, rfl⟩ rfl rfl
            · exact have h := iteF hc h; AM.guard_no rfl rfl rfl rfl <| AM.guard_no rfl rfl rfl rfl <| AM.guard_no rfl rfl rfl rfl <| AM.guard_no rfl rfl rfl rfl <| AM.guard_no rfl rfl rfl rfl <| AM.guard_no rfl rfl rfl rfl <| AM.qv (q_pick_f rfl rfl) rfl <| AM.qv (q_move rfl) rfl <| AM.guard_no rfl rfl rfl rfl <| AM.guard_no rfl rfl rfl rfl <| AM.guard_no rfl rfl rfl rfl <| AM.guard_no rfl rfl rfl rfl <| AM.guard_no rfl rfl rfl rfl <| AM.qv (q_pick_f rfl rfl) rfl <| AM.qv (q_move rfl) rfl <| AM.guard_no rfl rfl rfl rfl <| AM.qv (q_pick_f rfl rfl) rfl <| AM.qv (q_assign rfl) rfl <| AM.nil <| rN <| ATodo.stop <| ImpX.lq [] ⟨false, h, rfl⟩ rfl rfl
          · exact have h := iteF hc h; AM.guard_no rfl rfl rfl rfl <| AM.guard_no rfl rfl rfl rfl <| AM.qv (q_pick_f rfl rfl) rfl <| AM.qv (q_move rfl) rfl <| AM.guard_no rfl rfl rfl rfl <| AM.guard_no rfl rfl rfl rfl <| AM.guard_no rfl rfl rfl rfl <| AM.guard_no rfl rfl rfl rfl <| AM.guard_no rfl rfl rfl rfl <| AM.guard_no rfl rfl rfl rfl <| AM.guard_no rfl rfl rfl rfl <| AM.qv (q_pick_f rfl rfl) rfl <| AM.qv (q_move rfl) rfl <| AM.guard_no rfl rfl rfl rfl <| AM.guard_no rfl rfl rfl rfl <| AM.guard_no rfl rfl rfl rfl <| AM.guard_no rfl rfl rfl rfl <| AM.guard_no rfl rfl rfl rfl <| AM.qv (q_pick_f rfl rfl) rfl <| AM.qv (q_move rfl) rfl <| AM.guard_no rfl rfl rfl rfl <| AM.qv (q_pick_f rfl rfl) rfl <| AM.qv (q_assign rfl) rfl <| AM.nil <| rN <| ATodo.stop <| ImpX.lq [] ⟨false, h, rfl⟩ rfl rfl
        · exact have h := iteF hc h; AM.guard_no rfl rfl rfl rfl <| AM.guard_no rfl rfl rfl rfl <| AM.qv (q_pick_f rfl rfl) rfl <| AM.qv (q_move rfl) rfl <| AM.guard_no rfl rfl rfl rfl <| AM.guard_no rfl rfl rfl rfl <| AM.guard_no rfl rfl rfl rfl <| AM.qv (q_pick_f rfl rfl) rfl <| AM.qv (q_move rfl) rfl <| AM.guard_no rfl rfl rfl rfl <| AM.guard_no rfl rfl rfl rfl <| AM.guard_no rfl rfl rfl rfl <| AM.guard_no rfl rfl rfl rfl <| AM.guard_no rfl rfl rfl rfl <| AM.guard_no rfl rfl rfl rfl <| AM.guard_no rfl rfl rfl rfl <| AM.qv (q_pick_f rfl rfl) rfl <| AM.qv (q_move rfl) rfl <| AM.guard_no rfl rfl rfl rfl <| AM.guard_no rfl rfl rfl rfl <| AM.guard_no rfl rfl rfl rfl <| AM.guard_no rfl rfl rfl rfl <| AM.guard_no rfl rfl rfl rfl <| AM.qv (q_pick_f rfl rfl) rfl <| AM.qv (q_move rfl) rfl <| AM.guard_no rfl rfl rfl rfl <| AM.qv (q_pick_f rfl rfl) rfl <| AM.qv (q_assign rfl) rfl <| AM.nil <| rN <| ATodo.stop <| ImpX.lq [] ⟨false, h, rfl⟩ rfl rfl
      · exact have h := iteF hc h; AM.guard_no rfl rfl rfl rfl <| AM.guard_no rfl rfl rfl rfl <| AM.qv (q_pick_f rfl rfl) rfl <| AM.qv (q_move rfl) rfl <| AM.guard_no rfl rfl rfl rfl <| AM.guard_no rfl rfl rfl rfl <| AM.guard_no rfl rfl rfl rfl <| AM.qv (q_pick_f rfl rfl) rfl <| AM.qv (q_move rfl) rfl <| AM.guard_no rfl rfl rfl rfl <| AM.guard_no rfl rfl rfl rfl <| AM.guard_no rfl rfl rfl rfl <| AM.qv (q_pick_f rfl rfl) rfl <| AM.qv (q_move rfl) rfl <| AM.guard_no rfl rfl rfl rfl <| AM.guard_no rfl rfl rfl rfl <| AM.guard_no rfl rfl rfl rfl <| AM.guard_no rfl rfl rfl rfl <| AM.guard_no rfl rfl rfl rfl <| AM.guard_no rfl rfl rfl rfl <| AM.guard_no rfl rfl rfl rfl <| AM.qv (q_pick_f rfl rfl) rfl <| AM.qv (q_move rfl) rfl <| AM.guard_no rfl rfl rfl rfl <| AM.guard_no rfl rfl rfl rfl <| AM.guard_no rfl rfl rfl rfl <| AM.guard_no rfl rfl rfl rfl <| AM.guard_no rfl rfl rfl rfl <| AM.qv (q_pick_f rfl rfl) rfl <| AM.qv (q_move rfl) rfl <| AM.guard_no rfl rfl rfl rfl <| AM.qv (q_pick_f rfl rfl) rfl <| AM.qv (q_assign rfl) rfl <| AM.nil <| rN <| ATodo.stop <| ImpX.lq [] ⟨false, h, rfl⟩ rfl rfl
    · rintro σ' ⟨c16, h, rfl⟩
      unfold L_VersionsRead_j2 at h
      refine ATodo.ret <| ?_
      obtain rfl := Option.some.inj h
      exact ImpX.here ⟨_, .cons (.tmp _ _ rfl) .nil, rfl⟩

end Go.Proofs.YtibjdfdmkahocaaDoor
