/- The code computes the plain functions: proofs written by shal.py. -/
import Derived.Test.YtibjdfdmkahocaaGreatDoorOffP
import Derived.Test.YtibjdfdmkahocaaGreatDoorLib
set_option maxRecDepth 100000
set_option linter.unusedVariables false
set_option linter.unusedSimpArgs false
namespace Go.Proofs.YtibjdfdmkahocaaGreatDoor
open Go Go.Eng Go.Proofs Go.Beacon
attribute [local irreducible] ARun ATodo AQ QV ACall ImpX AWp AM
instance eqg40 : EqGd Tryz.prog 40 := ⟨by kernel_rfl⟩
instance eqt40 : EqTy Tryz.prog 40 2 Letter.av := ⟨fun x y w S v u hv hu => by
  obtain ⟨vs, rfl, hl, ha⟩ := At.agg_inv hv
  obtain ⟨us, rfl, hl', ha'⟩ := At.agg_inv hu
  obtain ⟨v0, p0, q0⟩ := AtA.get hl ha (off := 0) rfl
  obtain ⟨u0, p0', q0'⟩ := AtA.get hl' ha' (off := 0) rfl
  obtain ⟨v1, p1, q1⟩ := AtA.get hl ha (off := 1) rfl
  obtain ⟨u1, p1', q1'⟩ := AtA.get hl' ha' (off := 1) rfl
  obtain ⟨v2, p2, q2⟩ := AtA.get hl ha (off := 2) rfl
  obtain ⟨u2, p2', q2'⟩ := AtA.get hl' ha' (off := 2) rfl
  obtain ⟨v3, p3, q3⟩ := AtA.get hl ha (off := 3) rfl
  obtain ⟨u3, p3', q3'⟩ := AtA.get hl' ha' (off := 3) rfl
  obtain ⟨v4, p4, q4⟩ := AtA.get hl ha (off := 4) rfl
  obtain ⟨u4, p4', q4'⟩ := AtA.get hl' ha' (off := 4) rfl
  obtain ⟨v5, p5, q5⟩ := AtA.get hl ha (off := 5) rfl
  obtain ⟨u5, p5', q5'⟩ := AtA.get hl' ha' (off := 5) rfl
  refine EqR.cast (EqR.struct Tryz.underlying40 (by kernel_rfl) (.cons (by decide) (part_one rfl p0) (part_one rfl p0') (EqR.up (EqTy.h (g := AV.str) x.Id y.Id w S _ _ q0 q0') 0)  (.cons (by decide) (part_one rfl p1) (part_one rfl p1') (EqR.up (EqTy.h (g := AV.str) x.Slot y.Slot w S _ _ q1 q1') 0)  (.cons (by decide) (part_one rfl p2) (part_one rfl p2') (EqR.up (EqTy.h (g := AV.str) x.Body y.Body w S _ _ q2 q2') 0)  (.cons (by decide) (part_one rfl p3) (part_one rfl p3') (EqR.up (EqTy.h (g := I) x.Prio y.Prio w S _ _ q3 q3') 0)  (.cons (by decide) (part_one rfl p4) (part_one rfl p4') (EqR.up (EqTy.h (g := I) x.At y.At w S _ _ q4 q4') 0)  (.cons (by decide) (part_one rfl p5) (part_one rfl p5') (EqR.up (EqTy.h (g := I) x.Until y.Until w S _ _ q5 q5') 0) .nil))))))) ?_
  obtain ⟨_, _, _, _, _, _⟩ := x
  obtain ⟨_, _, _, _, _, _⟩ := y
  rw [Bool.eq_iff_iff]; simp [and_assoc]⟩
instance eqg65 : EqGd Tryz.prog 65 := ⟨by kernel_rfl⟩
instance eqt65 : EqTy Tryz.prog 65 3 Note.av := ⟨fun x y w S v u hv hu => by
  obtain ⟨vs, rfl, hl, ha⟩ := At.agg_inv hv
  obtain ⟨us, rfl, hl', ha'⟩ := At.agg_inv hu
  obtain ⟨v1, p1, q1⟩ := AtA.get hl ha (off := 6) rfl
  obtain ⟨u1, p1', q1'⟩ := AtA.get hl' ha' (off := 6) rfl
  obtain ⟨v2, p2, q2⟩ := AtA.get hl ha (off := 7) rfl
  obtain ⟨u2, p2', q2'⟩ := AtA.get hl' ha' (off := 7) rfl
  obtain ⟨v3, p3, q3⟩ := AtA.get hl ha (off := 8) rfl
  obtain ⟨u3, p3', q3'⟩ := AtA.get hl' ha' (off := 8) rfl
  refine EqR.cast (EqR.struct Tryz.underlying65 (by kernel_rfl) (.cons (by decide) (part_agg rfl rfl) (part_agg rfl rfl) (EqR.up (EqTy.h (g := Letter.av) x.Letter y.Letter w S _ _ (AtA.sub hl ha 0 6 (Nat.le_of_ble_eq_true rfl)) (AtA.sub hl' ha' 0 6 (Nat.le_of_ble_eq_true rfl))) 0)  (.cons (by decide) (part_one rfl p1) (part_one rfl p1') (EqR.up (EqTy.h (g := I) x.State y.State w S _ _ q1 q1') 1)  (.cons (by decide) (part_one rfl p2) (part_one rfl p2') (EqR.up (EqTy.h (g := I) x.Tries y.Tries w S _ _ q2 q2') 1)  (.cons (by decide) (part_one rfl p3) (part_one rfl p3') (EqR.up (EqTy.h (g := I) x.Since y.Since w S _ _ q3 q3') 1) .nil))))) ?_
  obtain ⟨_, _, _, _⟩ := x
  obtain ⟨_, _, _, _⟩ := y
  rw [Bool.eq_iff_iff]; simp [and_assoc]⟩
set_option maxHeartbeats 4000000 in
theorem Below_c [GI : GTab] {p0x0 : Int} {p1x0 : Int} {r : Int} (h : Below p0x0 p1x0 = some r) : Pu Tryz.prog 68 [I p0x0, I p1x0] (I r) := by
  unfold Below at h
  refine ACall.bodyN Tryz.func68 rfl Tryz.ntmps68 Tryz.results68 rfl rfl ?_
  refine tSR <| rA rfl rfl <| rN <| tS <| tSR <| rM rfl rfl <| ARun.qv (q_lss rfl rfl) rfl <| rN <| ATodo.cond_d rfl (fun hc => ?_) (fun hc => ?_)
  · refine have h := iteT hc h; tSR <| rA rfl rfl <| rN <| ATodo.ret <| ?_
    obtain rfl := Option.some.inj h
    exact ImpX.here ⟨_, .cons (.tmp _ _ rfl) .nil, rfl⟩
  · refine have h := iteF hc h; tK <| tSR <| rM rfl rfl <| rM rfl rfl <| bndE h fun n1 e1 h => ARun.qv (t_remS rfl rfl e1) rfl <| rA rfl rfl <| rN <| tS <| tSR <| rM rfl rfl <| ARun.qv (q_lss rfl rfl) rfl <| rN <| ATodo.cut (fun σ' => ∃ (n2 : Int), Below_j1 n2 = some r ∧ σ' = ⟨16, [(0, I n2)], []⟩) ?_ ?_
    · refine ATodo.cond_d rfl (fun hc => ?_) (fun hc => ?_)
      · exact have h := iteT hc h; tR <| rM rfl rfl <| rM rfl rfl <| ARun.qv (q_addw rfl rfl) rfl <| rA rfl rfl <| rN <| ATodo.stop <| ImpX.lq [] ⟨w64 (n1 + p1x0), h, rfl⟩ rfl rfl
      · exact have h := iteF hc h; tK <| ATodo.stop <| ImpX.lq [] ⟨n1, h, rfl⟩ rfl rfl
    · rintro σ' ⟨n2, h, rfl⟩
      unfold Below_j1 at h
      refine tSR <| rM rfl rfl <| rA rfl rfl <| rN <| ATodo.ret <| ?_
      obtain rfl := Option.some.inj h
      exact ImpX.here ⟨_, .cons (.tmp _ _ rfl) .nil, rfl⟩

set_option maxHeartbeats 4000000 in
theorem Stream_Next_c [GI : GTab] {b_0 : Bk} {p0x0 : Fleetmake_Stream} {p1x0 : Int} {r : Int × Fleetmake_Stream} (h : Stream_Next p0x0 p1x0 = some r) : ACall Tryz.prog 25 [.ptr b_0 0, I p1x0] [(b_0, .cells [.list 1 (p0x0.L.map I), I p0x0.at_])] (T0 ([(b_0, .cells [.list 1 (r.2.L.map I), I r.2.at_])]) (I r.1)) := by
  unfold Stream_Next at h
  refine ACall.lessH ?_
  refine ACall.bodyN Tryz.func25 rfl Tryz.ntmps25 Tryz.results25 rfl rfl ?_
  refine tSR <| rA rfl rfl <| rN <| tSR <| rM rfl rfl <| ARun.qv (q_nilCheck_ptr rfl) rfl <| rF rfl rfl rfl <| rL rfl rfl .p0 rfl rfl <| ARun.qv (q_addw rfl rfl) rfl <| ARun.qv (q_nilCheck_ptr rfl) rfl <| rF rfl rfl rfl <| n_store_ptr rfl rfl rfl rfl .p0 rfl rfl <| rN <| tS <| tSR <| rM rfl rfl <| ARun.qv (q_nilCheck_ptr rfl) rfl <| rF rfl rfl rfl <| rL rfl rfl .p0 rfl rfl <| ARun.qv (t_len rfl) rfl <| ARun.qv (q_eql rfl rfl) rfl <| rN <| ATodo.cond_d rfl (fun hc => ?_) (fun hc => ?_)
  · refine have h := iteT hc h; tSR <| rM rfl rfl <| ARun.qv (q_nilCheck_ptr rfl) rfl <| rF rfl rfl rfl <| rL rfl rfl .p0 rfl rfl <| ARun.qv (q_mulw rfl rfl) rfl <| rM rfl rfl <| bndE h fun v1 e1 h => r_callp rfl (Below_c e1) (CoL.refl _) rfl <| rA rfl rfl <| rN <| ATodo.ret <| ?_
    obtain rfl := Option.some.inj h
    exact ImpX.here ⟨_, .cons (.tmp _ _ rfl) .nil, _, .cons .p0 .nil, ⟨rfl, rfl⟩⟩
  · refine have h := iteF hc h; tK <| tS <| ATodo.regionM (id := 4) (A := [0, 1, 3, 7, 15, 0, 32, 96, 224, 480, 1023, 2047]) 12 mixed rfl (by kernel_rfl) (by kernel_rfl) <| AM.qv (q_move rfl) rfl <| AM.qv (q_nilCheck_ptr rfl) rfl <| AM.qv (n_field_ptr rfl rfl) rfl <| AM.qv (q_load_ptr rfl rfl .p0 rfl) rfl <| AM.qv (q_subw rfl rfl) rfl <| AM.qv (q_move rfl) rfl <| AM.qv (q_nilCheck_ptr rfl) rfl <| AM.qv (n_field_ptr rfl rfl) rfl <| AM.qv (q_load_ptr rfl rfl .p0 rfl) rfl <| AM.qv (t_len rfl) rfl <| bndE h fun n2 e2 h => AM.qv (t_remS rfl rfl e2) rfl <| AM.qv (q_assign rfl) rfl <| AM.nil <| rN <| tS <| ATodo.regionM (id := 5) (A := [0, 1, 3, 7, 15, 0, 32, 96, 224, 480, 1023, 2047]) 12 mixed rfl (by kernel_rfl) (by kernel_rfl) <| AM.qv (q_move rfl) rfl <| AM.qv (q_nilCheck_ptr rfl) rfl <| AM.qv (n_field_ptr rfl rfl) rfl <| AM.qv (q_load_ptr rfl rfl .p0 rfl) rfl <| AM.qv (q_subw rfl rfl) rfl <| AM.qv (q_move rfl) rfl <| AM.qv (q_nilCheck_ptr rfl) rfl <| AM.qv (n_field_ptr rfl rfl) rfl <| AM.qv (q_load_ptr rfl rfl .p0 rfl) rfl <| AM.qv (t_len rfl) rfl <| bndE h fun n3 e3 h => AM.qv (t_quoS rfl rfl e3) rfl <| AM.qv (q_assign rfl) rfl <| AM.nil <| rN <| tSR <| rM rfl rfl <| ARun.qv (q_nilCheck_ptr rfl) rfl <| rF rfl rfl rfl <| rL rfl rfl .p0 rfl rfl <| rM rfl rfl <| bndE h fun v4 e4 h => ARun.qv (t_index rfl rfl rfl e4 rfl rfl) rfl <| ARun.qv (q_load_rptr rfl rfl rfl) rfl <| bndE h fun v5 e5 h => r_callp rfl (Below_c e5) (CoL.refl _) rfl <| rM rfl rfl <| rM rfl rfl <| ARun.qv (q_addw rfl rfl) rfl <| ARun.qv (q_mulw rfl rfl) rfl <| ARun.qv (q_addw rfl rfl) rfl <| rM rfl rfl <| bndE h fun v6 e6 h => r_callp rfl (Below_c e6) (CoL.refl _) rfl <| rA rfl rfl <| rN <| ATodo.ret <| ?_
    obtain rfl := Option.some.inj h
    exact ImpX.here ⟨_, .cons (.tmp _ _ rfl) .nil, _, .cons .p0 .nil, ⟨rfl, rfl⟩⟩

set_option maxHeartbeats 4000000 in
theorem Stream_Pick_c [GI : GTab] {b_0 : Bk} {p0x0 : Fleetmake_Stream} {p1x0 : List Int} {r : Int × Fleetmake_Stream} (h : Stream_Pick p0x0 p1x0 = some r) : ACall Tryz.prog 5 [.ptr b_0 0, .list 1 (p1x0.map I)] [(b_0, .cells [.list 1 (p0x0.L.map I), I p0x0.at_])] (T0 ([(b_0, .cells [.list 1 (r.2.L.map I), I r.2.at_])]) (I r.1)) := by
  unfold Stream_Pick at h
  refine ACall.lessH ?_
  refine ACall.bodyN Tryz.func5 rfl Tryz.ntmps5 Tryz.results5 rfl rfl ?_
  refine tSR <| rA rfl rfl <| rN <| tSR <| rM rfl rfl <| rM rfl rfl <| rM rfl rfl <| ARun.qv (t_len rfl) rfl <| bndE h fun v1 e1 h => t_call0 rfl (Stream_Next_c e1) (CoL.refl _) (.cons .p0 .nil) rfl rfl <| bndE h fun v2 e2 h => ARun.qv (t_index rfl rfl rfl e2 rfl rfl) rfl <| ARun.qv (q_load_rptr rfl rfl rfl) rfl <| rA rfl rfl <| rN <| ATodo.ret <| ?_
  obtain rfl := Option.some.inj h
  exact ImpX.here ⟨_, .cons (.tmp _ _ rfl) .nil, _, .cons .p0 .nil, ⟨rfl, rfl⟩⟩

set_option maxHeartbeats 4000000 in
theorem Stream_RightPost_c [GI : GTab] {b_0 : Bk} {p0x0 : Fleetmake_Stream} {r : Post × Fleetmake_Stream} (h : Stream_RightPost p0x0 = some r) : ACall Tryz.prog 44 [.ptr b_0 0] [(b_0, .cells [.list 1 (p0x0.L.map I), I p0x0.at_])] (T0 ([(b_0, .cells [.list 1 (r.2.L.map I), I r.2.at_])]) (.agg [I r.1.Room, I r.1.Timeout, I r.1.Tries, I r.1.Kept])) := by
  unfold Stream_RightPost at h
  refine ACall.lessH ?_
  refine ACall.bodyN Tryz.func44 rfl Tryz.ntmps44 Tryz.results44 rfl rfl ?_
  refine tSR <| n_alloc rfl rfl rfl rfl fun b1 => rN <| tSR <| rM rfl rfl <| n_buildSliceL (xs := ([(1 : Int), (2 : Int), (3 : Int), (5 : Int)]).map I) rfl rfl rfl rfl rfl rfl <| bndE h fun v2 e1 h => t_call0 rfl (Stream_Pick_c e1) (CoL.refl _) (.cons .p1 .nil) rfl rfl <| rM rfl rfl <| n_buildSliceL (xs := ([(1 : Int), (5 : Int), (10 : Int)]).map I) rfl rfl rfl rfl rfl rfl <| bndE h fun v3 e2 h => t_call0 rfl (Stream_Pick_c e2) (CoL.refl _) (.cons .p0 .nil) rfl rfl <| rM rfl rfl <| n_buildSliceL (xs := ([(1 : Int), (2 : Int), (3 : Int)]).map I) rfl rfl rfl rfl rfl rfl <| bndE h fun v4 e3 h => t_call0 rfl (Stream_Pick_c e3) (CoL.refl _) (.cons .p0 .nil) rfl rfl <| rM rfl rfl <| n_buildSliceL (xs := ([(0 : Int), (1 : Int), (2 : Int), (10 : Int)]).map I) rfl rfl rfl rfl rfl rfl <| bndE h fun v5 e4 h => t_call0 rfl (Stream_Pick_c e4) (CoL.refl _) (.cons .p0 .nil) rfl rfl <| ARun.qv (n_build rfl rfl rfl rfl rfl) rfl <| n_store_ptr rfl rfl rfl rfl .p1 rfl rfl <| rN <| ATodo.ret <| ?_
  obtain rfl := Option.some.inj h
  exact ImpX.here ⟨_, .cons (.all _ _ _ _ _ _ rfl .p1 TUnder.h TInfo.h rfl rfl) .nil, _, .cons .p0 .nil, ⟨rfl, rfl⟩⟩

set_option maxHeartbeats 4000000 in
theorem Stream_Flip_c [GI : GTab] {b_0 : Bk} {p0x0 : Fleetmake_Stream} {p1x0 : Int} {r : Bool × Fleetmake_Stream} (h : Stream_Flip p0x0 p1x0 = some r) : ACall Tryz.prog 10 [.ptr b_0 0, I p1x0] [(b_0, .cells [.list 1 (p0x0.L.map I), I p0x0.at_])] (T0 ([(b_0, .cells [.list 1 (r.2.L.map I), I r.2.at_])]) (.bool r.1)) := by
  unfold Stream_Flip at h
  refine ACall.lessH ?_
  refine ACall.bodyN Tryz.func10 rfl Tryz.ntmps10 Tryz.results10 rfl rfl ?_
  refine tSR <| rA rfl rfl <| rN <| tSR <| rM rfl rfl <| rM rfl rfl <| bndE h fun v1 e1 h => t_call0 rfl (Stream_Next_c e1) (CoL.refl _) (.cons .p0 .nil) rfl rfl <| ARun.qv (q_eql rfl rfl) rfl <| rA rfl rfl <| rN <| ATodo.ret <| ?_
  obtain rfl := Option.some.inj h
  exact ImpX.here ⟨_, .cons (.tmp _ _ rfl) .nil, _, .cons .p0 .nil, ⟨rfl, rfl⟩⟩

set_option maxHeartbeats 4000000 in
theorem Stream_Range_c [GI : GTab] {b_0 : Bk} {p0x0 : Fleetmake_Stream} {p1x0 : Int} {p2x0 : Int} {r : Int × Fleetmake_Stream} (h : Stream_Range p0x0 p1x0 p2x0 = some r) : ACall Tryz.prog 9 [.ptr b_0 0, I p1x0, I p2x0] [(b_0, .cells [.list 1 (p0x0.L.map I), I p0x0.at_])] (T0 ([(b_0, .cells [.list 1 (r.2.L.map I), I r.2.at_])]) (I r.1)) := by
  unfold Stream_Range at h
  refine ACall.lessH ?_
  refine ACall.bodyN Tryz.func9 rfl Tryz.ntmps9 Tryz.results9 rfl rfl ?_
  refine tSR <| rA rfl rfl <| rN <| tS <| tSR <| rM rfl rfl <| rM rfl rfl <| ARun.qv (q_lss rfl rfl) rfl <| rN <| ATodo.cond_d rfl (fun hc => ?_) (fun hc => ?_)
  · refine have h := iteT hc h; tSR <| rM rfl rfl <| rA rfl rfl <| rN <| ATodo.ret <| ?_
    obtain rfl := Option.some.inj h
    exact ImpX.here ⟨_, .cons (.tmp _ _ rfl) .nil, _, .cons .p0 .nil, ⟨rfl, rfl⟩⟩
  · refine have h := iteF hc h; tK <| tSR <| rM rfl rfl <| rM rfl rfl <| rM rfl rfl <| rM rfl rfl <| ARun.qv (q_subw rfl rfl) rfl <| ARun.qv (q_addw rfl rfl) rfl <| bndE h fun v1 e1 h => t_call0 rfl (Stream_Next_c e1) (CoL.refl _) (.cons .p0 .nil) rfl rfl <| ARun.qv (q_addw rfl rfl) rfl <| rA rfl rfl <| rN <| ATodo.ret <| ?_
    obtain rfl := Option.some.inj h
    exact ImpX.here ⟨_, .cons (.tmp _ _ rfl) .nil, _, .cons .p0 .nil, ⟨rfl, rfl⟩⟩

set_option maxHeartbeats 4000000 in
theorem Stream_Odd_c [GI : GTab] {b_0 : Bk} {p0x0 : Fleetmake_Stream} {p1x0 : Int} {p2x0 : Int} {r : Int × Fleetmake_Stream} (h : Stream_Odd p0x0 p1x0 p2x0 = some r) : ACall Tryz.prog 31 [.ptr b_0 0, I p1x0, I p2x0] [(b_0, .cells [.list 1 (p0x0.L.map I), I p0x0.at_])] (T0 ([(b_0, .cells [.list 1 (r.2.L.map I), I r.2.at_])]) (I r.1)) := by
  unfold Stream_Odd at h
  refine ACall.lessH ?_
  refine ACall.bodyN Tryz.func31 rfl Tryz.ntmps31 Tryz.results31 rfl rfl ?_
  refine tSR <| rA rfl rfl <| rN <| tS <| tSR <| rM rfl rfl <| bndE h fun v1 e1 h => t_call0 rfl (Stream_Flip_c e1) (CoL.refl _) (.cons .p0 .nil) rfl rfl <| rN <| ATodo.cond rfl (fun hc => ?_) (fun hc => ?_)
  · refine have h := iteT hc h; tSR <| rM rfl rfl <| rM rfl rfl <| ARun.qv (q_subw rfl rfl) rfl <| rM rfl rfl <| ARun.qv (q_addw rfl rfl) rfl <| rM rfl rfl <| rM rfl rfl <| n_buildSliceL (xs := ([w64 (p1x0 - (1 : Int)), w64 (p2x0 + (1 : Int)), p1x0, p2x0, (-1099511627776 : Int), (1099511627776 : Int)]).map I) rfl rfl rfl rfl rfl rfl <| bndE h fun v2 e2 h => t_call0 rfl (Stream_Pick_c e2) (CoL.refl _) (.cons .p0 .nil) rfl rfl <| rA rfl rfl <| rN <| ATodo.ret <| ?_
    obtain rfl := Option.some.inj h
    exact ImpX.here ⟨_, .cons (.tmp _ _ rfl) .nil, _, .cons .p0 .nil, ⟨rfl, rfl⟩⟩
  · refine have h := iteFb hc h; tK <| tSR <| rM rfl rfl <| rM rfl rfl <| rM rfl rfl <| bndE h fun v3 e3 h => t_call0 rfl (Stream_Range_c e3) (CoL.refl _) (.cons .p0 .nil) rfl rfl <| rA rfl rfl <| rN <| ATodo.ret <| ?_
    obtain rfl := Option.some.inj h
    exact ImpX.here ⟨_, .cons (.tmp _ _ rfl) .nil, _, .cons .p0 .nil, ⟨rfl, rfl⟩⟩

set_option maxHeartbeats 4000000 in
theorem Stream_Post_c [GI : GTab] {b_0 : Bk} {p0x0 : Fleetmake_Stream} {r : Post × Fleetmake_Stream} (h : Stream_Post p0x0 = some r) : ACall Tryz.prog 17 [.ptr b_0 0] [(b_0, .cells [.list 1 (p0x0.L.map I), I p0x0.at_])] (T0 ([(b_0, .cells [.list 1 (r.2.L.map I), I r.2.at_])]) (.agg [I r.1.Room, I r.1.Timeout, I r.1.Tries, I r.1.Kept])) := by
  unfold Stream_Post at h
  refine ACall.lessH ?_
  refine ACall.bodyN Tryz.func17 rfl Tryz.ntmps17 Tryz.results17 rfl rfl ?_
  refine tSR <| n_alloc rfl rfl rfl rfl fun b1 => rN <| tSR <| rM rfl rfl <| bndE h fun v2 e1 h => t_call0 rfl (Stream_RightPost_c e1) (CoL.refl _) (.cons .p1 .nil) rfl rfl <| n_alloc rfl rfl rfl rfl fun b3 => n_store_ptr rfl rfl rfl rfl .p0 rfl rfl <| rN <| tS <| tSR <| rM rfl rfl <| bndE h fun v4 e2 h => t_call0 rfl (Stream_Flip_c e2) (CoL.refl _) (.cons .p1 .nil) rfl rfl <| rN <| ATodo.cut (fun σ' => ∃ (l5 : List Int) (n6 : Int) (n7 : Int) (n8 : Int) (n9 : Int) (n10 : Int), Stream_Post_j1 l5 n6 n7 n8 n9 n10 = some r ∧ σ' = ⟨18, [(2, .ptr b1 0), (3, .ptr b3 0)], [(b_0, .cells [.list 1 (l5.map I), I n6]), (b1, .cells [I (0 : Int), I (0 : Int), I (0 : Int), I (0 : Int)]), (b3, .cells [I n7, I n8, I n9, I n10])]⟩) ?_ ?_
  · refine ATodo.cond rfl (fun hc => ?_) (fun hc => ?_)
    · exact have h := iteT hc h; tR <| rM rfl rfl <| bndE h fun v11 e3 h => t_call0 rfl (Stream_Odd_c e3) (CoL.refl _) (.cons .p0 .nil) rfl rfl <| rM rfl rfl <| bndE h fun v12 e4 h => t_call0 rfl (Stream_Odd_c e4) (CoL.refl _) (.cons .p0 .nil) rfl rfl <| rM rfl rfl <| bndE h fun v13 e5 h => t_call0 rfl (Stream_Odd_c e5) (CoL.refl _) (.cons .p0 .nil) rfl rfl <| rM rfl rfl <| bndE h fun v14 e6 h => t_call0 rfl (Stream_Odd_c e6) (CoL.refl _) (.cons .p0 .nil) rfl rfl <| ARun.qv (n_build rfl rfl rfl rfl rfl) rfl <| n_store_ptr rfl rfl rfl rfl .p1 rfl rfl <| rN <| ATodo.stop <| ImpX.lq [0, 1, 0] ⟨v14.2.L, v14.2.at_, v11.1, v12.1, v13.1, v14.1, h, rfl⟩ rfl rfl
    · exact have h := iteFb hc h; tK <| ATodo.stop <| ImpX.lq [0, 1, 0] ⟨v4.2.L, v4.2.at_, v2.1.Room, v2.1.Timeout, v2.1.Tries, v2.1.Kept, h, rfl⟩ rfl rfl
  · rintro σ' ⟨l5, n6, n7, n8, n9, n10, h, rfl⟩
    unfold Stream_Post_j1 at h
    refine tSR <| ARun.qv (q_load_ptr_all rfl rfl .p2 rfl) rfl <| n_store_ptr rfl rfl rfl rfl .p1 rfl rfl <| rN <| ATodo.ret <| ?_
    obtain rfl := Option.some.inj h
    exact ImpX.here ⟨_, .cons (.all _ _ _ _ _ _ rfl .p1 TUnder.h TInfo.h rfl rfl) .nil, _, .cons .p0 .nil, ⟨rfl, rfl⟩⟩

set_option maxHeartbeats 4000000 in
theorem base_Out_c [GI : GTab] {p0x0 : Int} {p1x0 : Int} {p2x0 : Int} {r : Bool} (h : base_Out p0x0 p1x0 p2x0 = r) : Pu Tryz.prog 26 [I p0x0, I p1x0, I p2x0] (.bool r) := by
  unfold base_Out at h
  refine ACall.bodyN Tryz.func26 rfl Tryz.ntmps26 Tryz.results26 rfl rfl ?_
  refine tSR <| rA rfl rfl <| rN <| tS <| ATodo.cut (fun σ' => ∃ (c1 : Bool), base_Out_j1 c1 = r ∧ σ' = ⟨15, [(6, .bool c1)], []⟩) ?_ ?_
  · refine tR <| rM rfl rfl <| rM rfl rfl <| ARun.qv (q_lss rfl rfl) rfl <| rM rfl rfl <| ARun.guard_df rfl rfl rfl (fun hc => ?_) (fun hc => ?_)
    · rw [orFd hc] at h
      exact rM rfl rfl <| rY rfl rfl rfl <| rM rfl rfl <| rY rfl rfl rfl <| ARun.qv (q_gtr rfl rfl) rfl <| rE rfl rfl rfl <| rA rfl rfl <| rN <| ATodo.stop <| ImpX.lq [] ⟨decide (p2x0 < p0x0), h, rfl⟩ rfl rfl
    · rw [orTd hc] at h
      exact rG rfl rfl rfl rfl <| rG rfl rfl rfl rfl <| rT rfl rfl rfl <| rA rfl rfl <| rN <| ATodo.stop <| ImpX.lq [] ⟨true, h, rfl⟩ rfl rfl
  · rintro σ' ⟨c1, h, rfl⟩
    unfold base_Out_j1 at h
    refine ATodo.ret <| ?_
    obtain rfl := h
    exact ImpX.here ⟨_, .cons (.tmp _ _ rfl) .nil, rfl⟩

set_option maxHeartbeats 4000000 in
theorem command_CheckPost_c [GI : GTab] {p0x0 : Post} {r : Int} (h : command_CheckPost p0x0 = r) : Pu Tryz.prog 45 [.agg [I p0x0.Room, I p0x0.Timeout, I p0x0.Tries, I p0x0.Kept]] (I r) := by
  unfold command_CheckPost at h
  refine ACall.bodyN Tryz.func45 rfl Tryz.ntmps45 Tryz.results45 rfl rfl ?_
  refine tSR <| n_box rfl rfl rfl rfl fun b1 => rA rfl rfl <| rN <| tS <| tS <| ATodo.cut (fun σ' => ∃ (c2 : Bool), command_CheckPost_j1 c2 = r ∧ σ' = ⟨21, [(20, .bool c2)], []⟩) ?_ ?_
  · refine tR <| rF rfl rfl rfl <| rL rfl rfl .p0 rfl rfl <| r_callp rfl (base_Out_c rfl) (CoL.refl _) rfl <| rM rfl rfl <| ARun.guard rfl rfl rfl (fun hc => ?_) (fun hc => ?_)
    · rw [orFb hc] at h
      refine rF rfl rfl rfl <| rY rfl rfl rfl <| rL rfl rfl .p0 rfl rfl <| rY rfl rfl rfl <| r_callp rfl (base_Out_c rfl) (CoL.refl _) rfl <| rE rfl rfl rfl <| rM rfl rfl <| ARun.guard rfl rfl rfl (fun hc => ?_) (fun hc => ?_)
      · rw [orFb hc] at h
        refine rF rfl rfl rfl <| rY rfl rfl rfl <| rL rfl rfl .p0 rfl rfl <| rY rfl rfl rfl <| r_callp rfl (base_Out_c rfl) (CoL.refl _) rfl <| rE rfl rfl rfl <| rM rfl rfl <| ARun.guard rfl rfl rfl (fun hc => ?_) (fun hc => ?_)
        · rw [orFb hc] at h
          exact rF rfl rfl rfl <| rY rfl rfl rfl <| rL rfl rfl .p0 rfl rfl <| rY rfl rfl rfl <| r_callp rfl (base_Out_c rfl) (CoL.refl _) rfl <| rE rfl rfl rfl <| rN <| ATodo.stop <| ImpX.lq [] ⟨(base_Out p0x0.Kept (0 : Int) (1000 : Int)), h, rfl⟩ rfl rfl
        · rw [orTb hc] at h
          exact rG rfl rfl rfl rfl <| rG rfl rfl rfl rfl <| rT rfl rfl rfl <| rN <| ATodo.stop <| ImpX.lq [] ⟨true, h, rfl⟩ rfl rfl
      · rw [orTb hc] at h
        exact rG rfl rfl rfl rfl <| rG rfl rfl rfl rfl <| rT rfl rfl rfl <| rM rfl rfl <| rG rfl rfl rfl rfl <| rG rfl rfl rfl rfl <| rG rfl rfl rfl rfl <| rT rfl rfl rfl <| rN <| ATodo.stop <| ImpX.lq [] ⟨true, h, rfl⟩ rfl rfl
    · rw [orTb hc] at h
      exact rG rfl rfl rfl rfl <| rG rfl rfl rfl rfl <| rT rfl rfl rfl <| rM rfl rfl <| rG rfl rfl rfl rfl <| rG rfl rfl rfl rfl <| rG rfl rfl rfl rfl <| rT rfl rfl rfl <| rM rfl rfl <| rG rfl rfl rfl rfl <| rG rfl rfl rfl rfl <| rG rfl rfl rfl rfl <| rT rfl rfl rfl <| rN <| ATodo.stop <| ImpX.lq [] ⟨true, h, rfl⟩ rfl rfl
  · rintro σ' ⟨c2, h, rfl⟩
    unfold command_CheckPost_j1 at h
    refine ATodo.cond rfl (fun hc => ?_) (fun hc => ?_)
    · refine have h := iteT hc h; tSR <| rA rfl rfl <| rN <| ATodo.ret <| ?_
      obtain rfl := h
      exact ImpX.here ⟨_, .cons (.tmp _ _ rfl) .nil, rfl⟩
    · refine have h := iteFb hc h; tK <| tSR <| rA rfl rfl <| rN <| ATodo.ret <| ?_
      obtain rfl := h
      exact ImpX.here ⟨_, .cons (.tmp _ _ rfl) .nil, rfl⟩

set_option maxHeartbeats 4000000 in
theorem command_New_c [GI : GTab] {p0x0 : Post} {r : (Option Command_Office) × Int} (h : command_New p0x0 = r) : ACall Tryz.prog 18 [.agg [I p0x0.Room, I p0x0.Timeout, I p0x0.Tries, I p0x0.Kept]] [] (TM r.1 (T0 ([]) (.tup [.raw (.pointer none), I r.2])) (fun x => T2 (fun d_0 d_0x4 => [(d_0, .cells [I x.post_.Room, I x.post_.Timeout, I x.post_.Tries, I x.post_.Kept, .mref d_0x4, I x.time_]), (d_0x4, .mp (x.notes_.map (fun e => (AV.str e.1, Note.av e.2))))]) (fun d_0 d_0x4 => .tup [.ptr d_0 0, I r.2]))) := by
  unfold command_New at h
  refine ACall.lessH ?_
  refine ACall.bodyN Tryz.func18 rfl Tryz.ntmps18 Tryz.results18 rfl rfl ?_
  refine tSR <| n_box rfl rfl rfl rfl fun b1 => rA rfl rfl <| rA rfl rfl <| rN <| tS <| tSR <| ARun.qv (q_load_ptr_all rfl rfl .p0 rfl) rfl <| r_callp rfl (command_CheckPost_c rfl) (CoL.refl _) rfl <| rA rfl rfl <| rN <| tSR <| rM rfl rfl <| ARun.qv (q_neq rfl rfl) rfl <| rN <| ATodo.cond_d rfl (fun hc => ?_) (fun hc => ?_)
  · refine have h := iteT hc h; tSR <| rM rfl rfl <| rA rfl rfl <| rA rfl rfl <| rN <| ATodo.ret <| ?_
    obtain rfl := h
    exact ImpX.here ⟨_, .cons (.tmp _ _ rfl) (.cons (.tmp _ _ rfl) .nil), _, .nil, ⟨rfl, rfl⟩⟩
  · refine have h := iteF hc h; tK <| tSR <| ARun.qv (q_load_ptr_all rfl rfl .p0 rfl) rfl <| t_makeMap rfl fun b2 => ARun.qv (n_build rfl rfl rfl rfl rfl) rfl <| n_box rfl rfl rfl rfl fun b3 => rA rfl rfl <| rA rfl rfl <| rN <| ATodo.ret <| ?_
    obtain rfl := h
    exact ImpX.here ⟨_, .cons (.tmp _ _ rfl) (.cons (.tmp _ _ rfl) .nil), _, .cons .p0 (.cons .p0 .nil), ⟨b3, b2, rfl, rfl⟩⟩

set_option maxHeartbeats 4000000 in
theorem Q_in_c [GI : GTab] {p0x0 : Int} {p1x0 : Int} {p2x0 : Int} {r : Bool} (h : Q_in p0x0 p1x0 p2x0 = r) : Pu Tryz.prog 46 [I p0x0, I p1x0, I p2x0] (.bool r) := by
  unfold Q_in at h
  refine ACall.bodyN Tryz.func46 rfl Tryz.ntmps46 Tryz.results46 rfl rfl ?_
  refine tSR <| rA rfl rfl <| rN <| tS <| ATodo.cut (fun σ' => ∃ (c1 : Bool), Q_in_j1 c1 = r ∧ σ' = ⟨15, [(6, .bool c1)], []⟩) ?_ ?_
  · refine tR <| rM rfl rfl <| rM rfl rfl <| ARun.qv (q_leq rfl rfl) rfl <| rM rfl rfl <| ARun.guard_dt rfl rfl rfl (fun hc => ?_) (fun hc => ?_)
    · rw [andTd hc] at h
      exact rM rfl rfl <| rY rfl rfl rfl <| rM rfl rfl <| rY rfl rfl rfl <| ARun.qv (q_leq rfl rfl) rfl <| rT rfl rfl rfl <| rA rfl rfl <| rN <| ATodo.stop <| ImpX.lq [] ⟨decide (p0x0 ≤ p2x0), h, rfl⟩ rfl rfl
    · rw [andFd hc] at h
      exact rG rfl rfl rfl rfl <| rG rfl rfl rfl rfl <| rE rfl rfl rfl <| rA rfl rfl <| rN <| ATodo.stop <| ImpX.lq [] ⟨false, h, rfl⟩ rfl rfl
  · rintro σ' ⟨c1, h, rfl⟩
    unfold Q_in_j1 at h
    refine ATodo.ret <| ?_
    obtain rfl := h
    exact ImpX.here ⟨_, .cons (.tmp _ _ rfl) .nil, rfl⟩

set_option maxHeartbeats 4000000 in
theorem Q_PostFault_c [GI : GTab] {p0x0 : Post} {r : Int} (h : Q_PostFault p0x0 = r) : Pu Tryz.prog 19 [.agg [I p0x0.Room, I p0x0.Timeout, I p0x0.Tries, I p0x0.Kept]] (I r) := by
  unfold Q_PostFault at h
  refine ACall.bodyN Tryz.func19 rfl Tryz.ntmps19 Tryz.results19 rfl rfl ?_
  refine tSR <| n_box rfl rfl rfl rfl fun b1 => rA rfl rfl <| rN <| tS <| tS <| ATodo.cut (fun σ' => ∃ (c2 : Bool), Q_PostFault_j1 c2 = r ∧ σ' = ⟨25, [(24, .bool c2)], []⟩) ?_ ?_
  · refine tR <| rF rfl rfl rfl <| rL rfl rfl .p0 rfl rfl <| r_callp rfl (Q_in_c rfl) (CoL.refl _) rfl <| ARun.qv (q_not rfl) rfl <| rM rfl rfl <| ARun.guard rfl rfl rfl (fun hc => ?_) (fun hc => ?_)
    · rw [orFb hc] at h
      refine rF rfl rfl rfl <| rY rfl rfl rfl <| rL rfl rfl .p0 rfl rfl <| rY rfl rfl rfl <| r_callp rfl (Q_in_c rfl) (CoL.refl _) rfl <| rY rfl rfl rfl <| ARun.qv (q_not rfl) rfl <| rE rfl rfl rfl <| rM rfl rfl <| ARun.guard rfl rfl rfl (fun hc => ?_) (fun hc => ?_)
      · rw [orFb hc] at h
        refine rF rfl rfl rfl <| rY rfl rfl rfl <| rL rfl rfl .p0 rfl rfl <| rY rfl rfl rfl <| r_callp rfl (Q_in_c rfl) (CoL.refl _) rfl <| rY rfl rfl rfl <| ARun.qv (q_not rfl) rfl <| rE rfl rfl rfl <| rM rfl rfl <| ARun.guard rfl rfl rfl (fun hc => ?_) (fun hc => ?_)
        · rw [orFb hc] at h
          exact rF rfl rfl rfl <| rY rfl rfl rfl <| rL rfl rfl .p0 rfl rfl <| rY rfl rfl rfl <| r_callp rfl (Q_in_c rfl) (CoL.refl _) rfl <| rY rfl rfl rfl <| ARun.qv (q_not rfl) rfl <| rE rfl rfl rfl <| rN <| ATodo.stop <| ImpX.lq [] ⟨!(Q_in p0x0.Kept (0 : Int) (1000 : Int)), h, rfl⟩ rfl rfl
        · rw [orTb hc] at h
          exact rG rfl rfl rfl rfl <| rG rfl rfl rfl rfl <| rG rfl rfl rfl rfl <| rT rfl rfl rfl <| rN <| ATodo.stop <| ImpX.lq [] ⟨true, h, rfl⟩ rfl rfl
      · rw [orTb hc] at h
        exact rG rfl rfl rfl rfl <| rG rfl rfl rfl rfl <| rG rfl rfl rfl rfl <| rT rfl rfl rfl <| rM rfl rfl <| rG rfl rfl rfl rfl <| rG rfl rfl rfl rfl <| rG rfl rfl rfl rfl <| rG rfl rfl rfl rfl <| rT rfl rfl rfl <| rN <| ATodo.stop <| ImpX.lq [] ⟨true, h, rfl⟩ rfl rfl
    · rw [orTb hc] at h
      exact rG rfl rfl rfl rfl <| rG rfl rfl rfl rfl <| rG rfl rfl rfl rfl <| rT rfl rfl rfl <| rM rfl rfl <| rG rfl rfl rfl rfl <| rG rfl rfl rfl rfl <| rG rfl rfl rfl rfl <| rG rfl rfl rfl rfl <| rT rfl rfl rfl <| rM rfl rfl <| rG rfl rfl rfl rfl <| rG rfl rfl rfl rfl <| rG rfl rfl rfl rfl <| rG rfl rfl rfl rfl <| rT rfl rfl rfl <| rN <| ATodo.stop <| ImpX.lq [] ⟨true, h, rfl⟩ rfl rfl
  · rintro σ' ⟨c2, h, rfl⟩
    unfold Q_PostFault_j1 at h
    refine ATodo.cond rfl (fun hc => ?_) (fun hc => ?_)
    · refine have h := iteT hc h; tSR <| rA rfl rfl <| rN <| ATodo.ret <| ?_
      obtain rfl := h
      exact ImpX.here ⟨_, .cons (.tmp _ _ rfl) .nil, rfl⟩
    · refine have h := iteFb hc h; tK <| tSR <| rA rfl rfl <| rN <| ATodo.ret <| ?_
      obtain rfl := h
      exact ImpX.here ⟨_, .cons (.tmp _ _ rfl) .nil, rfl⟩

set_option maxHeartbeats 4000000 in
theorem base_Key_c [GI : GTab] {p0x0 : Str} {r : Bool} (h : base_Key p0x0 = some r) : Pu Tryz.prog 77 [.str p0x0] (.bool r) := by
  unfold base_Key at h
  refine ACall.bodyN Tryz.func77 rfl Tryz.ntmps77 Tryz.results77 rfl rfl ?_
  refine tSR <| rA rfl rfl <| rN <| tS <| tS <| ATodo.cut (fun σ' => ∃ (c1 : Bool), base_Key_j1 p0x0 c1 = some r ∧ σ' = ⟨54, [(0, .str p0x0), (21, .bool c1)], []⟩) ?_ ?_
  · refine tR <| rM rfl rfl <| ARun.qv (q_seq rfl rfl) rfl <| rM rfl rfl <| ARun.guard_df rfl rfl rfl (fun hc => ?_) (fun hc => ?_)
    · refine have h := iteF hc h; rM rfl rfl <| rY rfl rfl rfl <| ARun.qv (q_len_str rfl) rfl <| rY rfl rfl rfl <| ARun.qv (q_gtr rfl rfl) rfl <| rE rfl rfl rfl <| rM rfl rfl <| ARun.guard_df rfl rfl rfl (fun hc => ?_) (fun hc => ?_)
      · refine have h := iteF hc h; rM rfl rfl <| rY rfl rfl rfl <| bndE h fun c2 e1 h => ARun.qv (t_index_str rfl rfl e1) rfl <| rY rfl rfl rfl <| ARun.qv (q_lss rfl rfl) rfl <| rE rfl rfl rfl <| rM rfl rfl <| ARun.guard_df rfl rfl rfl (fun hc => ?_) (fun hc => ?_)
        · exact have h := iteF hc h; rM rfl rfl <| rY rfl rfl rfl <| bndE h fun c3 e2 h => ARun.qv (t_index_str rfl rfl e2) rfl <| rY rfl rfl rfl <| ARun.qv (q_gtr rfl rfl) rfl <| rE rfl rfl rfl <| rN <| ATodo.stop <| ImpX.lq [] ⟨decide ((122 : Int) < (c3.toNat : Int)), h, rfl⟩ rfl rfl
        · exact have h := iteT hc h; rG rfl rfl rfl rfl <| rG rfl rfl rfl rfl <| rT rfl rfl rfl <| rN <| ATodo.stop <| ImpX.lq [] ⟨true, h, rfl⟩ rfl rfl
      · exact have h := iteT hc h; rG rfl rfl rfl rfl <| rG rfl rfl rfl rfl <| rT rfl rfl rfl <| rM rfl rfl <| rG rfl rfl rfl rfl <| rG rfl rfl rfl rfl <| rG rfl rfl rfl rfl <| rT rfl rfl rfl <| rN <| ATodo.stop <| ImpX.lq [] ⟨true, h, rfl⟩ rfl rfl
    · exact have h := iteT hc h; rG rfl rfl rfl rfl <| rG rfl rfl rfl rfl <| rT rfl rfl rfl <| rM rfl rfl <| rG rfl rfl rfl rfl <| rG rfl rfl rfl rfl <| rG rfl rfl rfl rfl <| rT rfl rfl rfl <| rM rfl rfl <| rG rfl rfl rfl rfl <| rG rfl rfl rfl rfl <| rG rfl rfl rfl rfl <| rT rfl rfl rfl <| rN <| ATodo.stop <| ImpX.lq [] ⟨true, h, rfl⟩ rfl rfl
  · rintro σ' ⟨c1, h, rfl⟩
    unfold base_Key_j1 at h
    refine ATodo.cond rfl (fun hc => ?_) (fun hc => ?_)
    · refine have h := iteT hc h; tSR <| rA rfl rfl <| rN <| ATodo.ret <| ?_
      obtain rfl := Option.some.inj h
      exact ImpX.here ⟨_, .cons (.tmp _ _ rfl) .nil, rfl⟩
    · refine have h := iteFb hc h; tK <| tS <| tSR <| rM rfl rfl <| ARun.qv (q_len_str rfl) rfl <| rM rfl rfl <| rN <| ATodo.block <| ATodo.loopI (fun x : Int => base_Key_b1 p0x0 x) (fun x σ' => σ' = ⟨54, [(0, .str p0x0), (23, I (p0x0.length : Int)), (24, I x)], []⟩) h ?_ ?_
      · exact ImpX.lq [] rfl rfl rfl
      · intro n5 z1 σ' J1 hmk h hJ1 hA1
        obtain rfl := hmk
        replace h : base_Key_b1 p0x0 n5 = some z1 := h
        unfold base_Key_b1 at h
        refine tSR <| ARun.qv (q_lss rfl rfl) rfl <| rN <| tS <| ATodo.cond_d rfl (fun hc => ?_) (fun hc => ?_)
        · refine have h := iteT hc h; tK <| tS <| ATodo.block <| tSR <| rM rfl rfl <| rA rfl rfl <| rN <| tSR <| rM rfl rfl <| rM rfl rfl <| bndE h fun c6 e3 h => ARun.qv (t_index_str rfl rfl e3) rfl <| rA rfl rfl <| rN <| tS <| ATodo.cut (fun σ' => ∃ (c7 : Bool), base_Key_j2 n5 c7 = some z1 ∧ σ' = ⟨54, [(0, .str p0x0), (23, I (p0x0.length : Int)), (24, I n5), (52, .bool c7)], []⟩) ?_ ?_
          · refine tR <| rM rfl rfl <| ARun.qv (q_geq rfl rfl) rfl <| rM rfl rfl <| ARun.guard_dt rfl rfl rfl (fun hc => ?_) (fun hc => ?_)
            · rw [if_pos hc] at h
              refine rM rfl rfl <| rY rfl rfl rfl <| ARun.qv (q_leq rfl rfl) rfl <| rT rfl rfl rfl <| rM rfl rfl <| ARun.guard_df rfl rfl rfl (fun hc => ?_) (fun hc => ?_)
              · rw [if_neg hc] at h
                refine rM rfl rfl <| rY rfl rfl rfl <| ARun.qv (q_geq rfl rfl) rfl <| rY rfl rfl rfl <| rM rfl rfl <| ARun.guard_dt rfl rfl rfl (fun hc => ?_) (fun hc => ?_)
                · rw [if_pos hc] at h
                  refine rM rfl rfl <| rY rfl rfl rfl <| ARun.qv (q_leq rfl rfl) rfl <| rY rfl rfl rfl <| rT rfl rfl rfl <| rE rfl rfl rfl <| rM rfl rfl <| ARun.guard_df rfl rfl rfl (fun hc => ?_) (fun hc => ?_)
                  · rw [if_neg hc] at h
                    refine rM rfl rfl <| rY rfl rfl rfl <| ARun.qv (q_eql rfl rfl) rfl <| rE rfl rfl rfl <| rM rfl rfl <| ARun.guard_df rfl rfl rfl (fun hc => ?_) (fun hc => ?_)
                    · rw [if_neg hc] at h
                      exact rM rfl rfl <| rY rfl rfl rfl <| ARun.qv (q_eql rfl rfl) rfl <| rE rfl rfl rfl <| ARun.qv (q_not_d rfl) rfl <| rN <| ATodo.stop <| ImpX.lq [] ⟨decide (¬ ((c6.toNat : Int) = (95 : Int))), h, rfl⟩ rfl rfl
                    · rw [if_pos hc] at h
                      exact rG rfl rfl rfl rfl <| rT rfl rfl rfl <| ARun.qv (q_not rfl) rfl <| rN <| ATodo.stop <| ImpX.lq [] ⟨!true, h, rfl⟩ rfl rfl
                  · rw [if_pos hc] at h
                    exact rG rfl rfl rfl rfl <| rT rfl rfl rfl <| rM rfl rfl <| rG rfl rfl rfl rfl <| rG rfl rfl rfl rfl <| rT rfl rfl rfl <| ARun.qv (q_not rfl) rfl <| rN <| ATodo.stop <| ImpX.lq [] ⟨!true, h, rfl⟩ rfl rfl
                · rw [if_neg hc] at h
                  refine rG rfl rfl rfl rfl <| rY rfl rfl rfl <| rE rfl rfl rfl <| rE rfl rfl rfl <| rM rfl rfl <| rY rfl rfl rfl <| rM rfl rfl <| rY rfl rfl rfl <| ARun.qv (q_eql rfl rfl) rfl <| rE rfl rfl rfl <| rM rfl rfl <| ARun.guard_df rfl rfl rfl (fun hc => ?_) (fun hc => ?_)
                  · rw [if_neg hc] at h
                    exact rM rfl rfl <| rY rfl rfl rfl <| ARun.qv (q_eql rfl rfl) rfl <| rE rfl rfl rfl <| ARun.qv (q_not_d rfl) rfl <| rN <| ATodo.stop <| ImpX.lq [] ⟨decide (¬ ((c6.toNat : Int) = (95 : Int))), h, rfl⟩ rfl rfl
                  · rw [if_pos hc] at h
                    exact rG rfl rfl rfl rfl <| rT rfl rfl rfl <| ARun.qv (q_not rfl) rfl <| rN <| ATodo.stop <| ImpX.lq [] ⟨!true, h, rfl⟩ rfl rfl
              · rw [if_pos hc] at h
                exact rG rfl rfl rfl rfl <| rG rfl rfl rfl rfl <| ARun.guard_und rfl rfl rfl <| ARun.guard_und rfl rfl rfl <| rG rfl rfl rfl rfl <| rT rfl rfl rfl <| rM rfl rfl <| rG rfl rfl rfl rfl <| rG rfl rfl rfl rfl <| rT rfl rfl rfl <| rM rfl rfl <| rG rfl rfl rfl rfl <| rG rfl rfl rfl rfl <| rT rfl rfl rfl <| ARun.qv (q_not rfl) rfl <| rN <| ATodo.stop <| ImpX.lq [] ⟨!true, h, rfl⟩ rfl rfl
            · rw [if_neg hc] at h
              refine rG rfl rfl rfl rfl <| rE rfl rfl rfl <| rM rfl rfl <| rY rfl rfl rfl <| rM rfl rfl <| rY rfl rfl rfl <| ARun.qv (q_geq rfl rfl) rfl <| rY rfl rfl rfl <| rM rfl rfl <| ARun.guard_dt rfl rfl rfl (fun hc => ?_) (fun hc => ?_)
              · rw [if_pos hc] at h
                refine rM rfl rfl <| rY rfl rfl rfl <| ARun.qv (q_leq rfl rfl) rfl <| rY rfl rfl rfl <| rT rfl rfl rfl <| rE rfl rfl rfl <| rM rfl rfl <| ARun.guard_df rfl rfl rfl (fun hc => ?_) (fun hc => ?_)
                · rw [if_neg hc] at h
                  refine rM rfl rfl <| rY rfl rfl rfl <| ARun.qv (q_eql rfl rfl) rfl <| rE rfl rfl rfl <| rM rfl rfl <| ARun.guard_df rfl rfl rfl (fun hc => ?_) (fun hc => ?_)
                  · rw [if_neg hc] at h
                    exact rM rfl rfl <| rY rfl rfl rfl <| ARun.qv (q_eql rfl rfl) rfl <| rE rfl rfl rfl <| ARun.qv (q_not_d rfl) rfl <| rN <| ATodo.stop <| ImpX.lq [] ⟨decide (¬ ((c6.toNat : Int) = (95 : Int))), h, rfl⟩ rfl rfl
                  · rw [if_pos hc] at h
                    exact rG rfl rfl rfl rfl <| rT rfl rfl rfl <| ARun.qv (q_not rfl) rfl <| rN <| ATodo.stop <| ImpX.lq [] ⟨!true, h, rfl⟩ rfl rfl
                · rw [if_pos hc] at h
                  exact rG rfl rfl rfl rfl <| rT rfl rfl rfl <| rM rfl rfl <| rG rfl rfl rfl rfl <| rG rfl rfl rfl rfl <| rT rfl rfl rfl <| ARun.qv (q_not rfl) rfl <| rN <| ATodo.stop <| ImpX.lq [] ⟨!true, h, rfl⟩ rfl rfl
              · rw [if_neg hc] at h
                refine rG rfl rfl rfl rfl <| rY rfl rfl rfl <| rE rfl rfl rfl <| rE rfl rfl rfl <| rM rfl rfl <| rY rfl rfl rfl <| rM rfl rfl <| rY rfl rfl rfl <| ARun.qv (q_eql rfl rfl) rfl <| rE rfl rfl rfl <| rM rfl rfl <| ARun.guard_df rfl rfl rfl (fun hc => ?_) (fun hc => ?_)
                · rw [if_neg hc] at h
                  exact rM rfl rfl <| rY rfl rfl rfl <| ARun.qv (q_eql rfl rfl) rfl <| rE rfl rfl rfl <| ARun.qv (q_not_d rfl) rfl <| rN <| ATodo.stop <| ImpX.lq [] ⟨decide (¬ ((c6.toNat : Int) = (95 : Int))), h, rfl⟩ rfl rfl
                · rw [if_pos hc] at h
                  exact rG rfl rfl rfl rfl <| rT rfl rfl rfl <| ARun.qv (q_not rfl) rfl <| rN <| ATodo.stop <| ImpX.lq [] ⟨!true, h, rfl⟩ rfl rfl
          · rintro σ' ⟨c7, h, rfl⟩
            unfold base_Key_j2 at h
            refine ATodo.cond rfl (fun hc => ?_) (fun hc => ?_)
            · refine have h := iteT hc h; tSR <| rA rfl rfl <| rN <| ATodo.ret <| have h := outL h hA1; ?_
              obtain rfl := Option.some.inj h
              exact ImpX.here ⟨_, .cons (.tmp _ _ rfl) .nil, rfl⟩
            · refine have h := iteFb hc h; tK <| ATodo.blk <| tR <| ARun.qv (q_addw rfl rfl) rfl <| rM rfl rfl <| rN <| ATodo.stop <| ?_
              obtain rfl := Option.some.inj h
              exact hJ1 _ _ rfl <| ImpX.lq [] rfl rfl rfl
        · refine have h := iteF hc h; ATodo.exit rfl <| have h := outL h hA1; tSR <| rA rfl rfl <| rN <| ATodo.ret <| ?_
          obtain rfl := Option.some.inj h
          exact ImpX.here ⟨_, .cons (.tmp _ _ rfl) .nil, rfl⟩

set_option maxHeartbeats 4000000 in
theorem base_Unmarked_c {p0x0 : Str} {r : Bool} (h : base_Unmarked p0x0 = some r) : Pu Tryz.prog 78 [.str p0x0] (.bool r) := by
  unfold base_Unmarked at h
  refine ACall.bodyN Tryz.func78 rfl Tryz.ntmps78 Tryz.results78 rfl rfl ?_
  refine tSR <| rA rfl rfl <| rN <| tS <| tSR <| rM rfl rfl <| ARun.qv (q_len_str rfl) rfl <| rM rfl rfl <| rN <| ATodo.block <| ATodo.loopI (fun x : Int => base_Unmarked_b1 p0x0 x) (fun x σ' => σ' = ⟨22, [(0, .str p0x0), (5, I (p0x0.length : Int)), (6, I x)], []⟩) h ?_ ?_
  · exact ImpX.lq [] rfl rfl rfl
  · intro n2 z1 σ' J1 hmk h hJ1 hA1
    obtain rfl := hmk
    replace h : base_Unmarked_b1 p0x0 n2 = some z1 := h
    unfold base_Unmarked_b1 at h
    refine tSR <| ARun.qv (q_lss rfl rfl) rfl <| rN <| tS <| ATodo.cond_d rfl (fun hc => ?_) (fun hc => ?_)
    · refine have h := iteT hc h; tK <| tS <| ATodo.block <| tSR <| rM rfl rfl <| rA rfl rfl <| rN <| tS <| ATodo.cut (fun σ' => ∃ (c3 : Bool), base_Unmarked_j1 n2 c3 = some z1 ∧ σ' = ⟨22, [(0, .str p0x0), (5, I (p0x0.length : Int)), (6, I n2), (18, .bool c3)], []⟩) ?_ ?_
      · refine tR <| rM rfl rfl <| rM rfl rfl <| bndE h fun c4 e1 h => ARun.qv (t_index_str rfl rfl e1) rfl <| ARun.qv (q_lss rfl rfl) rfl <| rM rfl rfl <| ARun.guard_df rfl rfl rfl (fun hc => ?_) (fun hc => ?_)
        · exact have h := iteF hc h; rM rfl rfl <| rY rfl rfl rfl <| rM rfl rfl <| rY rfl rfl rfl <| bndE h fun c5 e2 h => ARun.qv (t_index_str rfl rfl e2) rfl <| rY rfl rfl rfl <| ARun.qv (q_eql rfl rfl) rfl <| rE rfl rfl rfl <| rN <| ATodo.stop <| ImpX.lq [] ⟨decide ((c5.toNat : Int) = (127 : Int)), h, rfl⟩ rfl rfl
        · exact have h := iteT hc h; rG rfl rfl rfl rfl <| rG rfl rfl rfl rfl <| rG rfl rfl rfl rfl <| rT rfl rfl rfl <| rN <| ATodo.stop <| ImpX.lq [] ⟨true, h, rfl⟩ rfl rfl
      · rintro σ' ⟨c3, h, rfl⟩
        unfold base_Unmarked_j1 at h
        refine ATodo.cond rfl (fun hc => ?_) (fun hc => ?_)
        · refine have h := iteT hc h; tSR <| rA rfl rfl <| rN <| ATodo.ret <| have h := outL h hA1; ?_
          obtain rfl := Option.some.inj h
          exact ImpX.here ⟨_, .cons (.tmp _ _ rfl) .nil, rfl⟩
        · refine have h := iteFb hc h; tK <| ATodo.blk <| tR <| ARun.qv (q_addw rfl rfl) rfl <| rM rfl rfl <| rN <| ATodo.stop <| ?_
          obtain rfl := Option.some.inj h
          exact hJ1 _ _ rfl <| ImpX.lq [] rfl rfl rfl
    · refine have h := iteF hc h; ATodo.exit rfl <| have h := outL h hA1; ?_
      unfold base_Unmarked_k2 at h
      refine tSR <| rM rfl rfl <| bndE h fun v6 e3 h => r_callp rfl (utf8_ValidString_c e3) (CoL.refl _) rfl <| rA rfl rfl <| rN <| ATodo.ret <| ?_
      obtain rfl := Option.some.inj h
      exact ImpX.here ⟨_, .cons (.tmp _ _ rfl) .nil, rfl⟩

set_option maxHeartbeats 4000000 in
theorem base_Moment_c [GI : GTab] {p0x0 : Int} {r : Bool} (h : base_Moment p0x0 = r) : Pu Tryz.prog 33 [I p0x0] (.bool r) := by
  unfold base_Moment at h
  refine ACall.bodyN Tryz.func33 rfl Tryz.ntmps33 Tryz.results33 rfl rfl ?_
  refine tSR <| rA rfl rfl <| rN <| tSR <| rM rfl rfl <| r_callp rfl (base_Out_c rfl) (CoL.refl _) rfl <| ARun.qv (q_not rfl) rfl <| rA rfl rfl <| rN <| ATodo.ret <| ?_
  obtain rfl := h
  exact ImpX.here ⟨_, .cons (.tmp _ _ rfl) .nil, rfl⟩

set_option maxHeartbeats 4000000 in
theorem command_CheckLetter_c {p0x0 : Letter} {r : Int} (h : command_CheckLetter p0x0 = some r) : Pu Tryz.prog 32 [.agg [.str p0x0.Id, .str p0x0.Slot, .str p0x0.Body, I p0x0.Prio, I p0x0.At, I p0x0.Until]] (I r) := by
  unfold command_CheckLetter at h
  refine ACall.bodyN Tryz.func32 rfl Tryz.ntmps32 Tryz.results32 rfl rfl ?_
  refine tSR <| n_box rfl rfl rfl rfl fun b1 => rA rfl rfl <| rN <| tS <| ATodo.block <| tS <| ATodo.cut (fun σ' => ∃ (c2 : Bool), command_CheckLetter_j1 p0x0 c2 = some r ∧ σ' = ⟨51, [(1, .ptr b1 0), (3, .bool c2)], [(b1, .cells [.str p0x0.Id, .str p0x0.Slot, .str p0x0.Body, I p0x0.Prio, I p0x0.At, I p0x0.Until])]⟩) ?_ ?_
  · refine tR <| rF rfl rfl rfl <| rL rfl rfl .p0 rfl rfl <| bndE h fun v3 e1 h => r_callp rfl (base_Key_c e1) (CoL.refl _) rfl <| ARun.qv (q_not rfl) rfl <| rM rfl rfl <| ARun.guard rfl rfl rfl (fun hc => ?_) (fun hc => ?_)
    · refine have h := iteFb hc h; rF rfl rfl rfl <| rY rfl rfl rfl <| rL rfl rfl .p0 rfl rfl <| rY rfl rfl rfl <| ARun.qv (q_sne rfl rfl) rfl <| rY rfl rfl rfl <| rM rfl rfl <| ARun.guard_dt rfl rfl rfl (fun hc => ?_) (fun hc => ?_)
      · exact have h := iteT hc h; rF rfl rfl rfl <| rY rfl rfl rfl <| rL rfl rfl .p0 rfl rfl <| rY rfl rfl rfl <| bndE h fun v4 e2 h => r_callp rfl (base_Key_c e2) (CoL.refl _) rfl <| rY rfl rfl rfl <| ARun.qv (q_not rfl) rfl <| rY rfl rfl rfl <| rT rfl rfl rfl <| rE rfl rfl rfl <| rA rfl rfl <| rN <| ATodo.stop <| ImpX.lq [0] ⟨!v4, h, rfl⟩ rfl rfl
      · exact have h := iteF hc h; rG rfl rfl rfl rfl <| rG rfl rfl rfl rfl <| rG rfl rfl rfl rfl <| rY rfl rfl rfl <| rE rfl rfl rfl <| rE rfl rfl rfl <| rA rfl rfl <| rN <| ATodo.stop <| ImpX.lq [0] ⟨false, h, rfl⟩ rfl rfl
    · exact have h := iteT hc h; rG rfl rfl rfl rfl <| rG rfl rfl rfl rfl <| rG rfl rfl rfl rfl <| ARun.guard_und rfl rfl rfl <| ARun.guard_und rfl rfl rfl <| ARun.guard_und rfl rfl rfl <| ARun.guard_und rfl rfl rfl <| rG rfl rfl rfl rfl <| rT rfl rfl rfl <| rA rfl rfl <| rN <| ATodo.stop <| ImpX.lq [0] ⟨true, h, rfl⟩ rfl rfl
  · rintro σ' ⟨c2, h, rfl⟩
    unfold command_CheckLetter_j1 at h
    refine ATodo.cond rfl (fun hc => ?_) (fun hc => ?_)
    · refine have h := iteT hc h; tSR <| rA rfl rfl <| rN <| ATodo.ret <| ?_
      obtain rfl := Option.some.inj h
      exact ImpX.here ⟨_, .cons (.tmp _ _ rfl) .nil, rfl⟩
    · refine have h := iteFb hc h; tSR <| rF rfl rfl rfl <| rL rfl rfl .p0 rfl rfl <| ARun.qv (q_len_str rfl) rfl <| ARun.qv (q_gtr rfl rfl) rfl <| rA rfl rfl <| rN <| ATodo.cond_d rfl (fun hc => ?_) (fun hc => ?_)
      · refine have h := iteT hc h; tSR <| rA rfl rfl <| rN <| ATodo.ret <| ?_
        obtain rfl := Option.some.inj h
        exact ImpX.here ⟨_, .cons (.tmp _ _ rfl) .nil, rfl⟩
      · refine have h := iteF hc h; tSR <| rF rfl rfl rfl <| rL rfl rfl .p0 rfl rfl <| bndE h fun v5 e3 h => r_callp rfl (base_Unmarked_c e3) (CoL.refl _) rfl <| ARun.qv (q_not rfl) rfl <| rA rfl rfl <| rN <| ATodo.cond rfl (fun hc => ?_) (fun hc => ?_)
        · refine have h := iteT hc h; tSR <| rA rfl rfl <| rN <| ATodo.ret <| ?_
          obtain rfl := Option.some.inj h
          exact ImpX.here ⟨_, .cons (.tmp _ _ rfl) .nil, rfl⟩
        · refine have h := iteFb hc h; tS <| ATodo.cut (fun σ' => ∃ (c6 : Bool), command_CheckLetter_j2 c6 = some r ∧ σ' = ⟨51, [(29, .bool c6)], []⟩) ?_ ?_
          · refine tR <| rF rfl rfl rfl <| rL rfl rfl .p0 rfl rfl <| r_callp rfl (base_Out_c rfl) (CoL.refl _) rfl <| rM rfl rfl <| ARun.guard rfl rfl rfl (fun hc => ?_) (fun hc => ?_)
            · rw [orFb hc] at h
              refine rF rfl rfl rfl <| rY rfl rfl rfl <| rL rfl rfl .p0 rfl rfl <| rY rfl rfl rfl <| r_callp rfl (base_Moment_c rfl) (CoL.refl _) rfl <| rY rfl rfl rfl <| ARun.qv (q_not rfl) rfl <| rE rfl rfl rfl <| rM rfl rfl <| ARun.guard rfl rfl rfl (fun hc => ?_) (fun hc => ?_)
              · rw [orFb hc] at h
                refine rF rfl rfl rfl <| rY rfl rfl rfl <| rL rfl rfl .p0 rfl rfl <| rY rfl rfl rfl <| rF rfl rfl rfl <| rY rfl rfl rfl <| rL rfl rfl .p0 rfl rfl <| rY rfl rfl rfl <| ARun.qv (q_leq rfl rfl) rfl <| rE rfl rfl rfl <| rM rfl rfl <| ARun.guard_df rfl rfl rfl (fun hc => ?_) (fun hc => ?_)
                · rw [orFd hc] at h
                  exact rF rfl rfl rfl <| rY rfl rfl rfl <| rL rfl rfl .p0 rfl rfl <| rY rfl rfl rfl <| ARun.qv (q_gtr rfl rfl) rfl <| rE rfl rfl rfl <| rA rfl rfl <| rN <| ATodo.stop <| ImpX.lq [] ⟨decide ((345686400000 : Int) < p0x0.Until), h, rfl⟩ rfl rfl
                · rw [orTd hc] at h
                  exact rG rfl rfl rfl rfl <| rG rfl rfl rfl rfl <| rT rfl rfl rfl <| rA rfl rfl <| rN <| ATodo.stop <| ImpX.lq [] ⟨true, h, rfl⟩ rfl rfl
              · rw [orTb hc] at h
                exact rG rfl rfl rfl rfl <| rG rfl rfl rfl rfl <| rG rfl rfl rfl rfl <| rG rfl rfl rfl rfl <| rT rfl rfl rfl <| rM rfl rfl <| rG rfl rfl rfl rfl <| rG rfl rfl rfl rfl <| rG rfl rfl rfl rfl <| rT rfl rfl rfl <| rA rfl rfl <| rN <| ATodo.stop <| ImpX.lq [] ⟨true, h, rfl⟩ rfl rfl
            · rw [orTb hc] at h
              exact rG rfl rfl rfl rfl <| rG rfl rfl rfl rfl <| rG rfl rfl rfl rfl <| rT rfl rfl rfl <| rM rfl rfl <| rG rfl rfl rfl rfl <| rG rfl rfl rfl rfl <| rG rfl rfl rfl rfl <| rG rfl rfl rfl rfl <| rG rfl rfl rfl rfl <| rT rfl rfl rfl <| rM rfl rfl <| rG rfl rfl rfl rfl <| rG rfl rfl rfl rfl <| rG rfl rfl rfl rfl <| rT rfl rfl rfl <| rA rfl rfl <| rN <| ATodo.stop <| ImpX.lq [] ⟨true, h, rfl⟩ rfl rfl
          · rintro σ' ⟨c6, h, rfl⟩
            unfold command_CheckLetter_j2 at h
            refine ATodo.cond rfl (fun hc => ?_) (fun hc => ?_)
            · refine have h := iteT hc h; tSR <| rA rfl rfl <| rN <| ATodo.ret <| ?_
              obtain rfl := Option.some.inj h
              exact ImpX.here ⟨_, .cons (.tmp _ _ rfl) .nil, rfl⟩
            · refine have h := iteFb hc h; tK <| ATodo.blk <| tSR <| rA rfl rfl <| rN <| ATodo.ret <| ?_
              obtain rfl := Option.some.inj h
              exact ImpX.here ⟨_, .cons (.tmp _ _ rfl) .nil, rfl⟩

set_option maxHeartbeats 4000000 in
theorem command_Office_timeFault_c [GI : GTab] {b_0 : Bk} {b_0x4 : Bk} {p0x0 : Command_Office} {p1x0 : Int} {r : Int} (h : command_Office_timeFault p0x0 p1x0 = r) : ACall Tryz.prog 60 [.ptr b_0 0, I p1x0] [(b_0, .cells [I p0x0.post_.Room, I p0x0.post_.Timeout, I p0x0.post_.Tries, I p0x0.post_.Kept, .mref b_0x4, I p0x0.time_])] (T0 ([(b_0, .cells [I p0x0.post_.Room, I p0x0.post_.Timeout, I p0x0.post_.Tries, I p0x0.post_.Kept, .mref b_0x4, I p0x0.time_])]) (I r)) := by
  unfold command_Office_timeFault at h
  refine ACall.lessH ?_
  refine ACall.bodyN Tryz.func60 rfl Tryz.ntmps60 Tryz.results60 rfl rfl ?_
  refine tSR <| rA rfl rfl <| rN <| tS <| ATodo.block <| tSR <| rM rfl rfl <| r_callp rfl (base_Moment_c rfl) (CoL.refl _) rfl <| ARun.qv (q_not rfl) rfl <| rA rfl rfl <| rN <| ATodo.cond rfl (fun hc => ?_) (fun hc => ?_)
  · refine have h := iteT hc h; tSR <| rA rfl rfl <| rN <| ATodo.ret <| ?_
    obtain rfl := h
    exact ImpX.here ⟨_, .cons (.tmp _ _ rfl) .nil, _, .cons .p0 .nil, ⟨rfl, rfl⟩⟩
  · refine have h := iteFb hc h; tSR <| rM rfl rfl <| rM rfl rfl <| ARun.qv (q_nilCheck_ptr rfl) rfl <| rF rfl rfl rfl <| rL rfl rfl .p0 rfl rfl <| ARun.qv (q_lss rfl rfl) rfl <| rA rfl rfl <| rN <| ATodo.cond_d rfl (fun hc => ?_) (fun hc => ?_)
    · refine have h := iteT hc h; tSR <| rA rfl rfl <| rN <| ATodo.ret <| ?_
      obtain rfl := h
      exact ImpX.here ⟨_, .cons (.tmp _ _ rfl) .nil, _, .cons .p0 .nil, ⟨rfl, rfl⟩⟩
    · refine have h := iteF hc h; tK <| ATodo.blk <| tSR <| rA rfl rfl <| rN <| ATodo.ret <| ?_
      obtain rfl := h
      exact ImpX.here ⟨_, .cons (.tmp _ _ rfl) .nil, _, .cons .p0 .nil, ⟨rfl, rfl⟩⟩

set_option maxHeartbeats 4000000 in
theorem base_First_c [GI : GTab] {p0x0 : List Int} {r : Int} (h : base_First p0x0 = some r) : Pu Tryz.prog 69 [.list 1 (p0x0.map I)] (I r) := by
  unfold base_First at h
  refine ACall.bodyN Tryz.func69 rfl Tryz.ntmps69 Tryz.results69 rfl rfl ?_
  refine tSR <| rA rfl rfl <| rN <| tS <| tSR <| rM rfl rfl <| ARun.qv (t_len rfl) rfl <| rM rfl rfl <| rN <| ATodo.block <| ATodo.loopI (fun x : Int => base_First_b1 p0x0 x) (fun x σ' => σ' = ⟨15, [(5, .list 1 (p0x0.map I)), (6, I (p0x0.length : Int)), (7, I x)], []⟩) h ?_ ?_
  · exact ImpX.lq [] rfl rfl rfl
  · intro n2 z1 σ' J1 hmk h hJ1 hA1
    obtain rfl := hmk
    replace h : base_First_b1 p0x0 n2 = some z1 := h
    unfold base_First_b1 at h
    refine tSR <| ARun.qv (q_lss rfl rfl) rfl <| rN <| tS <| ATodo.cond_d rfl (fun hc => ?_) (fun hc => ?_)
    · refine have h := iteT hc h; tK <| tS <| ATodo.block <| tSR <| bndE h fun v3 e1 h => ARun.qv (t_index rfl rfl rfl e1 rfl rfl) rfl <| ARun.qv (q_load_rptr rfl rfl rfl) rfl <| rA rfl rfl <| rN <| tSR <| rM rfl rfl <| ARun.qv (q_neq rfl rfl) rfl <| rN <| ATodo.cond_d rfl (fun hc => ?_) (fun hc => ?_)
      · refine have h := iteT hc h; tSR <| rM rfl rfl <| rA rfl rfl <| rN <| ATodo.ret <| have h := outL h hA1; ?_
        obtain rfl := Option.some.inj h
        exact ImpX.here ⟨_, .cons (.tmp _ _ rfl) .nil, rfl⟩
      · refine have h := iteF hc h; tK <| ATodo.blk <| tR <| ARun.qv (q_addw rfl rfl) rfl <| rM rfl rfl <| rN <| ATodo.stop <| ?_
        obtain rfl := Option.some.inj h
        exact hJ1 _ _ rfl <| ImpX.lq [] rfl rfl rfl
    · refine have h := iteF hc h; ATodo.exit rfl <| have h := outL h hA1; tSR <| rA rfl rfl <| rN <| ATodo.ret <| ?_
      obtain rfl := Option.some.inj h
      exact ImpX.here ⟨_, .cons (.tmp _ _ rfl) .nil, rfl⟩

set_option maxHeartbeats 4000000 in
theorem command_ended_c [GI : GTab] {p0x0 : Int} {r : Bool} (h : command_ended p0x0 = r) : Pu Tryz.prog 92 [I p0x0] (.bool r) := by
  unfold command_ended at h
  refine ACall.bodyN Tryz.func92 rfl Tryz.ntmps92 Tryz.results92 rfl rfl ?_
  refine tSR <| rA rfl rfl <| rN <| tSR <| rM rfl rfl <| ARun.qv (q_geq rfl rfl) rfl <| rA rfl rfl <| rN <| ATodo.ret <| ?_
  obtain rfl := h
  exact ImpX.here ⟨_, .cons (.tmp _ _ rfl) .nil, rfl⟩

set_option maxHeartbeats 4000000 in
theorem command_Office_turn_c [GI : GTab] {b_0 : Bk} {b_0x4 : Bk} {p0x0 : Command_Office} {p1x0 : Note} {r : Int} (h : command_Office_turn p0x0 p1x0 = r) : ACall Tryz.prog 95 [.ptr b_0 0, .agg [.str p1x0.Letter.Id, .str p1x0.Letter.Slot, .str p1x0.Letter.Body, I p1x0.Letter.Prio, I p1x0.Letter.At, I p1x0.Letter.Until, I p1x0.State, I p1x0.Tries, I p1x0.Since]] [(b_0, .cells [I p0x0.post_.Room, I p0x0.post_.Timeout, I p0x0.post_.Tries, I p0x0.post_.Kept, .mref b_0x4, I p0x0.time_])] (T0 ([(b_0, .cells [I p0x0.post_.Room, I p0x0.post_.Timeout, I p0x0.post_.Tries, I p0x0.post_.Kept, .mref b_0x4, I p0x0.time_])]) (I r)) := by
  unfold command_Office_turn at h
  refine ACall.lessH ?_
  refine ACall.bodyN Tryz.func95 rfl Tryz.ntmps95 Tryz.results95 rfl rfl ?_
  refine tSR <| n_box rfl rfl rfl rfl fun b1 => rA rfl rfl <| rN <| tS <| tSR <| rF rfl rfl rfl <| rL rfl rfl .p0 rfl rfl <| ARun.qv (q_eql rfl rfl) rfl <| rN <| ATodo.cond_d rfl (fun hc => ?_) (fun hc => ?_)
  · refine have h := iteT hc h; tS <| ATodo.regionM (id := 2) (A := [0, 1, 3, 0, 8, 0, 32, 96, 224, 480, 1016, 2047, 4095]) 13 mixed rfl (by kernel_rfl) (by kernel_rfl) <| AM.qv (n_field_ptr rfl rfl) rfl <| AM.qv (n_field_ptr rfl rfl) rfl <| AM.qv (q_load_ptr rfl rfl .p0 rfl) rfl <| AM.qv (n_field_ptr rfl rfl) rfl <| AM.qv (q_load_ptr rfl rfl .p0 rfl) rfl <| AM.qv (q_move rfl) rfl <| AM.qv (q_nilCheck_ptr rfl) rfl <| AM.qv (n_field_ptr rfl rfl) rfl <| AM.qv (n_field_ptr rfl rfl) rfl <| AM.qv (q_load_ptr rfl rfl .p1 rfl) rfl <| AM.qv (q_addw rfl rfl) rfl <| AM.qv (q_min rfl rfl) rfl <| AM.qv (q_assign rfl) rfl <| AM.nil <| rN <| ATodo.ret <| ?_
    obtain rfl := h
    exact ImpX.here ⟨_, .cons (.tmp _ _ rfl) .nil, _, .cons .p1 .nil, ⟨rfl, rfl⟩⟩
  · refine have h := iteF hc h; tK <| tSR <| rF rfl rfl rfl <| rF rfl rfl rfl <| rL rfl rfl .p0 rfl rfl <| rA rfl rfl <| rN <| ATodo.ret <| ?_
    obtain rfl := h
    exact ImpX.here ⟨_, .cons (.tmp _ _ rfl) .nil, _, .cons .p1 .nil, ⟨rfl, rfl⟩⟩

set_option maxHeartbeats 4000000 in
theorem command_Office_grown_c [GI : GTab] {b_0 : Bk} {b_0x4 : Bk} {p0x0 : Command_Office} {p1x0 : Note} {p2x0 : Int} {r : Note} (h : command_Office_grown p0x0 p1x0 p2x0 = some r) : ACall Tryz.prog 97 [.ptr b_0 0, .agg [.str p1x0.Letter.Id, .str p1x0.Letter.Slot, .str p1x0.Letter.Body, I p1x0.Letter.Prio, I p1x0.Letter.At, I p1x0.Letter.Until, I p1x0.State, I p1x0.Tries, I p1x0.Since], I p2x0] [(b_0, .cells [I p0x0.post_.Room, I p0x0.post_.Timeout, I p0x0.post_.Tries, I p0x0.post_.Kept, .mref b_0x4, I p0x0.time_])] (T0 ([(b_0, .cells [I p0x0.post_.Room, I p0x0.post_.Timeout, I p0x0.post_.Tries, I p0x0.post_.Kept, .mref b_0x4, I p0x0.time_])]) (.agg [.str r.Letter.Id, .str r.Letter.Slot, .str r.Letter.Body, I r.Letter.Prio, I r.Letter.At, I r.Letter.Until, I r.State, I r.Tries, I r.Since])) := by
  unfold command_Office_grown at h
  refine ACall.lessH ?_
  refine ACall.bodyN Tryz.func97 rfl Tryz.ntmps97 Tryz.results97 rfl rfl ?_
  refine tSR <| n_box rfl rfl rfl rfl fun b1 => n_alloc rfl rfl rfl rfl fun b2 => rN <| tS <| ATodo.cut (fun σ' => ∃ (n3 : Int) (n4 : Int), command_Office_grown_j1 p1x0 n3 n4 = some r ∧ σ' = ⟨39, [(4, .ptr b1 0), (6, .ptr b2 0)], [(b_0, .cells [I p0x0.post_.Room, I p0x0.post_.Timeout, I p0x0.post_.Tries, I p0x0.post_.Kept, .mref b_0x4, I p0x0.time_]), (b1, .cells [.str p1x0.Letter.Id, .str p1x0.Letter.Slot, .str p1x0.Letter.Body, I p1x0.Letter.Prio, I p1x0.Letter.At, I p1x0.Letter.Until, I n3, I p1x0.Tries, I n4]), (b2, .cells [.str [], .str [], .str [], I (0 : Int), I (0 : Int), I (0 : Int), I (0 : Int), I (0 : Int), I (0 : Int)])]⟩) ?_ ?_
  · refine ATodo.block <| ATodo.loopI (fun x : Int × Int => command_Office_grown_b1 p0x0 p1x0 p2x0 x.1 x.2) (fun x σ' => σ' = ⟨39, [(0, .ptr b_0 0), (2, I p2x0), (4, .ptr b1 0), (6, .ptr b2 0)], [(b_0, .cells [I p0x0.post_.Room, I p0x0.post_.Timeout, I p0x0.post_.Tries, I p0x0.post_.Kept, .mref b_0x4, I p0x0.time_]), (b1, .cells [.str p1x0.Letter.Id, .str p1x0.Letter.Slot, .str p1x0.Letter.Body, I p1x0.Letter.Prio, I p1x0.Letter.At, I p1x0.Letter.Until, I x.1, I p1x0.Tries, I x.2]), (b2, .cells [.str [], .str [], .str [], I (0 : Int), I (0 : Int), I (0 : Int), I (0 : Int), I (0 : Int), I (0 : Int)])]⟩) h ?_ ?_
    · exact ImpX.lq [2, 1, 0] rfl rfl rfl
    · intro x z1 σ' J1 hmk h hJ1 hA1
      obtain ⟨n7, n8⟩ := x
      obtain rfl := hmk
      replace h : command_Office_grown_b1 p0x0 p1x0 p2x0 n7 n8 = some z1 := h
      unfold command_Office_grown_b1 at h
      refine tS <| tSR <| rF rfl rfl rfl <| rL rfl rfl .p1 rfl rfl <| r_callp rfl (command_ended_c rfl) (CoL.refl _) rfl <| ARun.qv (q_not rfl) rfl <| rN <| ATodo.cond rfl (fun hc => ?_) (fun hc => ?_)
      · refine have h := iteT hc h; tK <| ATodo.block <| tSR <| rM rfl rfl <| ARun.qv (q_load_ptr_all rfl rfl .p1 rfl) rfl <| t_call0 rfl (command_Office_turn_c (rfl : command_Office_turn p0x0 (⟨p1x0.Letter, n7, p1x0.Tries, n8⟩ : Note) = _)) (CoL.refl _) (.cons .p0 .nil) rfl rfl <| rA rfl rfl <| rN <| tS <| tSR <| rM rfl rfl <| rM rfl rfl <| ARun.qv (q_gtr rfl rfl) rfl <| rN <| ATodo.cond_d rfl (fun hc => ?_) (fun hc => ?_)
        · exact have h := iteT hc h; ATodo.exit rfl <| have h := outL h hA1; ATodo.stop <| ImpX.lq [0, 0, 0] ⟨n7, n8, h, rfl⟩ rfl rfl
        · refine have h := iteF hc h; tK <| tSR <| rM rfl rfl <| rF rfl rfl rfl <| n_store_ptr rfl rfl rfl rfl .p1 rfl rfl <| rN <| ATodo.block <| tSR <| rM rfl rfl <| rF rfl rfl rfl <| rF rfl rfl rfl <| rL rfl rfl .p1 rfl rfl <| ARun.qv (q_eql rfl rfl) rfl <| rA rfl rfl <| rN <| ATodo.cut (fun σ' => ∃ (n9 : Int), command_Office_grown_j2 p0x0 p1x0 n7 n8 n9 = some z1 ∧ σ' = ⟨39, [(0, .ptr b_0 0), (2, I p2x0), (4, .ptr b1 0), (6, .ptr b2 0)], [(b_0, .cells [I p0x0.post_.Room, I p0x0.post_.Timeout, I p0x0.post_.Tries, I p0x0.post_.Kept, .mref b_0x4, I p0x0.time_]), (b1, .cells [.str p1x0.Letter.Id, .str p1x0.Letter.Slot, .str p1x0.Letter.Body, I p1x0.Letter.Prio, I p1x0.Letter.At, I p1x0.Letter.Until, I n9, I p1x0.Tries, I (command_Office_turn p0x0 (⟨p1x0.Letter, n7, p1x0.Tries, n8⟩ : Note))]), (b2, .cells [.str [], .str [], .str [], I (0 : Int), I (0 : Int), I (0 : Int), I (0 : Int), I (0 : Int), I (0 : Int)])]⟩) ?_ ?_
          · refine ATodo.cond_d rfl (fun hc => ?_) (fun hc => ?_)
            · exact have h := iteT hc h; tR <| rF rfl rfl rfl <| n_store_ptr rfl rfl rfl rfl .p1 rfl rfl <| rN <| ATodo.stop <| ImpX.lq [0, 0, 0] ⟨(5 : Int), h, rfl⟩ rfl rfl
            · refine have h := iteF hc h; tS <| ATodo.regionM (id := 8) (A := [0, 1, 0, 4, 12, 28, 60, 127, 255]) 9 mixed rfl (by kernel_rfl) (by kernel_rfl) <| AM.qv (n_field_ptr rfl rfl) rfl <| AM.qv (q_load_ptr rfl rfl .p1 rfl) rfl <| AM.qv (q_move rfl) rfl <| AM.qv (q_nilCheck_ptr rfl) rfl <| AM.qv (n_field_ptr rfl rfl) rfl <| AM.qv (n_field_ptr rfl rfl) rfl <| AM.qv (q_load_ptr rfl rfl .p0 rfl) rfl <| AM.qv (q_eql rfl rfl) rfl <| AM.qv (q_assign rfl) rfl <| AM.nil <| rN <| ATodo.cut (fun σ' => ∃ (n10 : Int), command_Office_grown_j3 p0x0 p1x0 n7 n8 n10 = some z1 ∧ σ' = ⟨39, [(0, .ptr b_0 0), (2, I p2x0), (4, .ptr b1 0), (6, .ptr b2 0)], [(b_0, .cells [I p0x0.post_.Room, I p0x0.post_.Timeout, I p0x0.post_.Tries, I p0x0.post_.Kept, .mref b_0x4, I p0x0.time_]), (b1, .cells [.str p1x0.Letter.Id, .str p1x0.Letter.Slot, .str p1x0.Letter.Body, I p1x0.Letter.Prio, I p1x0.Letter.At, I p1x0.Letter.Until, I n10, I p1x0.Tries, I (command_Office_turn p0x0 (⟨p1x0.Letter, n7, p1x0.Tries, n8⟩ : Note))]), (b2, .cells [.str [], .str [], .str [], I (0 : Int), I (0 : Int), I (0 : Int), I (0 : Int), I (0 : Int), I (0 : Int)])]⟩) ?_ ?_
              · refine ATodo.cond_d rfl (fun hc => ?_) (fun hc => ?_)
                · exact have h := iteT hc h; tR <| rF rfl rfl rfl <| n_store_ptr rfl rfl rfl rfl .p1 rfl rfl <| rN <| ATodo.stop <| ImpX.lq [0, 0, 0] ⟨(7 : Int), h, rfl⟩ rfl rfl
                · exact have h := iteF hc h; tR <| rF rfl rfl rfl <| n_store_ptr rfl rfl rfl rfl .p1 rfl rfl <| rN <| ATodo.stop <| ImpX.lq [0, 0, 0] ⟨(1 : Int), h, rfl⟩ rfl rfl
              · rintro σ' ⟨n10, h, rfl⟩
                unfold command_Office_grown_j3 at h
                exact ATodo.stop <| ImpX.lq [0, 0, 0] ⟨n10, h, rfl⟩ rfl rfl
          · rintro σ' ⟨n9, h, rfl⟩
            unfold command_Office_grown_j2 at h
            refine ATodo.blk <| ATodo.blk <| ATodo.stop <| ?_
            obtain rfl := Option.some.inj h
            exact hJ1 _ _ rfl <| ImpX.lq [0, 0, 0] rfl rfl rfl
      · exact have h := iteFb hc h; ATodo.exit rfl <| have h := outL h hA1; ATodo.stop <| ImpX.lq [0, 0, 0] ⟨n7, n8, h, rfl⟩ rfl rfl
  · rintro σ' ⟨n3, n4, h, rfl⟩
    unfold command_Office_grown_j1 at h
    refine tSR <| ARun.qv (q_load_ptr_all rfl rfl .p1 rfl) rfl <| n_store_ptr rfl rfl rfl rfl .p2 rfl rfl <| rN <| ATodo.ret <| ?_
    obtain rfl := Option.some.inj h
    exact ImpX.here ⟨_, .cons (.all _ _ _ _ _ _ rfl .p2 TUnder.h TInfo.h rfl rfl) .nil, _, .cons .p0 .nil, ⟨rfl, rfl⟩⟩

set_option maxHeartbeats 4000000 in
theorem cmp_isNaN_int_c [GI : GTab] {p0x0 : Int} {r : Bool} (h : cmp_isNaN_int p0x0 = r) : Pu Tryz.prog 117 [I p0x0] (.bool r) := by
  unfold cmp_isNaN_int at h
  refine ACall.bodyN Tryz.func117 rfl Tryz.ntmps117 Tryz.results117 rfl rfl ?_
  refine tSR <| rA rfl rfl <| rN <| tSR <| rM rfl rfl <| rM rfl rfl <| ARun.qv (q_neq rfl rfl) rfl <| rA rfl rfl <| rN <| ATodo.ret <| ?_
  obtain rfl := h
  exact ImpX.here ⟨_, .cons (.tmp _ _ rfl) .nil, rfl⟩

set_option maxHeartbeats 4000000 in
theorem cmp_Compare_int_c [GI : GTab] {p0x0 : Int} {p1x0 : Int} {r : Int} (h : cmp_Compare_int p0x0 p1x0 = r) : Pu Tryz.prog 100 [I p0x0, I p1x0] (I r) := by
  unfold cmp_Compare_int at h
  refine ACall.bodyN Tryz.func100 rfl Tryz.ntmps100 Tryz.results100 rfl rfl ?_
  refine tSR <| rA rfl rfl <| rN <| tSR <| rM rfl rfl <| r_callp rfl (cmp_isNaN_int_c rfl) (CoL.refl _) rfl <| rA rfl rfl <| rN <| tSR <| rM rfl rfl <| r_callp rfl (cmp_isNaN_int_c rfl) (CoL.refl _) rfl <| rA rfl rfl <| rN <| tS <| tSR <| rM rfl rfl <| rN <| ATodo.cond rfl (fun hc => ?_) (fun hc => ?_)
  · refine have h := iteT hc h; tS <| tSR <| rM rfl rfl <| rN <| ATodo.cond rfl (fun hc => ?_) (fun hc => ?_)
    · refine have h := iteT hc h; tSR <| rA rfl rfl <| rN <| ATodo.ret <| ?_
      obtain rfl := h
      exact ImpX.here ⟨_, .cons (.tmp _ _ rfl) .nil, rfl⟩
    · refine have h := iteFb hc h; tK <| tSR <| rA rfl rfl <| rN <| ATodo.ret <| ?_
      obtain rfl := h
      exact ImpX.here ⟨_, .cons (.tmp _ _ rfl) .nil, rfl⟩
  · refine have h := iteFb hc h; tK <| tS <| tSR <| rM rfl rfl <| rN <| ATodo.cond rfl (fun hc => ?_) (fun hc => ?_)
    · refine have h := iteT hc h; tSR <| rA rfl rfl <| rN <| ATodo.ret <| ?_
      obtain rfl := h
      exact ImpX.here ⟨_, .cons (.tmp _ _ rfl) .nil, rfl⟩
    · refine have h := iteFb hc h; tK <| tS <| tSR <| rM rfl rfl <| rM rfl rfl <| ARun.qv (q_lss rfl rfl) rfl <| rN <| ATodo.cond_d rfl (fun hc => ?_) (fun hc => ?_)
      · refine have h := iteT hc h; tSR <| rA rfl rfl <| rN <| ATodo.ret <| ?_
        obtain rfl := h
        exact ImpX.here ⟨_, .cons (.tmp _ _ rfl) .nil, rfl⟩
      · refine have h := iteF hc h; tK <| tS <| tSR <| rM rfl rfl <| rM rfl rfl <| ARun.qv (q_gtr rfl rfl) rfl <| rN <| ATodo.cond_d rfl (fun hc => ?_) (fun hc => ?_)
        · refine have h := iteT hc h; tSR <| rA rfl rfl <| rN <| ATodo.ret <| ?_
          obtain rfl := h
          exact ImpX.here ⟨_, .cons (.tmp _ _ rfl) .nil, rfl⟩
        · refine have h := iteF hc h; tK <| tSR <| rA rfl rfl <| rN <| ATodo.ret <| ?_
          obtain rfl := h
          exact ImpX.here ⟨_, .cons (.tmp _ _ rfl) .nil, rfl⟩

set_option maxHeartbeats 4000000 in
theorem cmp_Or_int_c [GI : GTab] {p0x0 : List Int} {r : Int} (h : cmp_Or_int p0x0 = some r) : Pu Tryz.prog 99 [.list 1 (p0x0.map I)] (I r) := by
  unfold cmp_Or_int at h
  refine ACall.bodyN Tryz.func99 rfl Tryz.ntmps99 Tryz.results99 rfl rfl ?_
  refine tSR <| rA rfl rfl <| rN <| tSR <| rA rfl rfl <| rN <| tS <| tSR <| rM rfl rfl <| ARun.qv (t_len rfl) rfl <| rM rfl rfl <| rN <| ATodo.block <| ATodo.loopI (fun x : Int => cmp_Or_int_b1 p0x0 x) (fun x σ' => σ' = ⟨18, [(3, I (0 : Int)), (6, .list 1 (p0x0.map I)), (7, I (p0x0.length : Int)), (8, I x)], []⟩) h ?_ ?_
  · exact ImpX.lq [] rfl rfl rfl
  · intro n2 z1 σ' J1 hmk h hJ1 hA1
    obtain rfl := hmk
    replace h : cmp_Or_int_b1 p0x0 n2 = some z1 := h
    unfold cmp_Or_int_b1 at h
    refine tSR <| ARun.qv (q_lss rfl rfl) rfl <| rN <| tS <| ATodo.cond_d rfl (fun hc => ?_) (fun hc => ?_)
    · refine have h := iteT hc h; tK <| tS <| ATodo.block <| tSR <| bndE h fun v3 e1 h => ARun.qv (t_index rfl rfl rfl e1 rfl rfl) rfl <| ARun.qv (q_load_rptr rfl rfl rfl) rfl <| rA rfl rfl <| rN <| tSR <| rM rfl rfl <| rM rfl rfl <| ARun.qv (q_neq rfl rfl) rfl <| rN <| ATodo.cond_d rfl (fun hc => ?_) (fun hc => ?_)
      · refine have h := iteT hc h; tSR <| rM rfl rfl <| rA rfl rfl <| rN <| ATodo.ret <| have h := outL h hA1; ?_
        obtain rfl := Option.some.inj h
        exact ImpX.here ⟨_, .cons (.tmp _ _ rfl) .nil, rfl⟩
      · refine have h := iteF hc h; tK <| ATodo.blk <| tR <| ARun.qv (q_addw rfl rfl) rfl <| rM rfl rfl <| rN <| ATodo.stop <| ?_
        obtain rfl := Option.some.inj h
        exact hJ1 _ _ rfl <| ImpX.lq [] rfl rfl rfl
    · refine have h := iteF hc h; ATodo.exit rfl <| have h := outL h hA1; tSR <| rM rfl rfl <| rA rfl rfl <| rN <| ATodo.ret <| ?_
      obtain rfl := Option.some.inj h
      exact ImpX.here ⟨_, .cons (.tmp _ _ rfl) .nil, rfl⟩

set_option maxHeartbeats 4000000 in
theorem command_Office_aged_1x_c [GI : GTab] {p0x0 : Note} {p1x0 : Note} {r : Int} (h : command_Office_aged_1x p0x0 p1x0 = some r) : Pu Tryz.prog 98 [.agg [.str p0x0.Letter.Id, .str p0x0.Letter.Slot, .str p0x0.Letter.Body, I p0x0.Letter.Prio, I p0x0.Letter.At, I p0x0.Letter.Until, I p0x0.State, I p0x0.Tries, I p0x0.Since], .agg [.str p1x0.Letter.Id, .str p1x0.Letter.Slot, .str p1x0.Letter.Body, I p1x0.Letter.Prio, I p1x0.Letter.At, I p1x0.Letter.Until, I p1x0.State, I p1x0.Tries, I p1x0.Since]] (I r) := by
  unfold command_Office_aged_1x at h
  refine ACall.bodyN Tryz.func98 rfl Tryz.ntmps98 Tryz.results98 rfl rfl ?_
  refine tSR <| n_box rfl rfl rfl rfl fun b1 => n_box rfl rfl rfl rfl fun b2 => rA rfl rfl <| rN <| tS <| ATodo.regionM (id := 1) (A := [0, 1, 0, 4, 15, 0, 32, 96, 0, 256, 768, 2047, 4095, 8191, 16383]) 15 mixed rfl (by kernel_rfl) (by kernel_rfl) <| AM.qv (n_field_ptr rfl rfl) rfl <| AM.qv (q_load_ptr rfl rfl .p1 rfl) rfl <| AM.qv (n_field_ptr rfl rfl) rfl <| AM.qv (q_load_ptr rfl rfl .p0 rfl) rfl <| AM.callp rfl (cmp_Compare_int_c rfl) (CoL.refl _) rfl <| AM.qv (n_field_ptr rfl rfl) rfl <| AM.qv (n_field_ptr rfl rfl) rfl <| AM.qv (q_load_ptr rfl rfl .p1 rfl) rfl <| AM.qv (n_field_ptr rfl rfl) rfl <| AM.qv (n_field_ptr rfl rfl) rfl <| AM.qv (q_load_ptr rfl rfl .p0 rfl) rfl <| AM.callp rfl (strings_Compare_c rfl) (CoL.refl _) rfl <| AM.buildSliceL (xs := ([(cmp_Compare_int p0x0.Since p1x0.Since), (Lib.compareBytes p0x0.Letter.Id p1x0.Letter.Id)] : List Int).map I) rfl rfl rfl rfl rfl rfl <| bndE h fun v3 e1 h => AM.callp rfl (cmp_Or_int_c e1) (CoL.refl _) rfl <| AM.qv (q_assign rfl) rfl <| AM.nil <| rN <| ATodo.ret <| ?_
  obtain rfl := Option.some.inj h
  exact ImpX.here ⟨_, .cons (.tmp _ _ rfl) .nil, rfl⟩

set_option maxHeartbeats 4000000 in
theorem slices_SortFunc_Note_Note_k : SortK Tryz.prog 63 9 := ⟨fun enc hk h1 cf hO g cb blk off cap d w eg hc hH hb hs => AnyQ.slices_SortFunc_eq Tryz.sortF63 9 Tryz.isAgg65 Tryz.sizeOf65 enc hk h1 cf hO g cb blk off cap d w eg hc hH hb hs, fun p cap fv w => AnyF.slices_SortFunc_none Tryz.sortF63 p cap fv w⟩
theorem slices_SortFunc_Note_Note_c [GI : GTab] {b_0 : Bk} {p0x0 : List Note} {fnb : Note → Note → Option Int} {fnb_F : FuncId} [IsFn Tryz.prog fnb_F] {fnb_C : List AV} (fnb_h : ∀ {y0 y1 : _} {u : Int}, fnb y0 y1 = some u → @Pu strongT Tryz.prog fnb_F (Note.av y0 :: Note.av y1 :: fnb_C) (I u)) {r : (List Note)} (h : slices_SortFunc_Note_Note p0x0 fnb = some r) : ACall Tryz.prog 63 [.sl 9 b_0 0 p0x0.length, .func (.func fnb_F) fnb_C] [(b_0, .arr 9 (p0x0.map Note.av))] (T0 [(b_0, .arr 9 (r.map Note.av))] (.tup [])) :=
  sort_acall (fn := fnb) slices_SortFunc_Note_Note_k rfl @fnb_h (fun _ => rfl) h

set_option maxHeartbeats 4000000 in
theorem command_Office_aged_c [GI : GTab] {b_0 : Bk} {b_0x4 : Bk} {p0x0 : Command_Office} {p1x0 : Int} {r : (List (Str × Note))} (h : command_Office_aged p0x0 p1x0 = some r) : ACall Tryz.prog 62 [.ptr b_0 0, I p1x0] [(b_0, .cells [I p0x0.post_.Room, I p0x0.post_.Timeout, I p0x0.post_.Tries, I p0x0.post_.Kept, .mref b_0x4, I p0x0.time_]), (b_0x4, .mp (p0x0.notes_.map (fun e => (AV.str e.1, Note.av e.2))))] (T1 (fun d_0 => [(b_0, .cells [I p0x0.post_.Room, I p0x0.post_.Timeout, I p0x0.post_.Tries, I p0x0.post_.Kept, .mref b_0x4, I p0x0.time_]), (b_0x4, .mp (p0x0.notes_.map (fun e => (AV.str e.1, Note.av e.2)))), (d_0, .mp (r.map (fun e => (AV.str e.1, Note.av e.2))))]) (fun d_0 => .mref d_0)) := by
  unfold command_Office_aged at h
  refine ACall.lessH ?_
  refine ACall.bodyN Tryz.func62 rfl Tryz.ntmps62 Tryz.results62 rfl rfl ?_
  refine tSR <| rA rfl rfl <| rN <| tSR <| t_makeMap rfl fun b1 => rA rfl rfl <| rN <| tSR <| rA rfl rfl <| rN <| tS <| tSR <| rM rfl rfl <| ARun.qv (q_nilCheck_ptr rfl) rfl <| rF rfl rfl rfl <| rL rfl rfl .p1 rfl rfl <| t_range (M := p0x0.notes_) (enc := (fun e => (AV.str e.1, Note.av e.2))) rfl (fun _ _ => .p2) rfl fun b2 Le1 ce1 hLe1 hIe1 => rN <| ATodo.block <| ATodo.loopMap (fun e (x : (List (Str × Note)) × (List Note)) => command_Office_aged_b1 p0x0 p1x0 e x.1 x.2) (fun x : (List (Str × Note)) × (List Note) => command_Office_aged_f1 p0x0 x.1 x.2) (fun R x σ' => ∃ (b7 : Bk) (s1m : List Nat), MIter Le1 ce1 s1m (R.map (fun e => (AV.str e.1, Note.av e.2))) ∧ σ' = ⟨60, [(0, .ptr b_0 0), (1, I p1x0), (5, .mref b1), (6, .sl 9 b7 0 x.2.length), (16, .ptr b2 0)], [(b_0, .cells [I p0x0.post_.Room, I p0x0.post_.Timeout, I p0x0.post_.Tries, I p0x0.post_.Kept, .mref b_0x4, I p0x0.time_]), (b_0x4, .mpb Le1 ce1), (b2, .mit b_0x4 ce1 s1m), (b1, .mp (x.1.map (fun e => (AV.str e.1, Note.av e.2)))), (b7, .arr 9 (x.2.map Note.av))]⟩) h ?_ ?_
  · exact ImpX.arr (s := 6) 9 rfl fun b9 => ImpX.lq [3, 3, 1, 1, 0] ⟨b9, [], hIe1, rfl⟩ rfl rfl
  · intro R1 x σ' J1 hmk hH1 hK1
    obtain ⟨l6, l8⟩ := x
    obtain ⟨b7, s1m, hI1m, rfl⟩ := hmk
    refine tSR <| t_next rfl hI1m .p1 (fun _ => .p2) rfl (fun hN => ?_) (fun v1m R' sv1m hP hlen hIv1m hCv1m => ?_)
    · have h := nilL hH1 hN
      replace h : command_Office_aged_f1 p0x0 l6 l8 = _ := h
      unfold command_Office_aged_f1 at h
      refine ARun.ghost <| ImpX.mpDone hLe1 .p1 <| ImpX.here <| rX rfl rfl rfl <| rN <| tS <| ATodo.cond_f rfl <| ATodo.exit rfl <| tSR <| rM rfl rfl <| bndE h fun v10 e2 h => t_call0 rfl (slices_SortFunc_Note_Note_c (fun e => command_Office_aged_1x_c (GI := strongT) e) (lenOk_f e2)) (CoL.refl _) (.cons .p4 .nil) rfl rfl <| ARun.ghost <| ImpX.eqs (s := 6) (av' := .sl 9 b7 0 v10.length) rfl (congrArg (AV.sl 9 b7 0) (lenOk_l e2)) <| ImpX.here <| ARun.ghost <| ImpX.eqs (s := 36) (av' := .sl 9 b7 0 v10.length) rfl (congrArg (AV.sl 9 b7 0) (lenOk_l e2)) <| ImpX.here <| rN <| tS <| tSR <| rM rfl rfl <| rM rfl rfl <| ARun.qv (t_len_sl rfl) rfl <| rM rfl rfl <| ARun.qv (q_nilCheck_ptr rfl) rfl <| rF rfl rfl rfl <| rF rfl rfl rfl <| rL rfl rfl .p1 rfl rfl <| ARun.qv (q_subw rfl rfl) rfl <| ARun.qv (q_max rfl rfl) rfl <| bndE h fun l11 e3 h => ARun.qv (t_slice_sl rfl rfl .none (.some _ _ _ rfl) rfl rfl e3) rfl <| ARun.qv (t_len_sub rfl) rfl <| rM rfl rfl <| rN <| ATodo.block <| ATodo.loopI (fun x : (List (Str × Note)) × Int => command_Office_aged_b2 v10 l11 x.1 x.2) (fun x σ' => σ' = ⟨60, [(5, .mref b1), (48, .sl 9 b7 0 l11.length), (49, I (l11.length : Int)), (50, I x.2)], [(b_0, .cells [I p0x0.post_.Room, I p0x0.post_.Timeout, I p0x0.post_.Tries, I p0x0.post_.Kept, .mref b_0x4, I p0x0.time_]), (b_0x4, .mp (p0x0.notes_.map (fun e => (AV.str e.1, Note.av e.2)))), (b1, .mp (x.1.map (fun e => (AV.str e.1, Note.av e.2)))), (b7, .arr 9 (v10.map Note.av))]⟩) h ?_ ?_
      · exact ImpX.lq [1, 1, 2, 0] rfl rfl rfl
      · intro x z2 σ' J2 hmk h hJ2 hA2
        obtain ⟨l14, n15⟩ := x
        obtain rfl := hmk
        replace h : command_Office_aged_b2 v10 l11 l14 n15 = some z2 := h
        unfold command_Office_aged_b2 at h
        refine tSR <| ARun.qv (q_lss rfl rfl) rfl <| rN <| tS <| ATodo.cond_d rfl (fun hc => ?_) (fun hc => ?_)
        · refine have h := iteT hc h; tK <| tS <| ATodo.block <| tSR <| bndE h fun v16 e4 h => ARun.qv (t_index_sub (L := (0 : Int)) rfl rfl rfl e4) rfl <| ARun.qv (t_load_aptr_agg (g := Note.av) rfl rfl (.inl .p3) rfl (idxS_some e4).2 rfl) rfl <| n_alloc rfl rfl rfl rfl fun b17 => n_store_ptr rfl rfl rfl rfl .p0 rfl rfl <| rN <| tR <| rM rfl rfl <| rF rfl rfl rfl <| rF rfl rfl rfl <| rL rfl rfl .p0 rfl rfl <| t_delete (gk := AV.str) (gv := Note.av) (M := l14) (key := v16.Letter.Id) rfl rfl .p3 <| rN <| ATodo.blk <| tR <| ARun.qv (q_addw rfl rfl) rfl <| rM rfl rfl <| rN <| ATodo.stop <| ?_
          obtain rfl := Option.some.inj h
          exact hJ2 _ _ rfl <| ImpX.lq [1, 1, 1, 1] rfl rfl rfl
        · refine have h := iteF hc h; ATodo.exit rfl <| have h := outL h hA2; tSR <| rM rfl rfl <| rA rfl rfl <| rN <| ATodo.ret <| ?_
          obtain rfl := Option.some.inj h
          exact ImpX.here ⟨_, .cons (.tmp _ _ rfl) .nil, _, .cons .p0 (.cons .p0 (.cons .p0 .nil)), ⟨b1, rfl, rfl⟩⟩
    · obtain ⟨z1, h, hN1, hA1⟩ := stepL hH1 hP
      replace h : command_Office_aged_b1 p0x0 p1x0 v1m l6 l8 = some z1 := h
      unfold command_Office_aged_b1 at h
      have hJ1 := fun y σ' (e : z1 = .inl y) hi => hK1 R' y σ' hlen (hN1 y e) hi
      clear hN1 hP hK1 hH1
      refine rX rfl rfl rfl <| rN <| tS <| ATodo.cond_t rfl <| tK <| ATodo.block <| tSR <| ARun.qv (t_entry rfl .p2 .p1 hCv1m rfl rfl) rfl <| rX rfl rfl rfl <| rX rfl rfl rfl <| n_alloc rfl rfl rfl rfl fun b18 => rA rfl rfl <| n_store_ptr rfl rfl rfl rfl .p0 rfl rfl <| rN <| tSR <| rM rfl rfl <| ARun.qv (q_load_ptr_all rfl rfl .p0 rfl) rfl <| rM rfl rfl <| bndE h fun v19 e5 h => t_call0 rfl (command_Office_grown_c e5) (CoL.refl _) (.cons .p1 .nil) rfl rfl <| n_store_ptr rfl rfl rfl rfl .p1 rfl rfl <| rN <| tSR <| rM rfl rfl <| rM rfl rfl <| ARun.qv (q_load_ptr_all rfl rfl .p1 rfl) rfl <| t_mapUpdate (gk := AV.str) (gv := Note.av) (M := l6) (key := v1m.1) (v := v19) rfl rfl rfl rfl .p4 <| rN <| tSR <| rF rfl rfl rfl <| rL rfl rfl .p1 rfl rfl <| r_callp rfl (command_ended_c rfl) (CoL.refl _) rfl <| rN <| ATodo.cut (fun σ' => ∃ (b20 : Bk) (l21 : List Note), command_Office_aged_j1 l6 v1m v19 l21 = some z1 ∧ σ' = ⟨60, [(0, .ptr b_0 0), (1, I p1x0), (5, .mref b1), (6, .sl 9 b20 0 l21.length), (16, .ptr b2 0)], [(b_0, .cells [I p0x0.post_.Room, I p0x0.post_.Timeout, I p0x0.post_.Tries, I p0x0.post_.Kept, .mref b_0x4, I p0x0.time_]), (b_0x4, .mpb Le1 ce1), (b1, .mp ((mset l6 v1m.1 v19).map (fun e => (AV.str e.1, Note.av e.2)))), (b20, .arr 9 (l21.map Note.av)), (b2, .mit b_0x4 ce1 sv1m)]⟩) ?_ ?_
      · refine ATodo.cond rfl (fun hc => ?_) (fun hc => ?_)
        · exact have h := iteT hc h; tR <| rM rfl rfl <| ARun.qv (q_load_ptr_all rfl rfl .p1 rfl) rfl <| n_buildSliceL (xs := ([v19] : List Note).map Note.av) rfl rfl rfl rfl rfl rfl <| bndE h fun l22 e6 h => t_append (g := Note.av) rfl rfl rfl rfl rfl rfl rfl rfl (.list _) e6 (fun _ => .p5) rfl fun b23 => rA rfl rfl <| rN <| ATodo.stop <| ImpX.lq [0, 1, 2, 2, 1] ⟨b23, l22, h, rfl⟩ rfl rfl
        · exact have h := iteFb hc h; tK <| ATodo.stop <| ImpX.lq [0, 1, 2, 2, 1] ⟨b7, l8, h, rfl⟩ rfl rfl
      · rintro σ' ⟨b20, l21, h, rfl⟩
        unfold command_Office_aged_j1 at h
        refine ATodo.blk <| ATodo.stop <| ?_
        obtain rfl := Option.some.inj h
        exact hJ1 _ _ rfl <| ImpX.lq [0, 0, 2, 0, 0] ⟨b20, sv1m, hIv1m, rfl⟩ rfl rfl

set_option maxHeartbeats 4000000 in
theorem command_pending_c [GI : GTab] {b_0 : Bk} {p0x0 : List (Str × Note)} {r : Int} (h : command_pending p0x0 = some r) : ACall Tryz.prog 70 [.mref b_0] [(b_0, .mp (p0x0.map (fun e => (AV.str e.1, Note.av e.2))))] (T0 ([(b_0, .mp (p0x0.map (fun e => (AV.str e.1, Note.av e.2))))]) (I r)) := by
  unfold command_pending at h
  refine ACall.lessH ?_
  refine ACall.bodyN Tryz.func70 rfl Tryz.ntmps70 Tryz.results70 rfl rfl ?_
  refine tSR <| rA rfl rfl <| rN <| tSR <| rA rfl rfl <| rN <| tS <| tSR <| rM rfl rfl <| t_range (M := p0x0) (enc := (fun e => (AV.str e.1, Note.av e.2))) rfl (fun _ _ => .p0) rfl fun b1 Le1 ce1 hLe1 hIe1 => rN <| ATodo.block <| ATodo.loopMap (fun e (x : Int) => command_pending_b1 e x) (fun x : Int => command_pending_f1 x) (fun R x σ' => ∃ (s1m : List Nat), MIter Le1 ce1 s1m (R.map (fun e => (AV.str e.1, Note.av e.2))) ∧ σ' = ⟨19, [(3, I x), (7, .ptr b1 0)], [(b_0, .mpb Le1 ce1), (b1, .mit b_0 ce1 s1m)]⟩) h ?_ ?_
  · exact ImpX.lq [1, 0] ⟨[], hIe1, rfl⟩ rfl rfl
  · intro R1 n3 σ' J1 hmk hH1 hK1
    obtain ⟨s1m, hI1m, rfl⟩ := hmk
    refine tSR <| t_next rfl hI1m .p0 (fun _ => .p1) rfl (fun hN => ?_) (fun v1m R' sv1m hP hlen hIv1m hCv1m => ?_)
    · have h := nilL hH1 hN
      replace h : command_pending_f1 n3 = _ := h
      unfold command_pending_f1 at h
      refine ARun.ghost <| ImpX.mpDone hLe1 .p0 <| ImpX.here <| rX rfl rfl rfl <| rN <| tS <| ATodo.cond_f rfl <| ATodo.exit rfl <| tSR <| rM rfl rfl <| rA rfl rfl <| rN <| ATodo.ret <| ?_
      obtain rfl := Option.some.inj h
      exact ImpX.here ⟨_, .cons (.tmp _ _ rfl) .nil, _, .cons .p0 .nil, ⟨rfl, rfl⟩⟩
    · obtain ⟨z1, h, hN1, hA1⟩ := stepL hH1 hP
      replace h : command_pending_b1 v1m n3 = some z1 := h
      unfold command_pending_b1 at h
      have hJ1 := fun y σ' (e : z1 = .inl y) hi => hK1 R' y σ' hlen (hN1 y e) hi
      clear hN1 hP hK1 hH1
      refine rX rfl rfl rfl <| rN <| tS <| ATodo.cond_t rfl <| tK <| ATodo.block <| tSR <| ARun.qv (t_entry rfl .p1 .p0 hCv1m rfl rfl) rfl <| rX rfl rfl rfl <| n_alloc rfl rfl rfl rfl fun b4 => n_store_ptr rfl rfl rfl rfl .p0 rfl rfl <| rN <| tSR <| rF rfl rfl rfl <| rL rfl rfl .p0 rfl rfl <| r_callp rfl (command_ended_c rfl) (CoL.refl _) rfl <| ARun.qv (q_not rfl) rfl <| rN <| ATodo.cut (fun σ' => ∃ (n5 : Int), command_pending_j1 n5 = some z1 ∧ σ' = ⟨19, [(3, I n5), (7, .ptr b1 0)], [(b_0, .mpb Le1 ce1), (b1, .mit b_0 ce1 sv1m)]⟩) ?_ ?_
      · refine ATodo.cond rfl (fun hc => ?_) (fun hc => ?_)
        · exact have h := iteT hc h; tR <| rM rfl rfl <| ARun.qv (q_addw rfl rfl) rfl <| rA rfl rfl <| rN <| ATodo.stop <| ImpX.lq [1, 1] ⟨w64 (n3 + (1 : Int)), h, rfl⟩ rfl rfl
        · exact have h := iteFb hc h; tK <| ATodo.stop <| ImpX.lq [1, 1] ⟨n3, h, rfl⟩ rfl rfl
      · rintro σ' ⟨n5, h, rfl⟩
        unfold command_pending_j1 at h
        refine ATodo.blk <| ATodo.stop <| ?_
        obtain rfl := Option.some.inj h
        exact hJ1 _ _ rfl <| ImpX.lq [0, 0] ⟨sv1m, hIv1m, rfl⟩ rfl rfl

set_option maxHeartbeats 4000000 in
theorem command_Office_keep_c [GI : GTab] {b_0 : Bk} {b_0x4 : Bk} {b_1 : Bk} {p0x0 : Command_Office} {p1x0 : List (Str × Note)} {p2x0 : Int} {r : Command_Office} (h : command_Office_keep p0x0 p1x0 p2x0 = r) : ACall Tryz.prog 61 [.ptr b_0 0, .mref b_1, I p2x0] [(b_0, .cells [I p0x0.post_.Room, I p0x0.post_.Timeout, I p0x0.post_.Tries, I p0x0.post_.Kept, .mref b_0x4, I p0x0.time_]), (b_0x4, .mp (p0x0.notes_.map (fun e => (AV.str e.1, Note.av e.2)))), (b_1, .mp (p1x0.map (fun e => (AV.str e.1, Note.av e.2))))] (T1 (fun c_0x4 => [(b_0, .cells [I r.post_.Room, I r.post_.Timeout, I r.post_.Tries, I r.post_.Kept, .mref c_0x4, I r.time_]), (c_0x4, .mp (r.notes_.map (fun e => (AV.str e.1, Note.av e.2))))]) (fun c_0x4 => .tup [])) := by
  unfold command_Office_keep at h
  refine ACall.lessH ?_
  refine ACall.bodyN Tryz.func61 rfl Tryz.ntmps61 Tryz.results61 rfl rfl ?_
  refine tR <| rM rfl rfl <| rM rfl rfl <| rM rfl rfl <| rM rfl rfl <| ARun.qv (q_nilCheck_ptr rfl) rfl <| rF rfl rfl rfl <| n_store_ptr rfl rfl rfl rfl .p0 rfl rfl <| ARun.qv (q_nilCheck_ptr rfl) rfl <| rF rfl rfl rfl <| n_store_ptr rfl rfl rfl rfl .p0 rfl rfl <| rN <| ATodo.nil <| ?_
  obtain rfl := h
  exact ImpX.here ⟨_, .nil, _, .cons .p0 (.cons .p1 .nil), ⟨b_1, rfl, rfl⟩⟩

set_option maxHeartbeats 4000000 in
theorem command_Office_Put_c {b_0 : Bk} {b_0x4 : Bk} {p0x0 : Command_Office} {p1x0 : Letter} {r : Int × Command_Office} (h : command_Office_Put p0x0 p1x0 = some r) : ACall Tryz.prog 27 [.ptr b_0 0, .agg [.str p1x0.Id, .str p1x0.Slot, .str p1x0.Body, I p1x0.Prio, I p1x0.At, I p1x0.Until]] [(b_0, .cells [I p0x0.post_.Room, I p0x0.post_.Timeout, I p0x0.post_.Tries, I p0x0.post_.Kept, .mref b_0x4, I p0x0.time_]), (b_0x4, .mp (p0x0.notes_.map (fun e => (AV.str e.1, Note.av e.2))))] (T1 (fun c_0x4 => [(b_0, .cells [I r.2.post_.Room, I r.2.post_.Timeout, I r.2.post_.Tries, I r.2.post_.Kept, .mref c_0x4, I r.2.time_]), (c_0x4, .mp (r.2.notes_.map (fun e => (AV.str e.1, Note.av e.2))))]) (fun c_0x4 => I r.1)) := by
  unfold command_Office_Put at h
  refine ACall.lessH ?_
  refine ACall.bodyN Tryz.func27 rfl Tryz.ntmps27 Tryz.results27 rfl rfl ?_
  refine tSR <| n_box rfl rfl rfl rfl fun b1 => rA rfl rfl <| rN <| tS <| tS <| ATodo.regionM (id := 1) (A := [0, 1, 0, 0, 8, 31, 63, 127, 255]) 5 mixed rfl (by kernel_rfl) (by kernel_rfl) <| AM.qv (q_load_ptr_all rfl rfl .p0 rfl) rfl <| bndE h fun v2 e1 h => AM.callp rfl (command_CheckLetter_c e1) (CoL.refl _) rfl <| AM.qv (q_move rfl) rfl <| AM.qv (n_field_ptr rfl rfl) rfl <| AM.qv (q_load_ptr rfl rfl .p0 rfl) rfl <| AM.nil <| t_call0 rfl (command_Office_timeFault_c rfl) (CoL.refl _) (.cons .p1 .nil) rfl rfl <| n_buildSliceL (xs := ([v2, (command_Office_timeFault p0x0 p1x0.At)] : List Int).map I) rfl rfl rfl rfl rfl rfl <| bndE h fun v3 e2 h => r_callp rfl (base_First_c e2) (CoL.refl _) rfl <| rA rfl rfl <| rN <| tSR <| rM rfl rfl <| ARun.qv (q_neq rfl rfl) rfl <| rN <| ATodo.cond_d rfl (fun hc => ?_) (fun hc => ?_)
  · refine have h := iteT hc h; tSR <| rM rfl rfl <| rA rfl rfl <| rN <| ATodo.ret <| ?_
    obtain rfl := Option.some.inj h
    exact ImpX.here ⟨_, .cons (.tmp _ _ rfl) .nil, _, .cons .p0 (.cons .p1 .nil), ⟨b_0x4, rfl, rfl⟩⟩
  · refine have h := iteF hc h; tK <| tSR <| rM rfl rfl <| rF rfl rfl rfl <| rL rfl rfl .p1 rfl rfl <| bndE h fun v4 e3 h => t_call1 rfl (command_Office_aged_c e3) (CoL.refl _) (.cons .p0 (.cons .p1 .nil)) (fun _ => rfl) rfl fun b5 => rA rfl rfl <| rN <| tS <| tSR <| rM rfl rfl <| rF rfl rfl rfl <| rL rfl rfl .p3 rfl rfl <| bndE h fun v6 e4 h => ARun.qv (t_lookup2 (gk := AV.str) (gv := Note.av) (M := v4) (key := p1x0.Id) (Z := (⟨(⟨[], [], [], (0 : Int), (0 : Int), (0 : Int)⟩ : Letter), (0 : Int), (0 : Int), (0 : Int)⟩ : Note)) rfl rfl .p2 rfl rfl rfl e4 rfl) rfl <| rM rfl rfl <| rX rfl rfl rfl <| rX rfl rfl rfl <| n_alloc rfl rfl rfl rfl fun b7 => n_store_ptr rfl rfl rfl rfl .p0 rfl rfl <| rA rfl rfl <| rN <| tSR <| rM rfl rfl <| rN <| ATodo.cond rfl (fun hc => ?_) (fun hc => ?_)
    · refine have h := iteT hc h; tSR <| rA rfl rfl <| rN <| ATodo.ret <| ?_
      obtain rfl := Option.some.inj h
      exact ImpX.here ⟨_, .cons (.tmp _ _ rfl) .nil, _, .cons .p1 (.cons .p1 .nil), ⟨b_0x4, rfl, rfl⟩⟩
    · refine have h := iteFb hc h; tK <| tSR <| rA rfl rfl <| rN <| tS <| tSR <| rM rfl rfl <| t_range (M := v4) (enc := (fun e => (AV.str e.1, Note.av e.2))) rfl (fun _ _ => .p3) rfl fun b8 Le5 ce5 hLe5 hIe5 => rN <| ATodo.block <| ATodo.loopMap (fun e (x : Str) => command_Office_Put_b1 p1x0 e x) (fun x : Str => command_Office_Put_f1 p0x0 p1x0 v4 x) (fun R x σ' => ∃ (s1m : List Nat), MIter Le5 ce5 s1m (R.map (fun e => (AV.str e.1, Note.av e.2))) ∧ σ' = ⟨103, [(0, .ptr b_0 0), (3, .ptr b1 0), (6, .mref b5), (9, .str x), (38, .ptr b8 0)], [(b_0, .cells [I p0x0.post_.Room, I p0x0.post_.Timeout, I p0x0.post_.Tries, I p0x0.post_.Kept, .mref b_0x4, I p0x0.time_]), (b_0x4, .mp (p0x0.notes_.map (fun e => (AV.str e.1, Note.av e.2)))), (b8, .mit b5 ce5 s1m), (b5, .mpb Le5 ce5), (b1, .cells [.str p1x0.Id, .str p1x0.Slot, .str p1x0.Body, I p1x0.Prio, I p1x0.At, I p1x0.Until])]⟩) h ?_ ?_
      · exact ImpX.lq [2, 2, 0, 1, 1] ⟨[], hIe5, rfl⟩ rfl rfl
      · intro R1 q10 σ' J1 hmk hH1 hK1
        obtain ⟨s1m, hI1m, rfl⟩ := hmk
        refine tSR <| t_next rfl hI1m .p3 (fun _ => .p2) rfl (fun hN => ?_) (fun v1m R' sv1m hP hlen hIv1m hCv1m => ?_)
        · have h := nilL hH1 hN
          replace h : command_Office_Put_f1 p0x0 p1x0 v4 q10 = _ := h
          unfold command_Office_Put_f1 at h
          refine ARun.ghost <| ImpX.mpDone hLe5 .p3 <| ImpX.here <| rX rfl rfl rfl <| rN <| tS <| ATodo.cond_f rfl <| ATodo.exit rfl <| tSR <| rM rfl rfl <| ARun.qv (q_nilCheck_ptr rfl) rfl <| rF rfl rfl rfl <| rF rfl rfl rfl <| rL rfl rfl .p0 rfl rfl <| rA rfl rfl <| rN <| tS <| tSR <| rM rfl rfl <| ARun.qv (q_sne rfl rfl) rfl <| rN <| ATodo.cut (fun σ' => ∃ (n11 : Int), command_Office_Put_j1 p0x0 p1x0 v4 q10 n11 = some r ∧ σ' = ⟨103, [(0, .ptr b_0 0), (3, .ptr b1 0), (6, .mref b5), (9, .str q10), (12, I n11)], [(b_0, .cells [I p0x0.post_.Room, I p0x0.post_.Timeout, I p0x0.post_.Tries, I p0x0.post_.Kept, .mref b_0x4, I p0x0.time_]), (b_0x4, .mp (p0x0.notes_.map (fun e => (AV.str e.1, Note.av e.2)))), (b1, .cells [.str p1x0.Id, .str p1x0.Slot, .str p1x0.Body, I p1x0.Prio, I p1x0.At, I p1x0.Until]), (b5, .mp (v4.map (fun e => (AV.str e.1, Note.av e.2))))]⟩) ?_ ?_
          · refine ATodo.cond_d rfl (fun hc => ?_) (fun hc => ?_)
            · exact have h := iteT hc h; tR <| rM rfl rfl <| ARun.qv (q_addw rfl rfl) rfl <| rA rfl rfl <| rN <| ATodo.stop <| ImpX.lq [0, 0, 2, 1] ⟨w64 (p0x0.post_.Room + (1 : Int)), h, rfl⟩ rfl rfl
            · exact have h := iteF hc h; tK <| ATodo.stop <| ImpX.lq [0, 0, 2, 1] ⟨p0x0.post_.Room, h, rfl⟩ rfl rfl
          · rintro σ' ⟨n11, h, rfl⟩
            unfold command_Office_Put_j1 at h
            refine tS <| tSR <| rM rfl rfl <| bndE h fun v12 e6 h => t_call0 rfl (command_pending_c e6) (CoL.refl _) (.cons .p3 .nil) rfl rfl <| rM rfl rfl <| ARun.qv (q_geq rfl rfl) rfl <| rN <| ATodo.cond_d rfl (fun hc => ?_) (fun hc => ?_)
            · refine have h := iteT hc h; tSR <| rA rfl rfl <| rN <| ATodo.ret <| ?_
              obtain rfl := Option.some.inj h
              exact ImpX.here ⟨_, .cons (.tmp _ _ rfl) .nil, _, .cons .p1 (.cons .p1 .nil), ⟨b_0x4, rfl, rfl⟩⟩
            · refine have h := iteF hc h; tK <| tS <| tSR <| rM rfl rfl <| ARun.qv (q_sne rfl rfl) rfl <| rN <| ATodo.cut (fun σ' => ∃ (l13 : List (Str × Note)), command_Office_Put_j2 p0x0 p1x0 l13 = some r ∧ σ' = ⟨103, [(0, .ptr b_0 0), (3, .ptr b1 0), (6, .mref b5)], [(b_0, .cells [I p0x0.post_.Room, I p0x0.post_.Timeout, I p0x0.post_.Tries, I p0x0.post_.Kept, .mref b_0x4, I p0x0.time_]), (b_0x4, .mp (p0x0.notes_.map (fun e => (AV.str e.1, Note.av e.2)))), (b1, .cells [.str p1x0.Id, .str p1x0.Slot, .str p1x0.Body, I p1x0.Prio, I p1x0.At, I p1x0.Until]), (b5, .mp (l13.map (fun e => (AV.str e.1, Note.av e.2))))]⟩) ?_ ?_
              · refine ATodo.cond_d rfl (fun hc => ?_) (fun hc => ?_)
                · refine have h := iteT hc h; tSR <| rM rfl rfl <| rM rfl rfl <| bndE h fun v14 e7 h => ARun.qv (t_lookup (gk := AV.str) (gv := Note.av) (M := v4) (key := q10) (Z := (⟨(⟨[], [], [], (0 : Int), (0 : Int), (0 : Int)⟩ : Letter), (0 : Int), (0 : Int), (0 : Int)⟩ : Note)) rfl rfl .p0 rfl rfl rfl e7 rfl) rfl <| n_alloc rfl rfl rfl rfl fun b15 => n_store_ptr rfl rfl rfl rfl .p0 rfl rfl <| rN <| tS <| ATodo.regionT (id := 21) (A := [0, 1, 0, 4, 15, 31]) (H0 := [(b15, .cells [.str v14.Letter.Id, .str v14.Letter.Slot, .str v14.Letter.Body, I v14.Letter.Prio, I v14.Letter.At, I v14.Letter.Until, I v14.State, I v14.Tries, I v14.Since])]) (HH := fun β => [(b15, .cells [.str v14.Letter.Id, .str v14.Letter.Slot, .str v14.Letter.Body, I v14.Letter.Prio, I v14.Letter.At, I v14.Letter.Until, I (6 : Int), I v14.Tries, I v14.Since]), (b5, .mp (v4.map (fun e => (AV.str e.1, Note.av e.2)))), (b_0, .cells [I p0x0.post_.Room, I p0x0.post_.Timeout, I p0x0.post_.Tries, I p0x0.post_.Kept, .mref b_0x4, I p0x0.time_]), (b_0x4, .mp (p0x0.notes_.map (fun e => (AV.str e.1, Note.av e.2)))), (b1, .cells [.str p1x0.Id, .str p1x0.Slot, .str p1x0.Body, I p1x0.Prio, I p1x0.At, I p1x0.Until])]) 4 mixed rfl (by kernel_rfl) (by kernel_rfl) [⟨none, some 3, [], fun _ => (b15, .cells [.str v14.Letter.Id, .str v14.Letter.Slot, .str v14.Letter.Body, I v14.Letter.Prio, I v14.Letter.At, I v14.Letter.Until, I v14.State, I v14.Tries, I v14.Since]), none⟩, ⟨some 3, none, [], fun _ => (b15, .cells [.str v14.Letter.Id, .str v14.Letter.Slot, .str v14.Letter.Body, I v14.Letter.Prio, I v14.Letter.At, I v14.Letter.Until, I (6 : Int), I v14.Tries, I v14.Since]), none⟩] [] rfl (by kernel_rfl) rfl (.cons .p0 .nil) (fun _ => rfl) <| AT.am 3 rfl rfl <| AM.qv (n_field_ptr rfl rfl) rfl <| AM.qv (q_load_ptr rfl rfl .p3 rfl) rfl <| AM.qv (n_field_ptr rfl rfl) rfl <| AM.nil <| AT.run0 (Ti := [(b15, .cells [.str v14.Letter.Id, .str v14.Letter.Slot, .str v14.Letter.Body, I v14.Letter.Prio, I v14.Letter.At, I v14.Letter.Until, I v14.State, I v14.Tries, I v14.Since])]) (Pi := [(b15, .cells [.str v14.Letter.Id, .str v14.Letter.Slot, .str v14.Letter.Body, I v14.Letter.Prio, I v14.Letter.At, I v14.Letter.Until, I (6 : Int), I v14.Tries, I v14.Since])]) (fun _ => rfl) (fun _ => rfl) (fun _ => rfl) rfl rfl ?_ ?_
                  · exact n_store_ptr rfl rfl rfl rfl .p0 rfl rfl <| ARun.nil ⟨_, rfl⟩
                  exact AT.nilN (fun _ => rfl) fun β => rF rfl rfl rfl <| n_store_ptr rfl rfl rfl rfl .p0 rfl rfl <| rN <| tR <| rM rfl rfl <| rM rfl rfl <| ARun.qv (q_load_ptr_all rfl rfl .p0 rfl) rfl <| t_mapUpdate (gk := AV.str) (gv := Note.av) (M := v4) (key := q10) (v := (⟨v14.Letter, (6 : Int), v14.Tries, p1x0.At⟩ : Note)) rfl rfl rfl rfl .p1 <| rN <| ATodo.stop <| ImpX.lq [2, 2, 2, 1] ⟨mset v4 q10 (⟨v14.Letter, (6 : Int), v14.Tries, p1x0.At⟩ : Note), h, rfl⟩ rfl rfl
                · exact have h := iteF hc h; tK <| ATodo.stop <| ImpX.lq [1, 1, 1, 0] ⟨v4, h, rfl⟩ rfl rfl
              · rintro σ' ⟨l13, h, rfl⟩
                unfold command_Office_Put_j2 at h
                refine tSR <| rM rfl rfl <| rF rfl rfl rfl <| rL rfl rfl .p2 rfl rfl <| ARun.qv (q_load_ptr_all rfl rfl .p2 rfl) rfl <| rF rfl rfl rfl <| rL rfl rfl .p2 rfl rfl <| ARun.qv (n_build rfl rfl rfl rfl rfl) rfl <| t_mapUpdate (gk := AV.str) (gv := Note.av) (M := l13) (key := p1x0.Id) (v := (⟨p1x0, (1 : Int), (0 : Int), p1x0.At⟩ : Note)) rfl rfl rfl rfl .p3 <| rN <| tSR <| rM rfl rfl <| rM rfl rfl <| rF rfl rfl rfl <| rL rfl rfl .p2 rfl rfl <| t_call1 rfl (command_Office_keep_c (rfl : command_Office_keep p0x0 (mset l13 p1x0.Id (⟨p1x0, (1 : Int), (0 : Int), p1x0.At⟩ : Note)) p1x0.At = _)) (CoL.refl _) (.cons .p0 (.cons .p0 (.cons .p1 .nil))) (fun _ => rfl) rfl fun b16 => rN <| tSR <| rA rfl rfl <| rN <| ATodo.ret <| ?_
                obtain rfl := Option.some.inj h
                exact ImpX.here ⟨_, .cons (.tmp _ _ rfl) .nil, _, .cons .p0 (.cons .p0 .nil), ⟨b16, rfl, rfl⟩⟩
        · obtain ⟨z1, h, hN1, hA1⟩ := stepL hH1 hP
          replace h : command_Office_Put_b1 p1x0 v1m q10 = some z1 := h
          unfold command_Office_Put_b1 at h
          have hJ1 := fun y σ' (e : z1 = .inl y) hi => hK1 R' y σ' hlen (hN1 y e) hi
          clear hN1 hP hK1 hH1
          refine rX rfl rfl rfl <| rN <| tS <| ATodo.cond_t rfl <| tK <| ATodo.block <| tSR <| ARun.qv (t_entry rfl .p2 .p3 hCv1m rfl rfl) rfl <| rX rfl rfl rfl <| rX rfl rfl rfl <| n_alloc rfl rfl rfl rfl fun b17 => rA rfl rfl <| n_store_ptr rfl rfl rfl rfl .p0 rfl rfl <| rN <| tS <| ATodo.cut (fun σ' => ∃ (c18 : Bool), command_Office_Put_j3 q10 v1m c18 = some z1 ∧ σ' = ⟨103, [(0, .ptr b_0 0), (3, .ptr b1 0), (6, .mref b5), (9, .str q10), (10, .str v1m.1), (38, .ptr b8 0), (64, .bool c18)], [(b_0, .cells [I p0x0.post_.Room, I p0x0.post_.Timeout, I p0x0.post_.Tries, I p0x0.post_.Kept, .mref b_0x4, I p0x0.time_]), (b_0x4, .mp (p0x0.notes_.map (fun e => (AV.str e.1, Note.av e.2)))), (b1, .cells [.str p1x0.Id, .str p1x0.Slot, .str p1x0.Body, I p1x0.Prio, I p1x0.At, I p1x0.Until]), (b5, .mpb Le5 ce5), (b8, .mit b5 ce5 sv1m)]⟩) ?_ ?_
          · refine tR <| rF rfl rfl rfl <| rL rfl rfl .p5 rfl rfl <| ARun.qv (q_sne rfl rfl) rfl <| rM rfl rfl <| ARun.guard_dt rfl rfl rfl (fun hc => ?_) (fun hc => ?_)
            · rw [andTd hc] at h
              refine rF rfl rfl rfl <| rY rfl rfl rfl <| rF rfl rfl rfl <| rY rfl rfl rfl <| rL rfl rfl .p0 rfl rfl <| rY rfl rfl rfl <| rF rfl rfl rfl <| rY rfl rfl rfl <| rL rfl rfl .p5 rfl rfl <| rY rfl rfl rfl <| ARun.qv (q_seq rfl rfl) rfl <| rT rfl rfl rfl <| rM rfl rfl <| ARun.guard_dt rfl rfl rfl (fun hc => ?_) (fun hc => ?_)
              · rw [andTd hc] at h
                refine rF rfl rfl rfl <| rY rfl rfl rfl <| rL rfl rfl .p0 rfl rfl <| rY rfl rfl rfl <| ARun.qv (q_eql rfl rfl) rfl <| rT rfl rfl rfl <| rM rfl rfl <| ARun.guard_dt rfl rfl rfl (fun hc => ?_) (fun hc => ?_)
                · rw [andTd hc] at h
                  exact rF rfl rfl rfl <| rY rfl rfl rfl <| rL rfl rfl .p0 rfl rfl <| rY rfl rfl rfl <| ARun.qv (q_eql rfl rfl) rfl <| rT rfl rfl rfl <| rN <| ATodo.stop <| ImpX.lq [1, 1, 3, 2, 1] ⟨decide (v1m.2.Tries = (0 : Int)), h, rfl⟩ rfl rfl
                · rw [andFd hc] at h
                  exact rG rfl rfl rfl rfl <| rG rfl rfl rfl rfl <| rE rfl rfl rfl <| rN <| ATodo.stop <| ImpX.lq [1, 1, 3, 2, 1] ⟨false, h, rfl⟩ rfl rfl
              · rw [andFd hc] at h
                exact rG rfl rfl rfl rfl <| rG rfl rfl rfl rfl <| rE rfl rfl rfl <| rM rfl rfl <| rG rfl rfl rfl rfl <| rG rfl rfl rfl rfl <| rG rfl rfl rfl rfl <| rE rfl rfl rfl <| rN <| ATodo.stop <| ImpX.lq [1, 1, 3, 2, 1] ⟨false, h, rfl⟩ rfl rfl
            · rw [andFd hc] at h
              exact rG rfl rfl rfl rfl <| rG rfl rfl rfl rfl <| rG rfl rfl rfl rfl <| rG rfl rfl rfl rfl <| rG rfl rfl rfl rfl <| rE rfl rfl rfl <| rM rfl rfl <| rG rfl rfl rfl rfl <| rG rfl rfl rfl rfl <| rG rfl rfl rfl rfl <| rE rfl rfl rfl <| rM rfl rfl <| rG rfl rfl rfl rfl <| rG rfl rfl rfl rfl <| rG rfl rfl rfl rfl <| rE rfl rfl rfl <| rN <| ATodo.stop <| ImpX.lq [1, 1, 3, 2, 1] ⟨false, h, rfl⟩ rfl rfl
          · rintro σ' ⟨c18, h, rfl⟩
            unfold command_Office_Put_j3 at h
            refine ATodo.cut (fun σ' => ∃ (q19 : Str), command_Office_Put_j4 q19 = some z1 ∧ σ' = ⟨103, [(0, .ptr b_0 0), (3, .ptr b1 0), (6, .mref b5), (9, .str q19), (38, .ptr b8 0)], [(b_0, .cells [I p0x0.post_.Room, I p0x0.post_.Timeout, I p0x0.post_.Tries, I p0x0.post_.Kept, .mref b_0x4, I p0x0.time_]), (b_0x4, .mp (p0x0.notes_.map (fun e => (AV.str e.1, Note.av e.2)))), (b1, .cells [.str p1x0.Id, .str p1x0.Slot, .str p1x0.Body, I p1x0.Prio, I p1x0.At, I p1x0.Until]), (b5, .mpb Le5 ce5), (b8, .mit b5 ce5 sv1m)]⟩) ?_ ?_
            · refine ATodo.cond rfl (fun hc => ?_) (fun hc => ?_)
              · exact have h := iteT hc h; tR <| rM rfl rfl <| rA rfl rfl <| rN <| ATodo.stop <| ImpX.lq [0, 0, 0, 0, 0] ⟨v1m.1, h, rfl⟩ rfl rfl
              · exact have h := iteFb hc h; tK <| ATodo.stop <| ImpX.lq [0, 0, 0, 0, 0] ⟨q10, h, rfl⟩ rfl rfl
            · rintro σ' ⟨q19, h, rfl⟩
              unfold command_Office_Put_j4 at h
              refine ATodo.blk <| ATodo.stop <| ?_
              obtain rfl := Option.some.inj h
              exact hJ1 _ _ rfl <| ImpX.lq [0, 0, 2, 1, 0] ⟨sv1m, hIv1m, rfl⟩ rfl rfl

set_option maxHeartbeats 4000000 in
theorem command_Office_Waiting_c [GI : GTab] {b_0 : Bk} {b_0x4 : Bk} {p0x0 : Command_Office} {p1x0 : Int} {r : Int × Int × Command_Office} (h : command_Office_Waiting p0x0 p1x0 = some r) : ACall Tryz.prog 28 [.ptr b_0 0, I p1x0] [(b_0, .cells [I p0x0.post_.Room, I p0x0.post_.Timeout, I p0x0.post_.Tries, I p0x0.post_.Kept, .mref b_0x4, I p0x0.time_]), (b_0x4, .mp (p0x0.notes_.map (fun e => (AV.str e.1, Note.av e.2))))] (T1 (fun c_0x4 => [(b_0, .cells [I r.2.2.post_.Room, I r.2.2.post_.Timeout, I r.2.2.post_.Tries, I r.2.2.post_.Kept, .mref c_0x4, I r.2.2.time_]), (c_0x4, .mp (r.2.2.notes_.map (fun e => (AV.str e.1, Note.av e.2))))]) (fun c_0x4 => .tup [I r.1, I r.2.1])) := by
  unfold command_Office_Waiting at h
  refine ACall.lessH ?_
  refine ACall.bodyN Tryz.func28 rfl Tryz.ntmps28 Tryz.results28 rfl rfl ?_
  refine tSR <| rA rfl rfl <| rA rfl rfl <| rN <| tS <| tSR <| rM rfl rfl <| rM rfl rfl <| t_call0 rfl (command_Office_timeFault_c rfl) (CoL.refl _) (.cons .p0 .nil) rfl rfl <| rA rfl rfl <| rN <| tSR <| rM rfl rfl <| ARun.qv (q_neq rfl rfl) rfl <| rN <| ATodo.cond_d rfl (fun hc => ?_) (fun hc => ?_)
  · refine have h := iteT hc h; tSR <| rM rfl rfl <| rA rfl rfl <| rA rfl rfl <| rN <| ATodo.ret <| ?_
    obtain rfl := Option.some.inj h
    exact ImpX.here ⟨_, .cons (.tmp _ _ rfl) (.cons (.tmp _ _ rfl) .nil), _, .cons .p0 (.cons .p0 .nil), ⟨b_0x4, rfl, rfl⟩⟩
  · refine have h := iteF hc h; tK <| tSR <| rM rfl rfl <| rM rfl rfl <| rM rfl rfl <| bndE h fun v1 e1 h => t_call1 rfl (command_Office_aged_c e1) (CoL.refl _) (.cons .p0 (.cons .p0 .nil)) (fun _ => rfl) rfl fun b2 => rM rfl rfl <| t_call1 rfl (command_Office_keep_c rfl) (CoL.refl _) (.cons .p0 (.cons .p0 (.cons .p0 .nil))) (fun _ => rfl) rfl fun b3 => rN <| tSR <| rM rfl rfl <| ARun.qv (q_nilCheck_ptr rfl) rfl <| rF rfl rfl rfl <| rL rfl rfl .p0 rfl rfl <| bndE h fun v4 e2 h => t_call0 rfl (command_pending_c e2) (CoL.refl _) (.cons .p1 .nil) rfl rfl <| rA rfl rfl <| rA rfl rfl <| rN <| ATodo.ret <| ?_
    obtain rfl := Option.some.inj h
    exact ImpX.here ⟨_, .cons (.tmp _ _ rfl) (.cons (.tmp _ _ rfl) .nil), _, .cons .p1 (.cons .p0 .nil), ⟨b3, rfl, rfl⟩⟩

set_option maxHeartbeats 4000000 in
theorem L_posted_c {r : Bool} (h : L_posted = some r) : Pu Tryz.prog 8 [] (.bool r) := by
  unfold L_posted at h
  refine ACall.bodyN Tryz.func8 rfl Tryz.ntmps8 Tryz.results8 rfl rfl ?_
  refine tSR <| rA rfl rfl <| rN <| tSR <| ARun.qv (n_build rfl rfl rfl rfl rfl) rfl <| optE h (fun e1 h => ?_) (fun x1 e1 h => ?_)
  · refine have cM5 := TM_none e1 (command_New_c (rfl : command_New (⟨(1 : Int), (1 : Int), (1 : Int), (0 : Int)⟩ : Post) = _)); t_call0 rfl cM5 (CoL.refl _) .nil rfl rfl <| rM rfl rfl <| rX rfl rfl rfl <| rX rfl rfl rfl <| rA rfl rfl <| rA rfl rfl <| rN <| tS <| tS <| ATodo.cut (fun σ' => L_posted_j1 = some r ∧ σ' = ⟨32, [(1, .raw (.pointer none)), (20, .bool true)], []⟩) ?_ ?_
    · refine tR <| rM rfl rfl <| ARun.qv (q_neq rfl rfl) rfl <| rM rfl rfl <| ARun.guard_df rfl rfl rfl (fun hc => ?_) (fun hc => ?_)
      · exact have h := iteF hc h; rM rfl rfl <| rY rfl rfl rfl <| ARun.qv (q_ppneql rfl rfl) rfl <| rE rfl rfl rfl <| rM rfl rfl <| rG rfl rfl rfl rfl <| rG rfl rfl rfl rfl <| rG rfl rfl rfl rfl <| rG rfl rfl rfl rfl <| rT rfl rfl rfl <| rN <| ATodo.stop <| ImpX.lq [] ⟨h, rfl⟩ rfl rfl
      · exact have h := iteT hc h; rG rfl rfl rfl rfl <| rT rfl rfl rfl <| rM rfl rfl <| rG rfl rfl rfl rfl <| rG rfl rfl rfl rfl <| rG rfl rfl rfl rfl <| rG rfl rfl rfl rfl <| rT rfl rfl rfl <| rN <| ATodo.stop <| ImpX.lq [] ⟨h, rfl⟩ rfl rfl
    · rintro σ' ⟨h, rfl⟩
      unfold L_posted_j1 at h
      refine ATodo.cond_t rfl <| tSR <| rA rfl rfl <| rN <| ATodo.ret <| ?_
      obtain rfl := Option.some.inj h
      exact ImpX.here ⟨_, .cons (.tmp _ _ rfl) .nil, rfl⟩
  · refine have cM6 := TM_some e1 (command_New_c (rfl : command_New (⟨(1 : Int), (1 : Int), (1 : Int), (0 : Int)⟩ : Post) = _)); t_call2 rfl cM6 (CoL.refl _) .nil (fun _ _ => rfl) rfl fun b2 b3 => rM rfl rfl <| rX rfl rfl rfl <| rX rfl rfl rfl <| rA rfl rfl <| rA rfl rfl <| rN <| tS <| tS <| ATodo.cut (fun σ' => ∃ (b8 : Bk) (n4 : Int) (n5 : Int) (n6 : Int) (n7 : Int) (l9 : List (Str × Note)) (n10 : Int) (c11 : Bool), L_posted_j2 n4 n5 n6 n7 l9 n10 c11 = some r ∧ σ' = ⟨32, [(1, .ptr b2 0), (20, .bool c11)], [(b2, .cells [I n4, I n5, I n6, I n7, .mref b8, I n10]), (b8, .mp (l9.map (fun e => (AV.str e.1, Note.av e.2))))]⟩) ?_ ?_
    · refine tR <| rM rfl rfl <| ARun.qv (q_neq rfl rfl) rfl <| rM rfl rfl <| ARun.guard_df rfl rfl rfl (fun hc => ?_) (fun hc => ?_)
      · exact have h := iteF hc h; rM rfl rfl <| rY rfl rfl rfl <| ARun.qv (q_ppeql rfl rfl) rfl <| rE rfl rfl rfl <| rM rfl rfl <| rY rfl rfl rfl <| rM rfl rfl <| rY rfl rfl rfl <| ARun.qv (n_build rfl rfl rfl rfl rfl) rfl <| rY rfl rfl rfl <| bndE h fun v12 e2 h => t_call1 rfl (command_Office_Put_c e2) (CoL.refl _) (.cons .p0 (.cons .p0 .nil)) (fun _ => rfl) rfl fun b13 => rY rfl rfl rfl <| ARun.qv (q_neq rfl rfl) rfl <| rE rfl rfl rfl <| rN <| ATodo.stop <| ImpX.lq [0, 0] ⟨b13, v12.2.post_.Room, v12.2.post_.Timeout, v12.2.post_.Tries, v12.2.post_.Kept, v12.2.notes_, v12.2.time_, decide (v12.1 ≠ (0 : Int)), h, rfl⟩ rfl rfl
      · exact have h := iteT hc h; rG rfl rfl rfl rfl <| rT rfl rfl rfl <| rM rfl rfl <| rG rfl rfl rfl rfl <| rG rfl rfl rfl rfl <| rG rfl rfl rfl rfl <| rG rfl rfl rfl rfl <| rT rfl rfl rfl <| rN <| ATodo.stop <| ImpX.lq [0, 0] ⟨b3, x1.post_.Room, x1.post_.Timeout, x1.post_.Tries, x1.post_.Kept, x1.notes_, x1.time_, true, h, rfl⟩ rfl rfl
    · rintro σ' ⟨b8, n4, n5, n6, n7, l9, n10, c11, h, rfl⟩
      unfold L_posted_j2 at h
      refine ATodo.cond rfl (fun hc => ?_) (fun hc => ?_)
      · refine have h := iteT hc h; tSR <| rA rfl rfl <| rN <| ATodo.ret <| ?_
        obtain rfl := Option.some.inj h
        exact ImpX.here ⟨_, .cons (.tmp _ _ rfl) .nil, rfl⟩
      · refine have h := iteFb hc h; tK <| tSR <| rM rfl rfl <| bndE h fun v14 e3 h => t_call1 rfl (command_Office_Waiting_c e3) (CoL.refl _) (.cons .p0 (.cons .p0 .nil)) (fun _ => rfl) rfl fun b15 => rM rfl rfl <| rX rfl rfl rfl <| rX rfl rfl rfl <| rA rfl rfl <| rA rfl rfl <| rN <| tS <| ATodo.cut (fun σ' => ∃ (c16 : Bool), L_posted_j3 c16 = some r ∧ σ' = ⟨32, [(0, .bool c16)], []⟩) ?_ ?_
        · refine tR <| rM rfl rfl <| ARun.qv (q_eql rfl rfl) rfl <| rM rfl rfl <| ARun.guard_dt rfl rfl rfl (fun hc => ?_) (fun hc => ?_)
          · rw [andTd hc] at h
            exact rM rfl rfl <| rY rfl rfl rfl <| ARun.qv (q_eql rfl rfl) rfl <| rT rfl rfl rfl <| rA rfl rfl <| rN <| ATodo.stop <| ImpX.lq [] ⟨decide (v14.1 = (1 : Int)), h, rfl⟩ rfl rfl
          · rw [andFd hc] at h
            exact rG rfl rfl rfl rfl <| rE rfl rfl rfl <| rA rfl rfl <| rN <| ATodo.stop <| ImpX.lq [] ⟨false, h, rfl⟩ rfl rfl
        · rintro σ' ⟨c16, h, rfl⟩
          unfold L_posted_j3 at h
          refine ATodo.ret <| ?_
          obtain rfl := Option.some.inj h
          exact ImpX.here ⟨_, .cons (.tmp _ _ rfl) .nil, rfl⟩

set_option maxHeartbeats 4000000 in
theorem Stream_Some_c [GI : GTab] {b_0 : Bk} {p0x0 : Fleetmake_Stream} {p1x0 : List Str} {r : Str × Fleetmake_Stream} (h : Stream_Some p0x0 p1x0 = some r) : ACall Tryz.prog 20 [.ptr b_0 0, .list 1 (p1x0.map AV.str)] [(b_0, .cells [.list 1 (p0x0.L.map I), I p0x0.at_])] (T0 ([(b_0, .cells [.list 1 (r.2.L.map I), I r.2.at_])]) (.str r.1)) := by
  unfold Stream_Some at h
  refine ACall.lessH ?_
  refine ACall.bodyN Tryz.func20 rfl Tryz.ntmps20 Tryz.results20 rfl rfl ?_
  refine tSR <| rA rfl rfl <| rN <| tSR <| rM rfl rfl <| rM rfl rfl <| rM rfl rfl <| ARun.qv (t_len rfl) rfl <| bndE h fun v1 e1 h => t_call0 rfl (Stream_Next_c e1) (CoL.refl _) (.cons .p0 .nil) rfl rfl <| bndE h fun v2 e2 h => ARun.qv (t_index rfl rfl rfl e2 rfl rfl) rfl <| ARun.qv (q_load_rptr rfl rfl rfl) rfl <| rA rfl rfl <| rN <| ATodo.ret <| ?_
  obtain rfl := Option.some.inj h
  exact ImpX.here ⟨_, .cons (.tmp _ _ rfl) .nil, _, .cons .p0 .nil, ⟨rfl, rfl⟩⟩

set_option maxHeartbeats 4000000 in
theorem Stream_RightLetter_c [GI : GTab] {b_0 : Bk} {p0x0 : Fleetmake_Stream} {p1x0 : Int} {r : Letter × Fleetmake_Stream} (h : Stream_RightLetter p0x0 p1x0 = some r) : ACall Tryz.prog 29 [.ptr b_0 0, I p1x0] [(b_0, .cells [.list 1 (p0x0.L.map I), I p0x0.at_])] (T0 ([(b_0, .cells [.list 1 (r.2.L.map I), I r.2.at_])]) (.agg [.str r.1.Id, .str r.1.Slot, .str r.1.Body, I r.1.Prio, I r.1.At, I r.1.Until])) := by
  unfold Stream_RightLetter at h
  refine ACall.lessH ?_
  refine ACall.bodyN Tryz.func29 rfl Tryz.ntmps29 Tryz.results29 rfl rfl ?_
  refine tSR <| n_alloc rfl rfl rfl rfl fun b1 => rN <| tSR <| rM rfl rfl <| n_buildSliceL (xs := ([([108, 97] : Str), ([108, 98] : Str), ([108, 99] : Str), ([108, 100] : Str), ([108, 101] : Str), ([108, 102] : Str)]).map AV.str) rfl rfl rfl rfl rfl rfl <| bndE h fun v2 e1 h => t_call0 rfl (Stream_Some_c e1) (CoL.refl _) (.cons .p1 .nil) rfl rfl <| rM rfl rfl <| n_buildSliceL (xs := ([([] : Str), ([] : Str), ([115, 97] : Str), ([115, 98] : Str)]).map AV.str) rfl rfl rfl rfl rfl rfl <| bndE h fun v3 e2 h => t_call0 rfl (Stream_Some_c e2) (CoL.refl _) (.cons .p0 .nil) rfl rfl <| rM rfl rfl <| n_buildSliceL (xs := ([([100, 111] : Str), ([] : Str), ([97, 32, 34, 98, 34] : Str)]).map AV.str) rfl rfl rfl rfl rfl rfl <| bndE h fun v4 e3 h => t_call0 rfl (Stream_Some_c e3) (CoL.refl _) (.cons .p0 .nil) rfl rfl <| rM rfl rfl <| n_buildSliceL (xs := ([(0 : Int), (0 : Int), (1 : Int), (5 : Int), (9 : Int)]).map I) rfl rfl rfl rfl rfl rfl <| bndE h fun v5 e4 h => t_call0 rfl (Stream_Pick_c e4) (CoL.refl _) (.cons .p0 .nil) rfl rfl <| rM rfl rfl <| rM rfl rfl <| rM rfl rfl <| n_buildSliceL (xs := ([(1 : Int), (5 : Int), (10 : Int), (20 : Int), (50 : Int), (1000 : Int)]).map I) rfl rfl rfl rfl rfl rfl <| bndE h fun v6 e5 h => t_call0 rfl (Stream_Pick_c e5) (CoL.refl _) (.cons .p0 .nil) rfl rfl <| ARun.qv (q_addw rfl rfl) rfl <| ARun.qv (n_build rfl rfl rfl rfl rfl) rfl <| n_store_ptr rfl rfl rfl rfl .p1 rfl rfl <| rN <| ATodo.ret <| ?_
  obtain rfl := Option.some.inj h
  exact ImpX.here ⟨_, .cons (.all _ _ _ _ _ _ rfl .p1 TUnder.h TInfo.h rfl rfl) .nil, _, .cons .p0 .nil, ⟨rfl, rfl⟩⟩

set_option maxHeartbeats 4000000 in
theorem Stream_Letter_c {b_0 : Bk} {p0x0 : Fleetmake_Stream} {p1x0 : Int} {r : Letter × Fleetmake_Stream} (h : Stream_Letter p0x0 p1x0 = some r) : ACall Tryz.prog 11 [.ptr b_0 0, I p1x0] [(b_0, .cells [.list 1 (p0x0.L.map I), I p0x0.at_])] (T0 ([(b_0, .cells [.list 1 (r.2.L.map I), I r.2.at_])]) (.agg [.str r.1.Id, .str r.1.Slot, .str r.1.Body, I r.1.Prio, I r.1.At, I r.1.Until])) := by
  unfold Stream_Letter at h
  refine ACall.lessH ?_
  refine ACall.bodyN Tryz.func11 rfl Tryz.ntmps11 Tryz.results11 rfl rfl ?_
  refine tSR <| n_alloc rfl rfl rfl rfl fun b1 => rN <| tSR <| rM rfl rfl <| rM rfl rfl <| bndE h fun v2 e1 h => t_call0 rfl (Stream_RightLetter_c e1) (CoL.refl _) (.cons .p1 .nil) rfl rfl <| n_alloc rfl rfl rfl rfl fun b3 => n_store_ptr rfl rfl rfl rfl .p0 rfl rfl <| rN <| tS <| tSR <| rM rfl rfl <| bndE h fun v4 e2 h => t_call0 rfl (Stream_Flip_c e2) (CoL.refl _) (.cons .p1 .nil) rfl rfl <| rN <| ATodo.cut (fun σ' => ∃ (l5 : List Int) (n6 : Int) (q7 : Str) (q8 : Str) (q9 : Str) (n10 : Int) (n11 : Int) (n12 : Int), Stream_Letter_j1 l5 n6 q7 q8 q9 n10 n11 n12 = some r ∧ σ' = ⟨44, [(4, .ptr b1 0), (5, .ptr b3 0)], [(b_0, .cells [.list 1 (l5.map I), I n6]), (b1, .cells [.str [], .str [], .str [], I (0 : Int), I (0 : Int), I (0 : Int)]), (b3, .cells [.str q7, .str q8, .str q9, I n10, I n11, I n12])]⟩) ?_ ?_
  · refine ATodo.cond rfl (fun hc => ?_) (fun hc => ?_)
    · refine have h := iteT hc h; tSR <| rM rfl rfl <| bndE h fun v13 e3 h => t_call0 rfl (Stream_Next_c e3) (CoL.refl _) (.cons .p0 .nil) rfl rfl <| rN <| ATodo.block <| tSR <| ARun.qv (q_eql rfl rfl) rfl <| rA rfl rfl <| rN <| ATodo.cut (fun σ' => ∃ (l14 : List Int) (n15 : Int) (q16 : Str) (q17 : Str) (q18 : Str) (n19 : Int) (n20 : Int) (n21 : Int), Stream_Letter_j2 l14 n15 q16 q17 q18 n19 n20 n21 = some r ∧ σ' = ⟨44, [(4, .ptr b1 0), (5, .ptr b3 0)], [(b_0, .cells [.list 1 (l14.map I), I n15]), (b1, .cells [.str [], .str [], .str [], I (0 : Int), I (0 : Int), I (0 : Int)]), (b3, .cells [.str q16, .str q17, .str q18, I n19, I n20, I n21])]⟩) ?_ ?_
      · refine ATodo.cond_d rfl (fun hc => ?_) (fun hc => ?_)
        · exact have h := iteT hc h; tR <| rM rfl rfl <| n_buildSliceL (xs := ([([] : Str), ([65] : Str)]).map AV.str) rfl rfl rfl rfl rfl rfl <| bndE h fun v22 e4 h => t_call0 rfl (Stream_Some_c e4) (CoL.refl _) (.cons .p0 .nil) rfl rfl <| rF rfl rfl rfl <| n_store_ptr rfl rfl rfl rfl .p1 rfl rfl <| rN <| ATodo.stop <| ImpX.lq [0, 1, 0] ⟨v22.2.L, v22.2.at_, v22.1, v2.1.Slot, v2.1.Body, v2.1.Prio, v2.1.At, v2.1.Until, h, rfl⟩ rfl rfl
        · refine have h := iteF hc h; tSR <| ARun.qv (q_eql rfl rfl) rfl <| rA rfl rfl <| rN <| ATodo.cut (fun σ' => ∃ (l23 : List Int) (n24 : Int) (q25 : Str) (q26 : Str) (n27 : Int) (n28 : Int) (n29 : Int), Stream_Letter_j3 v2 l23 n24 q25 q26 n27 n28 n29 = some r ∧ σ' = ⟨44, [(4, .ptr b1 0), (5, .ptr b3 0)], [(b_0, .cells [.list 1 (l23.map I), I n24]), (b1, .cells [.str [], .str [], .str [], I (0 : Int), I (0 : Int), I (0 : Int)]), (b3, .cells [.str v2.1.Id, .str q25, .str q26, I n27, I n28, I n29])]⟩) ?_ ?_
          · refine ATodo.cond_d rfl (fun hc => ?_) (fun hc => ?_)
            · exact have h := iteT hc h; tR <| rM rfl rfl <| n_buildSliceL (xs := ([([65] : Str), ([45] : Str)]).map AV.str) rfl rfl rfl rfl rfl rfl <| bndE h fun v30 e5 h => t_call0 rfl (Stream_Some_c e5) (CoL.refl _) (.cons .p0 .nil) rfl rfl <| rF rfl rfl rfl <| n_store_ptr rfl rfl rfl rfl .p1 rfl rfl <| rN <| ATodo.stop <| ImpX.lq [0, 1, 0] ⟨v30.2.L, v30.2.at_, v30.1, v2.1.Body, v2.1.Prio, v2.1.At, v2.1.Until, h, rfl⟩ rfl rfl
            · refine have h := iteF hc h; tSR <| ARun.qv (q_eql rfl rfl) rfl <| rA rfl rfl <| rN <| ATodo.cut (fun σ' => ∃ (l31 : List Int) (n32 : Int) (q33 : Str) (n34 : Int) (n35 : Int) (n36 : Int), Stream_Letter_j4 v2 l31 n32 q33 n34 n35 n36 = some r ∧ σ' = ⟨44, [(4, .ptr b1 0), (5, .ptr b3 0)], [(b_0, .cells [.list 1 (l31.map I), I n32]), (b1, .cells [.str [], .str [], .str [], I (0 : Int), I (0 : Int), I (0 : Int)]), (b3, .cells [.str v2.1.Id, .str v2.1.Slot, .str q33, I n34, I n35, I n36])]⟩) ?_ ?_
              · refine ATodo.cond_d rfl (fun hc => ?_) (fun hc => ?_)
                · exact have h := iteT hc h; tR <| rM rfl rfl <| bndE h fun v37 e6 h => r_callp rfl (strings_Repeat_c e6) (CoL.refl _) rfl <| n_buildSliceL (xs := ([([10] : Str), ([127] : Str), ([255] : Str), v37]).map AV.str) rfl rfl rfl rfl rfl rfl <| bndE h fun v38 e7 h => t_call0 rfl (Stream_Some_c e7) (CoL.refl _) (.cons .p0 .nil) rfl rfl <| rF rfl rfl rfl <| n_store_ptr rfl rfl rfl rfl .p1 rfl rfl <| rN <| ATodo.stop <| ImpX.lq [0, 1, 0] ⟨v38.2.L, v38.2.at_, v38.1, v2.1.Prio, v2.1.At, v2.1.Until, h, rfl⟩ rfl rfl
                · refine have h := iteF hc h; tSR <| ARun.qv (q_eql rfl rfl) rfl <| rA rfl rfl <| rN <| ATodo.cut (fun σ' => ∃ (l39 : List Int) (n40 : Int) (n41 : Int) (n42 : Int) (n43 : Int), Stream_Letter_j5 v2 l39 n40 n41 n42 n43 = some r ∧ σ' = ⟨44, [(4, .ptr b1 0), (5, .ptr b3 0)], [(b_0, .cells [.list 1 (l39.map I), I n40]), (b1, .cells [.str [], .str [], .str [], I (0 : Int), I (0 : Int), I (0 : Int)]), (b3, .cells [.str v2.1.Id, .str v2.1.Slot, .str v2.1.Body, I n41, I n42, I n43])]⟩) ?_ ?_
                  · refine ATodo.cond_d rfl (fun hc => ?_) (fun hc => ?_)
                    · exact have h := iteT hc h; tR <| rM rfl rfl <| bndE h fun v44 e8 h => t_call0 rfl (Stream_Odd_c e8) (CoL.refl _) (.cons .p0 .nil) rfl rfl <| rF rfl rfl rfl <| n_store_ptr rfl rfl rfl rfl .p1 rfl rfl <| rN <| ATodo.stop <| ImpX.lq [0, 1, 0] ⟨v44.2.L, v44.2.at_, v44.1, v2.1.At, v2.1.Until, h, rfl⟩ rfl rfl
                    · exact have h := iteF hc h; tR <| rM rfl rfl <| bndE h fun v45 e9 h => t_call0 rfl (Stream_Odd_c e9) (CoL.refl _) (.cons .p0 .nil) rfl rfl <| rM rfl rfl <| bndE h fun v46 e10 h => t_call0 rfl (Stream_Odd_c e10) (CoL.refl _) (.cons .p0 .nil) rfl rfl <| rF rfl rfl rfl <| n_store_ptr rfl rfl rfl rfl .p1 rfl rfl <| rF rfl rfl rfl <| n_store_ptr rfl rfl rfl rfl .p1 rfl rfl <| rN <| ATodo.stop <| ImpX.lq [0, 1, 0] ⟨v46.2.L, v46.2.at_, v2.1.Prio, v45.1, v46.1, h, rfl⟩ rfl rfl
                  · rintro σ' ⟨l39, n40, n41, n42, n43, h, rfl⟩
                    unfold Stream_Letter_j5 at h
                    exact ATodo.stop <| ImpX.lq [0, 0, 0] ⟨l39, n40, v2.1.Body, n41, n42, n43, h, rfl⟩ rfl rfl
              · rintro σ' ⟨l31, n32, q33, n34, n35, n36, h, rfl⟩
                unfold Stream_Letter_j4 at h
                exact ATodo.stop <| ImpX.lq [0, 0, 0] ⟨l31, n32, v2.1.Slot, q33, n34, n35, n36, h, rfl⟩ rfl rfl
          · rintro σ' ⟨l23, n24, q25, q26, n27, n28, n29, h, rfl⟩
            unfold Stream_Letter_j3 at h
            exact ATodo.stop <| ImpX.lq [0, 0, 0] ⟨l23, n24, v2.1.Id, q25, q26, n27, n28, n29, h, rfl⟩ rfl rfl
      · rintro σ' ⟨l14, n15, q16, q17, q18, n19, n20, n21, h, rfl⟩
        unfold Stream_Letter_j2 at h
        exact ATodo.blk <| ATodo.stop <| ImpX.lq [0, 0, 0] ⟨l14, n15, q16, q17, q18, n19, n20, n21, h, rfl⟩ rfl rfl
    · exact have h := iteFb hc h; tK <| ATodo.stop <| ImpX.lq [0, 1, 0] ⟨v4.2.L, v4.2.at_, v2.1.Id, v2.1.Slot, v2.1.Body, v2.1.Prio, v2.1.At, v2.1.Until, h, rfl⟩ rfl rfl
  · rintro σ' ⟨l5, n6, q7, q8, q9, n10, n11, n12, h, rfl⟩
    unfold Stream_Letter_j1 at h
    refine tSR <| ARun.qv (q_load_ptr_all rfl rfl .p2 rfl) rfl <| n_store_ptr rfl rfl rfl rfl .p1 rfl rfl <| rN <| ATodo.ret <| ?_
    obtain rfl := Option.some.inj h
    exact ImpX.here ⟨_, .cons (.all _ _ _ _ _ _ rfl .p1 TUnder.h TInfo.h rfl rfl) .nil, _, .cons .p0 .nil, ⟨rfl, rfl⟩⟩

set_option maxHeartbeats 4000000 in
theorem Q_only_c [GI : GTab] {p0x0 : Str} {p1x0 : Str} {r : Bool} (h : Q_only p0x0 p1x0 = some r) : Pu Tryz.prog 111 [.str p0x0, .str p1x0] (.bool r) := by
  unfold Q_only at h
  refine ACall.bodyN Tryz.func111 rfl Tryz.ntmps111 Tryz.results111 rfl rfl ?_
  refine tSR <| rA rfl rfl <| rN <| tS <| tSR <| rM rfl rfl <| ARun.qv (q_len_str rfl) rfl <| rM rfl rfl <| rN <| ATodo.block <| ATodo.loopI (fun x : Int => Q_only_b1 p0x0 p1x0 x) (fun x σ' => σ' = ⟨18, [(0, .str p0x0), (1, .str p1x0), (7, I (p0x0.length : Int)), (8, I x)], []⟩) h ?_ ?_
  · exact ImpX.lq [] rfl rfl rfl
  · intro n2 z1 σ' J1 hmk h hJ1 hA1
    obtain rfl := hmk
    replace h : Q_only_b1 p0x0 p1x0 n2 = some z1 := h
    unfold Q_only_b1 at h
    refine tSR <| ARun.qv (q_lss rfl rfl) rfl <| rN <| tS <| ATodo.cond_d rfl (fun hc => ?_) (fun hc => ?_)
    · refine have h := iteT hc h; tK <| tS <| ATodo.block <| tSR <| rM rfl rfl <| rA rfl rfl <| rN <| tSR <| rM rfl rfl <| rM rfl rfl <| rM rfl rfl <| bndE h fun c3 e1 h => ARun.qv (t_index_str rfl rfl e1) rfl <| r_callp rfl (strings_IndexByte_c rfl) (CoL.refl _) rfl <| ARun.qv (q_lss rfl rfl) rfl <| rN <| ATodo.cond_d rfl (fun hc => ?_) (fun hc => ?_)
      · refine have h := iteT hc h; tSR <| rA rfl rfl <| rN <| ATodo.ret <| have h := outL h hA1; ?_
        obtain rfl := Option.some.inj h
        exact ImpX.here ⟨_, .cons (.tmp _ _ rfl) .nil, rfl⟩
      · refine have h := iteF hc h; tK <| ATodo.blk <| tR <| ARun.qv (q_addw rfl rfl) rfl <| rM rfl rfl <| rN <| ATodo.stop <| ?_
        obtain rfl := Option.some.inj h
        exact hJ1 _ _ rfl <| ImpX.lq [] rfl rfl rfl
    · refine have h := iteF hc h; ATodo.exit rfl <| have h := outL h hA1; tSR <| rA rfl rfl <| rN <| ATodo.ret <| ?_
      obtain rfl := Option.some.inj h
      exact ImpX.here ⟨_, .cons (.tmp _ _ rfl) .nil, rfl⟩

set_option maxHeartbeats 4000000 in
theorem Q_Key_c [GI : GTab] {p0x0 : Str} {r : Bool} (h : Q_Key p0x0 = some r) : Pu Tryz.prog 80 [.str p0x0] (.bool r) := by
  unfold Q_Key at h
  refine ACall.bodyN Tryz.func80 rfl Tryz.ntmps80 Tryz.results80 rfl rfl ?_
  refine tSR <| rA rfl rfl <| rN <| tS <| ATodo.cut (fun σ' => ∃ (c1 : Bool), Q_Key_j1 c1 = some r ∧ σ' = ⟨15, [(2, .bool c1)], []⟩) ?_ ?_
  · refine tR <| rM rfl rfl <| ARun.qv (q_len_str rfl) rfl <| r_callp rfl (Q_in_c rfl) (CoL.refl _) rfl <| rM rfl rfl <| ARun.guard rfl rfl rfl (fun hc => ?_) (fun hc => ?_)
    · refine have h := iteT hc h; rM rfl rfl <| rY rfl rfl rfl <| bndE h fun l2 e1 h => ARun.qv (t_slice_str rfl .none (.some _ _ _ rfl) rfl rfl e1) rfl <| rY rfl rfl rfl <| bndE h fun v3 e2 h => r_callp rfl (Q_only_c e2) (CoL.refl _) rfl <| rT rfl rfl rfl <| rM rfl rfl <| ARun.guard rfl rfl rfl (fun hc => ?_) (fun hc => ?_)
      · exact have h := iteT hc h; rM rfl rfl <| rY rfl rfl rfl <| bndE h fun v4 e3 h => r_callp rfl (Q_only_c e3) (CoL.refl _) rfl <| rT rfl rfl rfl <| rA rfl rfl <| rN <| ATodo.stop <| ImpX.lq [] ⟨v4, h, rfl⟩ rfl rfl
      · exact have h := iteFb hc h; rG rfl rfl rfl rfl <| rE rfl rfl rfl <| rA rfl rfl <| rN <| ATodo.stop <| ImpX.lq [] ⟨false, h, rfl⟩ rfl rfl
    · exact have h := iteFb hc h; rG rfl rfl rfl rfl <| rG rfl rfl rfl rfl <| rE rfl rfl rfl <| rM rfl rfl <| rG rfl rfl rfl rfl <| rG rfl rfl rfl rfl <| rE rfl rfl rfl <| rA rfl rfl <| rN <| ATodo.stop <| ImpX.lq [] ⟨false, h, rfl⟩ rfl rfl
  · rintro σ' ⟨c1, h, rfl⟩
    unfold Q_Key_j1 at h
    refine ATodo.ret <| ?_
    obtain rfl := Option.some.inj h
    exact ImpX.here ⟨_, .cons (.tmp _ _ rfl) .nil, rfl⟩

set_option maxHeartbeats 4000000 in
theorem Q_Printed_1x_c [GI : GTab] {p0x0 : Int} {r : Bool} (h : Q_Printed_1x p0x0 = r) : Pu Tryz.prog 113 [.int .i32 p0x0] (.bool r) := by
  unfold Q_Printed_1x at h
  refine ACall.bodyN Tryz.func113 rfl Tryz.ntmps113 Tryz.results113 rfl rfl ?_
  refine tSR <| rA rfl rfl <| rN <| tS <| ATodo.cut (fun σ' => ∃ (c1 : Bool), Q_Printed_1x_j1 c1 = r ∧ σ' = ⟨9, [(2, .bool c1)], []⟩) ?_ ?_
  · refine tR <| rM rfl rfl <| ARun.qv (q_lss rfl rfl) rfl <| rM rfl rfl <| ARun.guard_df rfl rfl rfl (fun hc => ?_) (fun hc => ?_)
    · rw [orFd hc] at h
      exact rM rfl rfl <| rY rfl rfl rfl <| ARun.qv (q_eql rfl rfl) rfl <| rE rfl rfl rfl <| rA rfl rfl <| rN <| ATodo.stop <| ImpX.lq [] ⟨decide (p0x0 = (127 : Int)), h, rfl⟩ rfl rfl
    · rw [orTd hc] at h
      exact rG rfl rfl rfl rfl <| rT rfl rfl rfl <| rA rfl rfl <| rN <| ATodo.stop <| ImpX.lq [] ⟨true, h, rfl⟩ rfl rfl
  · rintro σ' ⟨c1, h, rfl⟩
    unfold Q_Printed_1x_j1 at h
    refine ATodo.ret <| ?_
    obtain rfl := h
    exact ImpX.here ⟨_, .cons (.tmp _ _ rfl) .nil, rfl⟩

set_option maxHeartbeats 4000000 in
theorem Q_Printed_c {p0x0 : Str} {r : Bool} (h : Q_Printed p0x0 = some r) : Pu Tryz.prog 81 [.str p0x0] (.bool r) := by
  unfold Q_Printed at h
  refine ACall.bodyN Tryz.func81 rfl Tryz.ntmps81 Tryz.results81 rfl rfl ?_
  refine tSR <| rA rfl rfl <| rN <| tS <| ATodo.cut (fun σ' => ∃ (c1 : Bool), Q_Printed_j1 c1 = some r ∧ σ' = ⟨10, [(2, .bool c1)], []⟩) ?_ ?_
  · refine tR <| rM rfl rfl <| bndE h fun v2 e1 h => r_callp rfl (utf8_ValidString_c e1) (CoL.refl _) rfl <| rM rfl rfl <| ARun.guard rfl rfl rfl (fun hc => ?_) (fun hc => ?_)
    · exact have h := iteT hc h; rM rfl rfl <| rY rfl rfl rfl <| bndE h fun v3 e2 h => r_callpB rfl (strings_ContainsFunc_c (fun e => Q_Printed_1x_c (Option.some.inj e)) e2) (.cons (.co (.refl _)) (.cons (.funcL _ _ _ .nil) .nil)) rfl rfl <| rY rfl rfl rfl <| ARun.qv (q_not rfl) rfl <| rT rfl rfl rfl <| rA rfl rfl <| rN <| ATodo.stop <| ImpX.lq [] ⟨!v3, h, rfl⟩ rfl rfl
    · exact have h := iteFb hc h; rG rfl rfl rfl rfl <| rG rfl rfl rfl rfl <| rE rfl rfl rfl <| rA rfl rfl <| rN <| ATodo.stop <| ImpX.lq [] ⟨false, h, rfl⟩ rfl rfl
  · rintro σ' ⟨c1, h, rfl⟩
    unfold Q_Printed_j1 at h
    refine ATodo.ret <| ?_
    obtain rfl := Option.some.inj h
    exact ImpX.here ⟨_, .cons (.tmp _ _ rfl) .nil, rfl⟩

set_option maxHeartbeats 4000000 in
theorem Q_Moment_c [GI : GTab] {p0x0 : Int} {r : Bool} (h : Q_Moment p0x0 = r) : Pu Tryz.prog 39 [I p0x0] (.bool r) := by
  unfold Q_Moment at h
  refine ACall.bodyN Tryz.func39 rfl Tryz.ntmps39 Tryz.results39 rfl rfl ?_
  refine tSR <| rA rfl rfl <| rN <| tSR <| rM rfl rfl <| r_callp rfl (Q_in_c rfl) (CoL.refl _) rfl <| rA rfl rfl <| rN <| ATodo.ret <| ?_
  obtain rfl := h
  exact ImpX.here ⟨_, .cons (.tmp _ _ rfl) .nil, rfl⟩

set_option maxHeartbeats 4000000 in
theorem Q_LetterFault_c {p0x0 : Letter} {r : Int} (h : Q_LetterFault p0x0 = some r) : Pu Tryz.prog 38 [.agg [.str p0x0.Id, .str p0x0.Slot, .str p0x0.Body, I p0x0.Prio, I p0x0.At, I p0x0.Until]] (I r) := by
  unfold Q_LetterFault at h
  refine ACall.bodyN Tryz.func38 rfl Tryz.ntmps38 Tryz.results38 rfl rfl ?_
  refine tSR <| n_box rfl rfl rfl rfl fun b1 => rA rfl rfl <| rN <| tS <| ATodo.block <| tS <| ATodo.cut (fun σ' => ∃ (c2 : Bool), Q_LetterFault_j1 p0x0 c2 = some r ∧ σ' = ⟨52, [(1, .ptr b1 0), (3, .bool c2)], [(b1, .cells [.str p0x0.Id, .str p0x0.Slot, .str p0x0.Body, I p0x0.Prio, I p0x0.At, I p0x0.Until])]⟩) ?_ ?_
  · refine tR <| rF rfl rfl rfl <| rL rfl rfl .p0 rfl rfl <| bndE h fun v3 e1 h => r_callp rfl (Q_Key_c e1) (CoL.refl _) rfl <| ARun.qv (q_not rfl) rfl <| rM rfl rfl <| ARun.guard rfl rfl rfl (fun hc => ?_) (fun hc => ?_)
    · refine have h := iteFb hc h; rF rfl rfl rfl <| rY rfl rfl rfl <| rL rfl rfl .p0 rfl rfl <| rY rfl rfl rfl <| ARun.qv (q_sne rfl rfl) rfl <| rY rfl rfl rfl <| rM rfl rfl <| ARun.guard_dt rfl rfl rfl (fun hc => ?_) (fun hc => ?_)
      · exact have h := iteT hc h; rF rfl rfl rfl <| rY rfl rfl rfl <| rL rfl rfl .p0 rfl rfl <| rY rfl rfl rfl <| bndE h fun v4 e2 h => r_callp rfl (Q_Key_c e2) (CoL.refl _) rfl <| rY rfl rfl rfl <| ARun.qv (q_not rfl) rfl <| rY rfl rfl rfl <| rT rfl rfl rfl <| rE rfl rfl rfl <| rA rfl rfl <| rN <| ATodo.stop <| ImpX.lq [0] ⟨!v4, h, rfl⟩ rfl rfl
      · exact have h := iteF hc h; rG rfl rfl rfl rfl <| rG rfl rfl rfl rfl <| rG rfl rfl rfl rfl <| rY rfl rfl rfl <| rE rfl rfl rfl <| rE rfl rfl rfl <| rA rfl rfl <| rN <| ATodo.stop <| ImpX.lq [0] ⟨false, h, rfl⟩ rfl rfl
    · exact have h := iteT hc h; rG rfl rfl rfl rfl <| rG rfl rfl rfl rfl <| rG rfl rfl rfl rfl <| ARun.guard_und rfl rfl rfl <| ARun.guard_und rfl rfl rfl <| ARun.guard_und rfl rfl rfl <| ARun.guard_und rfl rfl rfl <| rG rfl rfl rfl rfl <| rT rfl rfl rfl <| rA rfl rfl <| rN <| ATodo.stop <| ImpX.lq [0] ⟨true, h, rfl⟩ rfl rfl
  · rintro σ' ⟨c2, h, rfl⟩
    unfold Q_LetterFault_j1 at h
    refine ATodo.cond rfl (fun hc => ?_) (fun hc => ?_)
    · refine have h := iteT hc h; tSR <| rA rfl rfl <| rN <| ATodo.ret <| ?_
      obtain rfl := Option.some.inj h
      exact ImpX.here ⟨_, .cons (.tmp _ _ rfl) .nil, rfl⟩
    · refine have h := iteFb hc h; tSR <| rF rfl rfl rfl <| rL rfl rfl .p0 rfl rfl <| ARun.qv (q_len_str rfl) rfl <| ARun.qv (q_gtr rfl rfl) rfl <| rA rfl rfl <| rN <| ATodo.cond_d rfl (fun hc => ?_) (fun hc => ?_)
      · refine have h := iteT hc h; tSR <| rA rfl rfl <| rN <| ATodo.ret <| ?_
        obtain rfl := Option.some.inj h
        exact ImpX.here ⟨_, .cons (.tmp _ _ rfl) .nil, rfl⟩
      · refine have h := iteF hc h; tSR <| rF rfl rfl rfl <| rL rfl rfl .p0 rfl rfl <| bndE h fun v5 e3 h => r_callp rfl (Q_Printed_c e3) (CoL.refl _) rfl <| ARun.qv (q_not rfl) rfl <| rA rfl rfl <| rN <| ATodo.cond rfl (fun hc => ?_) (fun hc => ?_)
        · refine have h := iteT hc h; tSR <| rA rfl rfl <| rN <| ATodo.ret <| ?_
          obtain rfl := Option.some.inj h
          exact ImpX.here ⟨_, .cons (.tmp _ _ rfl) .nil, rfl⟩
        · refine have h := iteFb hc h; tS <| ATodo.cut (fun σ' => ∃ (c6 : Bool), Q_LetterFault_j2 c6 = some r ∧ σ' = ⟨52, [(29, .bool c6)], []⟩) ?_ ?_
          · refine tR <| rF rfl rfl rfl <| rL rfl rfl .p0 rfl rfl <| r_callp rfl (Q_in_c rfl) (CoL.refl _) rfl <| ARun.qv (q_not rfl) rfl <| rM rfl rfl <| ARun.guard rfl rfl rfl (fun hc => ?_) (fun hc => ?_)
            · rw [orFb hc] at h
              refine rF rfl rfl rfl <| rY rfl rfl rfl <| rL rfl rfl .p0 rfl rfl <| rY rfl rfl rfl <| r_callp rfl (Q_Moment_c rfl) (CoL.refl _) rfl <| rY rfl rfl rfl <| ARun.qv (q_not rfl) rfl <| rE rfl rfl rfl <| rM rfl rfl <| ARun.guard rfl rfl rfl (fun hc => ?_) (fun hc => ?_)
              · rw [orFb hc] at h
                refine rF rfl rfl rfl <| rY rfl rfl rfl <| rL rfl rfl .p0 rfl rfl <| rY rfl rfl rfl <| rF rfl rfl rfl <| rY rfl rfl rfl <| rL rfl rfl .p0 rfl rfl <| rY rfl rfl rfl <| ARun.qv (q_leq rfl rfl) rfl <| rE rfl rfl rfl <| rM rfl rfl <| ARun.guard_df rfl rfl rfl (fun hc => ?_) (fun hc => ?_)
                · rw [orFd hc] at h
                  exact rF rfl rfl rfl <| rY rfl rfl rfl <| rL rfl rfl .p0 rfl rfl <| rY rfl rfl rfl <| ARun.qv (q_gtr rfl rfl) rfl <| rE rfl rfl rfl <| rA rfl rfl <| rN <| ATodo.stop <| ImpX.lq [] ⟨decide ((345686400000 : Int) < p0x0.Until), h, rfl⟩ rfl rfl
                · rw [orTd hc] at h
                  exact rG rfl rfl rfl rfl <| rG rfl rfl rfl rfl <| rT rfl rfl rfl <| rA rfl rfl <| rN <| ATodo.stop <| ImpX.lq [] ⟨true, h, rfl⟩ rfl rfl
              · rw [orTb hc] at h
                exact rG rfl rfl rfl rfl <| rG rfl rfl rfl rfl <| rG rfl rfl rfl rfl <| rG rfl rfl rfl rfl <| rT rfl rfl rfl <| rM rfl rfl <| rG rfl rfl rfl rfl <| rG rfl rfl rfl rfl <| rG rfl rfl rfl rfl <| rT rfl rfl rfl <| rA rfl rfl <| rN <| ATodo.stop <| ImpX.lq [] ⟨true, h, rfl⟩ rfl rfl
            · rw [orTb hc] at h
              exact rG rfl rfl rfl rfl <| rG rfl rfl rfl rfl <| rG rfl rfl rfl rfl <| rT rfl rfl rfl <| rM rfl rfl <| rG rfl rfl rfl rfl <| rG rfl rfl rfl rfl <| rG rfl rfl rfl rfl <| rG rfl rfl rfl rfl <| rG rfl rfl rfl rfl <| rT rfl rfl rfl <| rM rfl rfl <| rG rfl rfl rfl rfl <| rG rfl rfl rfl rfl <| rG rfl rfl rfl rfl <| rT rfl rfl rfl <| rA rfl rfl <| rN <| ATodo.stop <| ImpX.lq [] ⟨true, h, rfl⟩ rfl rfl
          · rintro σ' ⟨c6, h, rfl⟩
            unfold Q_LetterFault_j2 at h
            refine ATodo.cond rfl (fun hc => ?_) (fun hc => ?_)
            · refine have h := iteT hc h; tSR <| rA rfl rfl <| rN <| ATodo.ret <| ?_
              obtain rfl := Option.some.inj h
              exact ImpX.here ⟨_, .cons (.tmp _ _ rfl) .nil, rfl⟩
            · refine have h := iteFb hc h; tK <| ATodo.blk <| tSR <| rA rfl rfl <| rN <| ATodo.ret <| ?_
              obtain rfl := Option.some.inj h
              exact ImpX.here ⟨_, .cons (.tmp _ _ rfl) .nil, rfl⟩

set_option maxHeartbeats 4000000 in
theorem slices_Clone_Note_Note_c [GI : GTab] {p0x0 : List Note} {r : (List Note)} (h : slices_Clone_Note_Note p0x0 = some r) : ACall Tryz.prog 67 [.list 9 (p0x0.map Note.av)] [] (T1 (fun d_0 => [(d_0, .arr 9 (r.map Note.av))]) (fun d_0 => .sl 9 d_0 0 r.length)) := by
  unfold slices_Clone_Note_Note at h
  refine ACall.lessH ?_
  refine ACall.bodyN Tryz.func67 rfl Tryz.ntmps67 Tryz.results67 rfl rfl ?_
  refine ATodo.seq ?_
  refine ATodo.region ?_
  refine ARun.qv (q_assign rfl) rfl ?_
  refine ARun.nil ?_
  refine ATodo.seq ?_
  refine ATodo.seq ?_
  refine ATodo.region ?_
  refine ARun.qv (q_move rfl) rfl ?_
  refine r_eqnil rfl rfl rfl rfl (fun c hc => ?_)
  refine ARun.nil ?_
  refine ATodo.cond rfl (fun hT => ?_) (fun hF => ?_)
  · obtain rfl := app_nil_some h (List.map_eq_nil_iff.1 (hc hT))
    refine ATodo.seq ?_
    refine ATodo.region ?_
    refine ARun.qv (q_assign rfl) rfl ?_
    refine ARun.nil ?_
    refine ATodo.ret ?_
    refine ImpX.arr (s := 2) 9 rfl (fun b1 => ?_)
    exact ImpX.here ⟨_, .cons (.tmp _ _ rfl) .nil, _, .cons .here .nil, ⟨b1, rfl, rfl⟩⟩
  · refine ATodo.skip ?_
    refine ATodo.seq ?_
    refine ATodo.region ?_
    refine n_buildSlice (xs := ([] : List Note).map Note.av) rfl rfl rfl rfl rfl rfl (fun b2 => ?_)
    refine ARun.qv (q_move rfl) rfl ?_
    refine t_append (g := Note.av) (Xs := []) rfl rfl rfl rfl rfl rfl rfl rfl (.list _) h (fun _ => .here) rfl (fun b3 => ?_)
    refine ARun.qv (q_assign rfl) rfl ?_
    refine ARun.nil ?_
    refine ATodo.ret ?_
    exact ImpX.here ⟨_, .cons (.tmp _ _ rfl) .nil, _, .cons .here .nil, ⟨b3, rfl, rfl⟩⟩

set_option maxHeartbeats 4000000 in
theorem Q_open_c [GI : GTab] {p0x0 : Note} {r : Bool} (h : Q_open p0x0 = r) : Pu Tryz.prog 93 [.agg [.str p0x0.Letter.Id, .str p0x0.Letter.Slot, .str p0x0.Letter.Body, I p0x0.Letter.Prio, I p0x0.Letter.At, I p0x0.Letter.Until, I p0x0.State, I p0x0.Tries, I p0x0.Since]] (.bool r) := by
  unfold Q_open at h
  refine ACall.bodyN Tryz.func93 rfl Tryz.ntmps93 Tryz.results93 rfl rfl ?_
  refine tSR <| n_box rfl rfl rfl rfl fun b1 => rA rfl rfl <| rN <| tS <| ATodo.cut (fun σ' => ∃ (c2 : Bool), Q_open_j1 c2 = r ∧ σ' = ⟨11, [(2, .bool c2)], []⟩) ?_ ?_
  · refine tR <| rF rfl rfl rfl <| rL rfl rfl .p0 rfl rfl <| ARun.qv (q_eql rfl rfl) rfl <| rM rfl rfl <| ARun.guard_df rfl rfl rfl (fun hc => ?_) (fun hc => ?_)
    · rw [orFd hc] at h
      exact rF rfl rfl rfl <| rY rfl rfl rfl <| rL rfl rfl .p0 rfl rfl <| rY rfl rfl rfl <| ARun.qv (q_eql rfl rfl) rfl <| rE rfl rfl rfl <| rA rfl rfl <| rN <| ATodo.stop <| ImpX.lq [] ⟨decide (p0x0.State = (2 : Int)), h, rfl⟩ rfl rfl
    · rw [orTd hc] at h
      exact rG rfl rfl rfl rfl <| rG rfl rfl rfl rfl <| rT rfl rfl rfl <| rA rfl rfl <| rN <| ATodo.stop <| ImpX.lq [] ⟨true, h, rfl⟩ rfl rfl
  · rintro σ' ⟨c2, h, rfl⟩
    unfold Q_open_j1 at h
    refine ATodo.ret <| ?_
    obtain rfl := h
    exact ImpX.here ⟨_, .cons (.tmp _ _ rfl) .nil, rfl⟩

set_option maxHeartbeats 4000000 in
theorem Q_Desk_due_c [GI : GTab] {p0x0 : Fleetref2_Desk} {p1x0 : Note} {r : Int} (h : Q_Desk_due p0x0 p1x0 = r) : Pu Tryz.prog 96 [.rptr [I p0x0.P.Room, I p0x0.P.Timeout, I p0x0.P.Tries, I p0x0.P.Kept, .list 9 (p0x0.L.map Note.av), I p0x0.time_], .agg [.str p1x0.Letter.Id, .str p1x0.Letter.Slot, .str p1x0.Letter.Body, I p1x0.Letter.Prio, I p1x0.Letter.At, I p1x0.Letter.Until, I p1x0.State, I p1x0.Tries, I p1x0.Since]] (I r) := by
  unfold Q_Desk_due at h
  refine ACall.bodyN Tryz.func96 rfl Tryz.ntmps96 Tryz.results96 rfl rfl ?_
  refine tSR <| n_box rfl rfl rfl rfl fun b1 => rA rfl rfl <| rN <| tS <| tSR <| rF rfl rfl rfl <| rL rfl rfl .p0 rfl rfl <| rN <| ATodo.block <| tSR <| ARun.qv (q_eql rfl rfl) rfl <| rA rfl rfl <| rN <| ATodo.cond_d rfl (fun hc => ?_) (fun hc => ?_)
  · refine have h := iteT hc h; tSR <| rF rfl rfl rfl <| rF rfl rfl rfl <| rL rfl rfl .p0 rfl rfl <| rA rfl rfl <| rN <| ATodo.ret <| ?_
    obtain rfl := h
    exact ImpX.here ⟨_, .cons (.tmp _ _ rfl) .nil, rfl⟩
  · refine have h := iteF hc h; tSR <| ARun.qv (q_eql rfl rfl) rfl <| rA rfl rfl <| rN <| ATodo.cond_d rfl (fun hc => ?_) (fun hc => ?_)
    · refine have h := iteT hc h; tS <| ATodo.regionM (id := 5) (A := [0, 1, 3, 0, 8, 0, 32, 96, 224, 480, 1016, 2047, 4095]) 13 mixed rfl (by kernel_rfl) (by kernel_rfl) <| AM.qv (n_field_ptr rfl rfl) rfl <| AM.qv (n_field_ptr rfl rfl) rfl <| AM.qv (q_load_ptr rfl rfl .p0 rfl) rfl <| AM.qv (n_field_ptr rfl rfl) rfl <| AM.qv (q_load_ptr rfl rfl .p0 rfl) rfl <| AM.qv (q_move rfl) rfl <| AM.qv (q_nilCheck_rptr rfl) rfl <| AM.qv (n_field_rptr rfl rfl) rfl <| AM.qv (n_field_rptr rfl rfl) rfl <| AM.qv (q_load_rptr rfl rfl rfl) rfl <| AM.qv (q_addw rfl rfl) rfl <| AM.qv (q_min rfl rfl) rfl <| AM.qv (q_assign rfl) rfl <| AM.nil <| rN <| ATodo.ret <| ?_
      obtain rfl := h
      exact ImpX.here ⟨_, .cons (.tmp _ _ rfl) .nil, rfl⟩
    · refine have h := iteF hc h; tK <| ATodo.blk <| tSR <| rA rfl rfl <| rN <| ATodo.ret <| ?_
      obtain rfl := h
      exact ImpX.here ⟨_, .cons (.tmp _ _ rfl) .nil, rfl⟩

set_option maxHeartbeats 4000000 in
theorem slices_Delete_Note_Note_c [GI : GTab] {b_0 : Bk} {p0x0 : List Note} {p1x0 p2x0 : Int} {r : List Note} (h : slices_Delete_Note_Note p0x0 p1x0 p2x0 = some r) : ACall Tryz.prog 94 [.sl 9 b_0 0 p0x0.length, I p1x0, I p2x0] [(b_0, .arr 9 (p0x0.map Note.av))] (T1 (fun d_0 => [(d_0, .arr 9 (r.map Note.av))]) (fun d_0 => .sl 9 d_0 0 r.length)) := by
  obtain ⟨⟨h0, h1, h2⟩, rfl⟩ := delO_some h
  have hlen : 0 < p0x0.length := by omega
  have hz : (p0x0.take p1x0.toNat ++ p0x0.drop p2x0.toNat).length ≤ p0x0.length := by simp; omega
  refine ACall.lessH ?_
  refine ACall.bodyN Tryz.func94 rfl Tryz.ntmps94 Tryz.results94 rfl rfl ?_
  refine ATodo.ghost (ImpX.rawS (s := 0) rfl hlen (fun m cap hb hc1 hc2 => ImpX.here ?_))
  refine ATodo.seq ?_
  refine ATodo.region ?_
  refine ARun.qv (q_assign rfl) rfl ?_
  refine ARun.nil ?_
  refine ATodo.seq ?_
  refine ATodo.region ?_
  refine ARun.qv (q_move rfl) rfl ?_
  refine ARun.qv (q_move rfl) rfl ?_
  refine ARun.qv (q_move rfl) rfl ?_
  refine ARun.qv (q_move rfl) rfl ?_
  refine ARun.qv (q_len_raw rfl) rfl ?_
  refine ARun.qv (q_slice_raw3 rfl rfl rfl rfl h0 (by omega) h2 (by omega)) rfl ?_
  refine ARun.nil ?_
  refine ATodo.seq ?_
  refine ATodo.seq ?_
  refine ATodo.region ?_
  refine ARun.qv (q_move rfl) rfl ?_
  refine ARun.qv (q_move rfl) rfl ?_
  refine ARun.qv (q_eql rfl rfl) rfl ?_
  refine ARun.nil ?_
  refine ATodo.cond_d rfl (fun hc => absurd hc (by omega)) (fun hc => ?_)
  refine ATodo.skip ?_
  refine ATodo.seq ?_
  refine ATodo.region ?_
  refine ARun.qv (q_move rfl) rfl ?_
  refine ARun.qv (q_len_raw rfl) rfl ?_
  refine ARun.qv (q_assign rfl) rfl ?_
  refine ARun.nil ?_
  refine ATodo.seq ?_
  refine ATodo.regionM (id := 5) (A := [0, 0, 3, 0, 0, 24, 63, 127]) 6 mixed rfl (by kernel_rfl) (by kernel_rfl) ?_
  refine AM.qv (q_move rfl) rfl ?_
  refine AM.qv (q_move rfl) rfl ?_
  refine AM.qv (q_slice_raw0 rfl rfl h0 (by omega)) rfl ?_
  refine AM.qv (q_move rfl) rfl ?_
  refine AM.qv (q_move rfl) rfl ?_
  refine AM.qv (q_slice_raw1 (sz := 9) (b := b_0) rfl rfl rfl hb hc2 (by omega) h2 hc1) rfl ?_
  refine AM.nil ?_
  refine t_delAppend (g := Note.av) (Xs := p0x0) (I' := p1x0) (J := p2x0) h0 (by omega) h2 hc1 rfl rfl rfl rfl rfl hb hc2 .here .here ?_
  refine ARun.qv (q_assign rfl) rfl ?_
  refine ARun.nil ?_
  refine ATodo.seq ?_
  refine ATodo.region ?_
  refine ARun.qv (q_move rfl) rfl ?_
  refine ARun.qv (q_move rfl) rfl ?_
  refine ARun.qv (q_len_raw rfl) rfl ?_
  refine ARun.qv (q_move rfl) rfl ?_
  refine ARun.qv (q_slice_raw2 (sz := 9) (b := b_0) rfl rfl rfl rfl hb hc2 (by omega) (by omega) (by omega)) rfl ?_
  refine r_clear_room (xs := (p0x0.take p1x0.toNat ++ p0x0.drop p2x0.toNat).map Note.av) rfl rfl rfl rfl rfl rfl (by rw [List.length_map, Int.toNat_natCast]; exact Nat.le_refl _) .here ?_
  refine ARun.nil ?_
  refine ATodo.seq ?_
  refine ATodo.region ?_
  refine ARun.qv (q_move rfl) rfl ?_
  refine ARun.qv (q_assign rfl) rfl ?_
  refine ARun.nil ?_
  refine ATodo.ret ?_
  refine ImpX.unrawS (s := 6) (sz := 9) rfl hb (by omega) hc2 ?_
  exact ImpX.here ⟨_, .cons (.tmp _ _ rfl) .nil, _, .cons .here .nil, ⟨b_0, rfl, rfl⟩⟩

set_option maxHeartbeats 4000000 in
theorem Q_Desk_forget_c [GI : GTab] {b_0 : Bk} {b_0x4 : Bk} {p0x0 : Fleetref2_Desk} {r : Fleetref2_Desk} (h : Q_Desk_forget p0x0 = some r) : ACall Tryz.prog 88 [.ptr b_0 0] [(b_0, .cells [I p0x0.P.Room, I p0x0.P.Timeout, I p0x0.P.Tries, I p0x0.P.Kept, .sl 9 b_0x4 0 p0x0.L.length, I p0x0.time_]), (b_0x4, .arr 9 (p0x0.L.map Note.av))] (T1 (fun c_0x4 => [(b_0, .cells [I r.P.Room, I r.P.Timeout, I r.P.Tries, I r.P.Kept, .sl 9 c_0x4 0 r.L.length, I r.time_]), (c_0x4, .arr 9 (r.L.map Note.av))]) (fun c_0x4 => .tup [])) := by
  unfold Q_Desk_forget at h
  refine ACall.lessH ?_
  refine ACall.bodyN Tryz.func88 rfl Tryz.ntmps88 Tryz.results88 rfl rfl ?_
  refine ATodo.block <| ATodo.loopI (fun x : (List Note) => Q_Desk_forget_b1 p0x0 x) (fun x σ' => ∃ (b3 : Bk), σ' = ⟨55, [(0, .ptr b_0 0)], [(b_0, .cells [I p0x0.P.Room, I p0x0.P.Timeout, I p0x0.P.Tries, I p0x0.P.Kept, .sl 9 b3 0 x.length, I p0x0.time_]), (b3, .arr 9 (x.map Note.av))]⟩) h ?_ ?_
  · exact ImpX.lq [0, 0] ⟨b_0x4, rfl⟩ rfl rfl
  · intro l4 z1 σ' J1 hmk h hJ1 hA1
    obtain ⟨b3, rfl⟩ := hmk
    replace h : Q_Desk_forget_b1 p0x0 l4 = some z1 := h
    unfold Q_Desk_forget_b1 at h
    refine ATodo.block <| tSR <| rA rfl rfl <| rA rfl rfl <| rN <| tS <| tSR <| rM rfl rfl <| ARun.qv (q_nilCheck_ptr rfl) rfl <| rF rfl rfl rfl <| rL rfl rfl .p0 rfl rfl <| ARun.qv (t_len_sl rfl) rfl <| rM rfl rfl <| rN <| ATodo.block <| ATodo.loopI (fun x : Int × Int × Int => Q_Desk_forget_b2 p0x0 l4 x.1 x.2.1 x.2.2) (fun x σ' => σ' = ⟨55, [(0, .ptr b_0 0), (2, I x.1), (3, I x.2.1), (9, .sl 9 b3 0 l4.length), (10, I (l4.length : Int)), (11, I x.2.2)], [(b_0, .cells [I p0x0.P.Room, I p0x0.P.Timeout, I p0x0.P.Tries, I p0x0.P.Kept, .sl 9 b3 0 l4.length, I p0x0.time_]), (b3, .arr 9 (l4.map Note.av))]⟩) h ?_ ?_
    · exact ImpX.lq [0, 0] rfl rfl rfl
    · intro x z2 σ' J2 hmk h hJ2 hA2
      obtain ⟨n8, n9, n10⟩ := x
      obtain rfl := hmk
      replace h : Q_Desk_forget_b2 p0x0 l4 n8 n9 n10 = some z2 := h
      unfold Q_Desk_forget_b2 at h
      refine tSR <| ARun.qv (q_lss rfl rfl) rfl <| rN <| tS <| ATodo.cond_d rfl (fun hc => ?_) (fun hc => ?_)
      · refine have h := iteT hc h; tK <| tS <| ATodo.cut (fun σ' => ∃ (n11 : Int) (n12 : Int), Q_Desk_forget_j1 n10 n11 n12 = some z2 ∧ σ' = ⟨55, [(0, .ptr b_0 0), (2, I n11), (3, I n12), (9, .sl 9 b3 0 l4.length), (10, I (l4.length : Int)), (11, I n10)], [(b_0, .cells [I p0x0.P.Room, I p0x0.P.Timeout, I p0x0.P.Tries, I p0x0.P.Kept, .sl 9 b3 0 l4.length, I p0x0.time_]), (b3, .arr 9 (l4.map Note.av))]⟩) ?_ ?_
        · refine ATodo.block <| tSR <| rM rfl rfl <| bndE h fun v13 e1 h => ARun.qv (t_index_sl rfl rfl rfl e1) rfl <| ARun.qv (t_load_aptr_agg (g := Note.av) rfl rfl (.inl .p1) rfl e1 rfl) rfl <| n_alloc rfl rfl rfl rfl fun b14 => rA rfl rfl <| n_store_ptr rfl rfl rfl rfl .p0 rfl rfl <| rN <| tS <| tSR <| ARun.qv (q_load_ptr_all rfl rfl .p0 rfl) rfl <| r_callp rfl (Q_open_c rfl) (CoL.refl _) rfl <| rN <| ATodo.cond rfl (fun hc => ?_) (fun hc => ?_)
          · exact have h := iteT hc h; ATodo.exit rfl <| ATodo.stop <| ImpX.lq [1, 1] ⟨n8, n9, h, rfl⟩ rfl rfl
          · refine have h := iteFb hc h; tK <| tSR <| rM rfl rfl <| ARun.qv (q_addw rfl rfl) rfl <| rA rfl rfl <| rN <| tS <| ATodo.cut (fun σ' => ∃ (c15 : Bool), Q_Desk_forget_j2 n8 n9 n10 c15 = some z2 ∧ σ' = ⟨55, [(0, .ptr b_0 0), (2, I n8), (3, I (w64 (n9 + (1 : Int)))), (4, I n10), (9, .sl 9 b3 0 l4.length), (10, I (l4.length : Int)), (11, I n10), (34, .bool c15)], [(b_0, .cells [I p0x0.P.Room, I p0x0.P.Timeout, I p0x0.P.Tries, I p0x0.P.Kept, .sl 9 b3 0 l4.length, I p0x0.time_]), (b3, .arr 9 (l4.map Note.av))]⟩) ?_ ?_
            · refine ATodo.regionM (id := 6) (A := [0, 1, 3, 7, 15, 7, 39, 103, 231, 7, 999, 2023, 4071, 8191, 16383]) 15 mixed rfl (by kernel_rfl) (by kernel_rfl) <| AM.qv (q_move rfl) rfl <| AM.qv (q_lss rfl rfl) rfl <| AM.qv (q_move rfl) rfl <| AM.guard_df rfl rfl rfl (fun hc => ?_) (fun hc => ?_)
              · exact have h := iteF hc h; AM.qv (n_field_ptr rfl rfl) rfl <| AM.guard_yes rfl rfl rfl <| AM.qv (q_load_ptr rfl rfl .p0 rfl) rfl <| AM.guard_yes rfl rfl rfl <| AM.qv (q_move rfl) rfl <| AM.guard_yes rfl rfl rfl <| AM.qv (q_nilCheck_ptr rfl) rfl <| AM.guard_yes rfl rfl rfl <| AM.qv (n_field_ptr rfl rfl) rfl <| AM.guard_yes rfl rfl rfl <| AM.qv (q_load_ptr rfl rfl .p1 rfl) rfl <| AM.guard_yes rfl rfl rfl <| AM.qv (q_move rfl) rfl <| AM.guard_yes rfl rfl rfl <| bndE h fun v16 e2 h => AM.qv (t_index_sl rfl rfl rfl e2) rfl <| AM.guard_yes rfl rfl rfl <| AM.qv (t_field_aptr rfl rfl) rfl <| AM.guard_yes rfl rfl rfl <| AM.qv (t_load_aptr (g := Note.av) rfl rfl (.inl .p2) e2 rfl) rfl <| AM.guard_yes rfl rfl rfl <| AM.qv (q_lss rfl rfl) rfl <| AM.qv (q_pick_f rfl rfl) rfl <| AM.nil <| rN <| ATodo.stop <| ImpX.lq [1, 1] ⟨decide (v13.Since < v16.Since), h, rfl⟩ rfl rfl
              · exact have h := iteT hc h; AM.guard_no rfl rfl rfl rfl <| AM.guard_no rfl rfl rfl rfl <| AM.guard_no rfl rfl rfl rfl <| AM.guard_no rfl rfl rfl rfl <| AM.guard_no rfl rfl rfl rfl <| AM.guard_no rfl rfl rfl rfl <| AM.guard_no rfl rfl rfl rfl <| AM.guard_no rfl rfl rfl rfl <| AM.guard_no rfl rfl rfl rfl <| AM.guard_no rfl rfl rfl rfl <| AM.qv (q_pick_t rfl rfl) rfl <| AM.nil <| rN <| ATodo.stop <| ImpX.lq [1, 1] ⟨true, h, rfl⟩ rfl rfl
            · rintro σ' ⟨c15, h, rfl⟩
              unfold Q_Desk_forget_j2 at h
              refine ATodo.cut (fun σ' => ∃ (n17 : Int), Q_Desk_forget_j3 n9 n10 n17 = some z2 ∧ σ' = ⟨55, [(0, .ptr b_0 0), (2, I n17), (3, I (w64 (n9 + (1 : Int)))), (9, .sl 9 b3 0 l4.length), (10, I (l4.length : Int)), (11, I n10)], [(b_0, .cells [I p0x0.P.Room, I p0x0.P.Timeout, I p0x0.P.Tries, I p0x0.P.Kept, .sl 9 b3 0 l4.length, I p0x0.time_]), (b3, .arr 9 (l4.map Note.av))]⟩) ?_ ?_
              · refine ATodo.cond rfl (fun hc => ?_) (fun hc => ?_)
                · exact have h := iteT hc h; tR <| rM rfl rfl <| rA rfl rfl <| rN <| ATodo.stop <| ImpX.lq [0, 0] ⟨n10, h, rfl⟩ rfl rfl
                · exact have h := iteFb hc h; tK <| ATodo.stop <| ImpX.lq [0, 0] ⟨n8, h, rfl⟩ rfl rfl
              · rintro σ' ⟨n17, h, rfl⟩
                unfold Q_Desk_forget_j3 at h
                exact ATodo.blk <| ATodo.stop <| ImpX.lq [0, 0] ⟨n17, w64 (n9 + (1 : Int)), h, rfl⟩ rfl rfl
        · rintro σ' ⟨n11, n12, h, rfl⟩
          unfold Q_Desk_forget_j1 at h
          refine tR <| ARun.qv (q_addw rfl rfl) rfl <| rM rfl rfl <| rN <| ATodo.stop <| ?_
          obtain rfl := Option.some.inj h
          exact hJ2 _ _ rfl <| ImpX.lq [0, 0] rfl rfl rfl
      · refine have h := iteF hc h; ATodo.exit rfl <| have h := outL h hA2; ?_
        unfold Q_Desk_forget_k4 at h
        refine tS <| tSR <| rM rfl rfl <| rM rfl rfl <| ARun.qv (q_nilCheck_ptr rfl) rfl <| rF rfl rfl rfl <| rF rfl rfl rfl <| rL rfl rfl .p0 rfl rfl <| ARun.qv (q_leq rfl rfl) rfl <| rN <| ATodo.cond_d rfl (fun hc => ?_) (fun hc => ?_)
        · refine have h := iteT hc h; ATodo.ret <| have h := outL h hA1; ?_
          obtain rfl := Option.some.inj h
          exact ImpX.here ⟨_, .nil, _, .cons .p0 (.cons .p0 .nil), ⟨b3, rfl, rfl⟩⟩
        · refine have h := iteF hc h; tK <| tR <| rM rfl rfl <| rM rfl rfl <| ARun.qv (q_nilCheck_ptr rfl) rfl <| rF rfl rfl rfl <| rL rfl rfl .p0 rfl rfl <| rM rfl rfl <| rM rfl rfl <| ARun.qv (q_addw rfl rfl) rfl <| bndE h fun v18 e3 h => t_call1 rfl (slices_Delete_Note_Note_c e3) (CoL.refl _) (.cons .p1 .nil) (fun _ => rfl) rfl fun b19 => ARun.qv (q_nilCheck_ptr rfl) rfl <| rF rfl rfl rfl <| n_store_ptr rfl rfl rfl rfl .p1 rfl rfl <| rN <| ATodo.blk <| ATodo.stop <| ?_
          obtain rfl := Option.some.inj h
          exact hJ1 _ _ rfl <| ImpX.lq [1, 0] ⟨b19, rfl⟩ rfl rfl

set_option maxHeartbeats 4000000 in
theorem Q_Desk_age_c [GI : GTab] {b_0 : Bk} {b_0x4 : Bk} {p0x0 : Fleetref2_Desk} {p1x0 : Int} {r : Fleetref2_Desk} (h : Q_Desk_age p0x0 p1x0 = some r) : ACall Tryz.prog 104 [.ptr b_0 0, I p1x0] [(b_0, .cells [I p0x0.P.Room, I p0x0.P.Timeout, I p0x0.P.Tries, I p0x0.P.Kept, .sl 9 b_0x4 0 p0x0.L.length, I p0x0.time_]), (b_0x4, .arr 9 (p0x0.L.map Note.av))] (T1 (fun c_0x4 => [(b_0, .cells [I r.P.Room, I r.P.Timeout, I r.P.Tries, I r.P.Kept, .sl 9 c_0x4 0 r.L.length, I r.time_]), (c_0x4, .arr 9 (r.L.map Note.av))]) (fun c_0x4 => .tup [])) := by
  unfold Q_Desk_age at h
  refine ACall.lessH ?_
  refine ACall.bodyN Tryz.func104 rfl Tryz.ntmps104 Tryz.results104 rfl rfl ?_
  refine tS <| tSR <| rM rfl rfl <| ARun.qv (q_nilCheck_ptr rfl) rfl <| rF rfl rfl rfl <| rL rfl rfl .p0 rfl rfl <| ARun.qv (t_len_sl rfl) rfl <| rM rfl rfl <| rN <| ATodo.block <| ATodo.loopI (fun x : (List Note) × Int => Q_Desk_age_b1 p0x0 p1x0 x.1 x.2) (fun x σ' => σ' = ⟨74, [(0, .ptr b_0 0), (1, I p1x0), (11, I (p0x0.L.length : Int)), (12, I x.2)], [(b_0, .cells [I p0x0.P.Room, I p0x0.P.Timeout, I p0x0.P.Tries, I p0x0.P.Kept, .sl 9 b_0x4 0 x.1.length, I p0x0.time_]), (b_0x4, .arr 9 (x.1.map Note.av))]⟩) h ?_ ?_
  · exact ImpX.lq [0, 0] rfl rfl rfl
  · intro x z1 σ' J1 hmk h hJ1 hA1
    obtain ⟨l3, n4⟩ := x
    obtain rfl := hmk
    replace h : Q_Desk_age_b1 p0x0 p1x0 l3 n4 = some z1 := h
    unfold Q_Desk_age_b1 at h
    refine tSR <| ARun.qv (q_lss rfl rfl) rfl <| rN <| tS <| ATodo.cond_d rfl (fun hc => ?_) (fun hc => ?_)
    · refine have h := iteT hc h; tK <| tS <| ATodo.block <| tSR <| rM rfl rfl <| rA rfl rfl <| rN <| tSR <| rM rfl rfl <| ARun.qv (q_nilCheck_ptr rfl) rfl <| rF rfl rfl rfl <| rL rfl rfl .p0 rfl rfl <| rM rfl rfl <| bndE h fun v5 e1 h => ARun.qv (t_index_sl rfl rfl rfl e1) rfl <| rA rfl rfl <| rN <| ATodo.block <| ATodo.loopI (fun x : (List Note) => Q_Desk_age_b2 p0x0 p1x0 n4 x) (fun x σ' => σ' = ⟨74, [(0, .ptr b_0 0), (1, I p1x0), (5, .aptr 9 b_0x4 n4.toNat 0), (11, I (p0x0.L.length : Int)), (12, I n4)], [(b_0, .cells [I p0x0.P.Room, I p0x0.P.Timeout, I p0x0.P.Tries, I p0x0.P.Kept, .sl 9 b_0x4 0 x.length, I p0x0.time_]), (b_0x4, .arr 9 (x.map Note.av))]⟩) h ?_ ?_
      · exact ImpX.lq [0, 0] rfl rfl rfl
      · intro l7 z2 σ' J2 hmk h hJ2 hA2
        obtain rfl := hmk
        replace h : Q_Desk_age_b2 p0x0 p1x0 n4 l7 = some z2 := h
        unfold Q_Desk_age_b2 at h
        refine tS <| tS <| ATodo.cut (fun σ' => ∃ (c8 : Bool), Q_Desk_age_j1 p0x0 n4 l7 c8 = some z2 ∧ σ' = ⟨74, [(0, .ptr b_0 0), (1, I p1x0), (5, .aptr 9 b_0x4 n4.toNat 0), (11, I (p0x0.L.length : Int)), (12, I n4), (33, .bool c8)], [(b_0, .cells [I p0x0.P.Room, I p0x0.P.Timeout, I p0x0.P.Tries, I p0x0.P.Kept, .sl 9 b_0x4 0 l7.length, I p0x0.time_]), (b_0x4, .arr 9 (l7.map Note.av))]⟩) ?_ ?_
        · refine tR <| rM rfl rfl <| ARun.qv (q_nilCheck_aptr rfl) rfl <| bndE h fun v9 e2 h => ARun.qv (t_load_aptr_agg (g := Note.av) rfl rfl (.inl .p1) rfl e2 rfl) rfl <| r_callp rfl (Q_open_c rfl) (CoL.refl _) rfl <| rM rfl rfl <| ARun.guard rfl rfl rfl (fun hc => ?_) (fun hc => ?_)
          · rw [andTb hc] at h
            exact rM rfl rfl <| rY rfl rfl rfl <| rM rfl rfl <| rY rfl rfl rfl <| ARun.qv (q_nilCheck_aptr rfl) rfl <| rY rfl rfl rfl <| ARun.qv (t_load_aptr_agg (g := Note.av) rfl rfl (.inl .p1) rfl e2 rfl) rfl <| rY rfl rfl rfl <| r_callpB rfl (Q_Desk_due_c (rfl : Q_Desk_due (⟨p0x0.P, l7, p0x0.time_⟩ : Fleetref2_Desk) v9 = _)) (.cons (.boxL _ _ _ .p0 (.cons (.co (.refl _)) (.cons (.co (.refl _)) (.cons (.co (.refl _)) (.cons (.co (.refl _)) (.cons (CoB.arrT .p1) (.cons (.co (.refl _)) .nil))))))) (.cons (.co (.refl _)) .nil)) rfl rfl <| rY rfl rfl rfl <| rM rfl rfl <| rY rfl rfl rfl <| ARun.qv (q_leq rfl rfl) rfl <| rT rfl rfl rfl <| rN <| ATodo.stop <| ImpX.lq [0, 0] ⟨decide ((Q_Desk_due (⟨p0x0.P, l7, p0x0.time_⟩ : Fleetref2_Desk) v9) ≤ p1x0), h, rfl⟩ rfl rfl
          · rw [andFb hc] at h
            exact rG rfl rfl rfl rfl <| rG rfl rfl rfl rfl <| rG rfl rfl rfl rfl <| rG rfl rfl rfl rfl <| rG rfl rfl rfl rfl <| rG rfl rfl rfl rfl <| rE rfl rfl rfl <| rN <| ATodo.stop <| ImpX.lq [0, 0] ⟨false, h, rfl⟩ rfl rfl
        · rintro σ' ⟨c8, h, rfl⟩
          unfold Q_Desk_age_j1 at h
          refine ATodo.cond rfl (fun hc => ?_) (fun hc => ?_)
          · refine have h := iteT hc h; tK <| ATodo.block <| tSR <| rM rfl rfl <| rM rfl rfl <| ARun.qv (q_nilCheck_aptr rfl) rfl <| bndE h fun v10 e3 h => ARun.qv (t_load_aptr_agg (g := Note.av) rfl rfl (.inl .p1) rfl e3 rfl) rfl <| r_callpB rfl (Q_Desk_due_c (rfl : Q_Desk_due (⟨p0x0.P, l7, p0x0.time_⟩ : Fleetref2_Desk) v10 = _)) (.cons (.boxL _ _ _ .p0 (.cons (.co (.refl _)) (.cons (.co (.refl _)) (.cons (.co (.refl _)) (.cons (.co (.refl _)) (.cons (CoB.arrT .p1) (.cons (.co (.refl _)) .nil))))))) (.cons (.co (.refl _)) .nil)) rfl rfl <| rA rfl rfl <| rN <| tS <| ATodo.block <| tSR <| rM rfl rfl <| rM rfl rfl <| ARun.qv (q_nilCheck_aptr rfl) rfl <| ARun.qv (t_field_aptr rfl rfl) rfl <| ARun.qv (t_field_aptr rfl rfl) rfl <| ARun.qv (t_load_aptr (g := Note.av) rfl rfl (.inl .p1) e3 rfl) rfl <| ARun.qv (q_eql rfl rfl) rfl <| rA rfl rfl <| rN <| ATodo.cut (fun σ' => ∃ (l11 : List Note), Q_Desk_age_j2 p0x0 n4 l7 v10 l11 = some z2 ∧ σ' = ⟨74, [(0, .ptr b_0 0), (1, I p1x0), (5, .aptr 9 b_0x4 n4.toNat 0), (6, I (Q_Desk_due (⟨p0x0.P, l7, p0x0.time_⟩ : Fleetref2_Desk) v10)), (11, I (p0x0.L.length : Int)), (12, I n4)], [(b_0, .cells [I p0x0.P.Room, I p0x0.P.Timeout, I p0x0.P.Tries, I p0x0.P.Kept, .sl 9 b_0x4 0 l11.length, I p0x0.time_]), (b_0x4, .arr 9 (l11.map Note.av))]⟩) ?_ ?_
            · refine ATodo.cond_d rfl (fun hc => ?_) (fun hc => ?_)
              · exact have h := iteT hc h; tR <| rM rfl rfl <| ARun.qv (q_nilCheck_aptr rfl) rfl <| ARun.qv (t_field_aptr rfl rfl) rfl <| t_store_aptr1 (g := Note.av) (el' := (⟨v10.Letter, (5 : Int), v10.Tries, v10.Since⟩ : Note)) rfl rfl rfl rfl e3 rfl .p1 rfl <| ARun.ghost <| ImpX.eqBox (j := 4) (av' := .sl 9 b_0x4 0 (l7.set n4.toNat (⟨v10.Letter, (5 : Int), v10.Tries, v10.Since⟩ : Note)).length) .p0 rfl (by rw [List.length_set]) rfl <| ImpX.here <| rN <| ATodo.stop <| ImpX.lq [0, 0] ⟨l7.set n4.toNat (⟨v10.Letter, (5 : Int), v10.Tries, v10.Since⟩ : Note), h, rfl⟩ rfl rfl
              · refine have h := iteF hc h; tS <| ATodo.regionM (id := 9) (A := [0, 1, 3, 7, 0, 16, 48, 112, 240, 511, 1023]) 11 mixed rfl (by kernel_rfl) (by kernel_rfl) <| AM.qv (q_move rfl) rfl <| AM.qv (q_nilCheck_aptr rfl) rfl <| AM.qv (t_field_aptr rfl rfl) rfl <| AM.qv (t_load_aptr (g := Note.av) rfl rfl (.inl .p1) e3 rfl) rfl <| AM.qv (q_move rfl) rfl <| AM.qv (q_nilCheck_ptr rfl) rfl <| AM.qv (n_field_ptr rfl rfl) rfl <| AM.qv (n_field_ptr rfl rfl) rfl <| AM.qv (q_load_ptr rfl rfl .p0 rfl) rfl <| AM.qv (q_geq rfl rfl) rfl <| AM.qv (q_assign rfl) rfl <| AM.nil <| rN <| ATodo.cut (fun σ' => ∃ (l12 : List Note), Q_Desk_age_j3 p0x0 n4 l7 v10 l12 = some z2 ∧ σ' = ⟨74, [(0, .ptr b_0 0), (1, I p1x0), (5, .aptr 9 b_0x4 n4.toNat 0), (6, I (Q_Desk_due (⟨p0x0.P, l7, p0x0.time_⟩ : Fleetref2_Desk) v10)), (11, I (p0x0.L.length : Int)), (12, I n4)], [(b_0, .cells [I p0x0.P.Room, I p0x0.P.Timeout, I p0x0.P.Tries, I p0x0.P.Kept, .sl 9 b_0x4 0 l12.length, I p0x0.time_]), (b_0x4, .arr 9 (l12.map Note.av))]⟩) ?_ ?_
                · refine ATodo.cond_d rfl (fun hc => ?_) (fun hc => ?_)
                  · exact have h := iteT hc h; tR <| rM rfl rfl <| ARun.qv (q_nilCheck_aptr rfl) rfl <| ARun.qv (t_field_aptr rfl rfl) rfl <| t_store_aptr1 (g := Note.av) (el' := (⟨v10.Letter, (7 : Int), v10.Tries, v10.Since⟩ : Note)) rfl rfl rfl rfl e3 rfl .p1 rfl <| ARun.ghost <| ImpX.eqBox (j := 4) (av' := .sl 9 b_0x4 0 (l7.set n4.toNat (⟨v10.Letter, (7 : Int), v10.Tries, v10.Since⟩ : Note)).length) .p0 rfl (by rw [List.length_set]) rfl <| ImpX.here <| rN <| ATodo.stop <| ImpX.lq [0, 0] ⟨l7.set n4.toNat (⟨v10.Letter, (7 : Int), v10.Tries, v10.Since⟩ : Note), h, rfl⟩ rfl rfl
                  · exact have h := iteF hc h; tR <| rM rfl rfl <| ARun.qv (q_nilCheck_aptr rfl) rfl <| ARun.qv (t_field_aptr rfl rfl) rfl <| t_store_aptr1 (g := Note.av) (el' := (⟨v10.Letter, (1 : Int), v10.Tries, v10.Since⟩ : Note)) rfl rfl rfl rfl e3 rfl .p1 rfl <| ARun.ghost <| ImpX.eqBox (j := 4) (av' := .sl 9 b_0x4 0 (l7.set n4.toNat (⟨v10.Letter, (1 : Int), v10.Tries, v10.Since⟩ : Note)).length) .p0 rfl (by rw [List.length_set]) rfl <| ImpX.here <| rN <| ATodo.stop <| ImpX.lq [0, 0] ⟨l7.set n4.toNat (⟨v10.Letter, (1 : Int), v10.Tries, v10.Since⟩ : Note), h, rfl⟩ rfl rfl
                · rintro σ' ⟨l12, h, rfl⟩
                  unfold Q_Desk_age_j3 at h
                  exact ATodo.stop <| ImpX.lq [0, 0] ⟨l12, h, rfl⟩ rfl rfl
            · rintro σ' ⟨l11, h, rfl⟩
              unfold Q_Desk_age_j2 at h
              refine ATodo.blk <| tR <| rM rfl rfl <| rM rfl rfl <| ARun.qv (q_nilCheck_aptr rfl) rfl <| ARun.qv (t_field_aptr rfl rfl) rfl <| bndE h fun v13 e4 h => t_store_aptr1 (g := Note.av) (el' := (⟨v13.Letter, v13.State, v13.Tries, (Q_Desk_due (⟨p0x0.P, l7, p0x0.time_⟩ : Fleetref2_Desk) v10)⟩ : Note)) rfl rfl rfl rfl e4 rfl .p1 rfl <| ARun.ghost <| ImpX.eqBox (j := 4) (av' := .sl 9 b_0x4 0 (l11.set n4.toNat (⟨v13.Letter, v13.State, v13.Tries, (Q_Desk_due (⟨p0x0.P, l7, p0x0.time_⟩ : Fleetref2_Desk) v10)⟩ : Note)).length) .p0 rfl (by rw [List.length_set]) rfl <| ImpX.here <| rN <| ATodo.blk <| ATodo.stop <| ?_
              obtain rfl := Option.some.inj h
              exact hJ2 _ _ rfl <| ImpX.lq [0, 0] rfl rfl rfl
          · refine have h := iteFb hc h; ATodo.exit rfl <| have h := outL h hA2; ATodo.blk <| tR <| ARun.qv (q_addw rfl rfl) rfl <| rM rfl rfl <| rN <| ATodo.stop <| ?_
            obtain rfl := Option.some.inj h
            exact hJ1 _ _ rfl <| ImpX.lq [0, 0] rfl rfl rfl
    · refine have h := iteF hc h; ATodo.exit rfl <| have h := outL h hA1; ?_
      unfold Q_Desk_age_k4 at h
      refine tR <| rM rfl rfl <| bndE h fun v14 e5 h => t_call1 rfl (Q_Desk_forget_c e5) (CoL.refl _) (.cons .p0 (.cons .p0 .nil)) (fun _ => rfl) rfl fun b15 => rN <| ATodo.nil <| ?_
      obtain rfl := Option.some.inj h
      exact ImpX.here ⟨_, .nil, _, .cons .p0 (.cons .p0 .nil), ⟨b15, rfl, rfl⟩⟩

set_option maxHeartbeats 4000000 in
theorem Q_Desk_turn_c [GI : GTab] {b_0 : Bk} {p0x0 : Fleetref2_Desk} {p1x0 : Int} {r : (Option Fleetref2_Desk) × Int} (h : Q_Desk_turn p0x0 p1x0 = some r) : ACall Tryz.prog 66 [.ptr b_0 0, I p1x0] [(b_0, .cells [I p0x0.P.Room, I p0x0.P.Timeout, I p0x0.P.Tries, I p0x0.P.Kept, .list 9 (p0x0.L.map Note.av), I p0x0.time_])] (TM r.1 (T0 ([(b_0, .cells [I p0x0.P.Room, I p0x0.P.Timeout, I p0x0.P.Tries, I p0x0.P.Kept, .list 9 (p0x0.L.map Note.av), I p0x0.time_])]) (.tup [.raw (.pointer none), I r.2])) (fun x => T2 (fun d_0 d_0x4 => [(b_0, .cells [I p0x0.P.Room, I p0x0.P.Timeout, I p0x0.P.Tries, I p0x0.P.Kept, .list 9 (p0x0.L.map Note.av), I p0x0.time_]), (d_0, .cells [I x.P.Room, I x.P.Timeout, I x.P.Tries, I x.P.Kept, .sl 9 d_0x4 0 x.L.length, I x.time_]), (d_0x4, .arr 9 (x.L.map Note.av))]) (fun d_0 d_0x4 => .tup [.ptr d_0 0, I r.2]))) := by
  unfold Q_Desk_turn at h
  refine ACall.lessH ?_
  refine ACall.bodyN Tryz.func66 rfl Tryz.ntmps66 Tryz.results66 rfl rfl ?_
  refine tSR <| rA rfl rfl <| rA rfl rfl <| rN <| tS <| ATodo.block <| tSR <| rM rfl rfl <| r_callp rfl (Q_Moment_c rfl) (CoL.refl _) rfl <| ARun.qv (q_not rfl) rfl <| rA rfl rfl <| rN <| ATodo.cond rfl (fun hc => ?_) (fun hc => ?_)
  · refine have h := iteT hc h; tSR <| rA rfl rfl <| rA rfl rfl <| rN <| ATodo.ret <| ?_
    obtain rfl := Option.some.inj h
    exact ImpX.here ⟨_, .cons (.tmp _ _ rfl) (.cons (.tmp _ _ rfl) .nil), _, .cons .p0 .nil, ⟨rfl, rfl⟩⟩
  · refine have h := iteFb hc h; tSR <| rM rfl rfl <| rM rfl rfl <| ARun.qv (q_nilCheck_ptr rfl) rfl <| rF rfl rfl rfl <| rL rfl rfl .p0 rfl rfl <| ARun.qv (q_lss rfl rfl) rfl <| rA rfl rfl <| rN <| ATodo.cond_d rfl (fun hc => ?_) (fun hc => ?_)
    · refine have h := iteT hc h; tSR <| rA rfl rfl <| rA rfl rfl <| rN <| ATodo.ret <| ?_
      obtain rfl := Option.some.inj h
      exact ImpX.here ⟨_, .cons (.tmp _ _ rfl) (.cons (.tmp _ _ rfl) .nil), _, .cons .p0 .nil, ⟨rfl, rfl⟩⟩
    · refine have h := iteF hc h; tK <| ATodo.blk <| tS <| bndE h fun v1 e1 h => ATodo.regionT (id := 5) (A := [0, 1, 3, 7, 0, 16, 48, 112, 240, 0, 1023, 2047, 4095]) (H0 := []) (HH := fun β => [((β 8), .arr 9 (v1.map Note.av)), (b_0, .cells [I p0x0.P.Room, I p0x0.P.Timeout, I p0x0.P.Tries, I p0x0.P.Kept, .list 9 (p0x0.L.map Note.av), I p0x0.time_])]) 10 mixed rfl (by kernel_rfl) (by kernel_rfl) [⟨some 8, none, [], fun b => (b, .arr 9 (v1.map Note.av)), none⟩] [8] rfl (by kernel_rfl) rfl .nil (fun _ => rfl) <| AT.am 8 rfl rfl <| AM.qv (q_move rfl) rfl <| AM.qv (q_nilCheck_ptr rfl) rfl <| AM.qv (n_field_ptr rfl rfl) rfl <| AM.qv (n_load_ptr_part rfl rfl .p0 rfl rfl) rfl <| AM.qv (q_move rfl) rfl <| AM.qv (q_nilCheck_ptr rfl) rfl <| AM.qv (n_field_ptr rfl rfl) rfl <| AM.qv (q_load_ptr rfl rfl .p0 rfl) rfl <| AM.nil <| AT.runD (V := fun b => .sl 9 b 0 v1.length) (Ti := []) (Pi := fun b => [(b, .arr 9 (v1.map Note.av))]) (fun _ => rfl) (fun _ => rfl) (fun _ _ => rfl) rfl (fun _ => rfl) rfl rfl rfl ?_ ?_
      · exact t_call1 rfl (slices_Clone_Note_Note_c e1) (CoL.refl _) .nil (fun _ => rfl) rfl fun b2 => ARun.nil ⟨b2, _, rfl, rfl⟩
      refine AT.am 1 rfl rfl <| AM.qv (q_move rfl) rfl <| AM.nil <| AT.nilN (fun _ => rfl) fun β => ?_
      generalize β 8 = b2
      clear β
      refine ARun.qv (n_build rfl rfl rfl rfl rfl) rfl <| n_box rfl rfl rfl rfl fun b3 => rA rfl rfl <| rN <| tSR <| rM rfl rfl <| rM rfl rfl <| bndE h fun v4 e2 h => t_call1 rfl (Q_Desk_age_c e2) (CoL.refl _) (.cons .p0 (.cons .p0 .nil)) (fun _ => rfl) rfl fun b5 => rN <| tSR <| rM rfl rfl <| rA rfl rfl <| rA rfl rfl <| rN <| ATodo.ret <| ?_
      obtain rfl := Option.some.inj h
      exact ImpX.here ⟨_, .cons (.tmp _ _ rfl) (.cons (.tmp _ _ rfl) .nil), _, .cons .p2 (.cons .p0 (.cons .p0 .nil)), ⟨b3, b5, rfl, rfl⟩⟩

set_option maxHeartbeats 4000000 in
theorem Q_Desk_Put_1x_c [GI : GTab] {p0x0 : Note} {p1x0 : Letter} {r : Bool} (h : Q_Desk_Put_1x p0x0 p1x0 = r) : Pu Tryz.prog 84 [.agg [.str p0x0.Letter.Id, .str p0x0.Letter.Slot, .str p0x0.Letter.Body, I p0x0.Letter.Prio, I p0x0.Letter.At, I p0x0.Letter.Until, I p0x0.State, I p0x0.Tries, I p0x0.Since], .rptr [.str p1x0.Id, .str p1x0.Slot, .str p1x0.Body, I p1x0.Prio, I p1x0.At, I p1x0.Until]] (.bool r) := by
  unfold Q_Desk_Put_1x at h
  refine ACall.bodyN Tryz.func84 rfl Tryz.ntmps84 Tryz.results84 rfl rfl ?_
  refine tSR <| n_box rfl rfl rfl rfl fun b1 => rA rfl rfl <| rN <| tS <| ATodo.cut (fun σ' => ∃ (c2 : Bool), Q_Desk_Put_1x_j1 c2 = r ∧ σ' = ⟨25, [(3, .bool c2)], []⟩) ?_ ?_
  · refine tR <| ARun.qv (n_field_rptr rfl rfl) rfl <| ARun.qv (q_load_rptr rfl rfl rfl) rfl <| ARun.qv (q_sne rfl rfl) rfl <| rM rfl rfl <| ARun.guard_dt rfl rfl rfl (fun hc => ?_) (fun hc => ?_)
    · rw [andTd hc] at h
      refine rF rfl rfl rfl <| rY rfl rfl rfl <| rF rfl rfl rfl <| rY rfl rfl rfl <| rL rfl rfl .p0 rfl rfl <| rY rfl rfl rfl <| ARun.qv (n_field_rptr rfl rfl) rfl <| rY rfl rfl rfl <| ARun.qv (q_load_rptr rfl rfl rfl) rfl <| rY rfl rfl rfl <| ARun.qv (q_seq rfl rfl) rfl <| rT rfl rfl rfl <| rM rfl rfl <| ARun.guard_dt rfl rfl rfl (fun hc => ?_) (fun hc => ?_)
      · rw [andTd hc] at h
        refine rF rfl rfl rfl <| rY rfl rfl rfl <| rL rfl rfl .p0 rfl rfl <| rY rfl rfl rfl <| ARun.qv (q_eql rfl rfl) rfl <| rT rfl rfl rfl <| rM rfl rfl <| ARun.guard_dt rfl rfl rfl (fun hc => ?_) (fun hc => ?_)
        · rw [andTd hc] at h
          exact rF rfl rfl rfl <| rY rfl rfl rfl <| rL rfl rfl .p0 rfl rfl <| rY rfl rfl rfl <| ARun.qv (q_eql rfl rfl) rfl <| rT rfl rfl rfl <| rA rfl rfl <| rN <| ATodo.stop <| ImpX.lq [] ⟨decide (p0x0.Tries = (0 : Int)), h, rfl⟩ rfl rfl
        · rw [andFd hc] at h
          exact rG rfl rfl rfl rfl <| rG rfl rfl rfl rfl <| rE rfl rfl rfl <| rA rfl rfl <| rN <| ATodo.stop <| ImpX.lq [] ⟨false, h, rfl⟩ rfl rfl
      · rw [andFd hc] at h
        exact rG rfl rfl rfl rfl <| rG rfl rfl rfl rfl <| rE rfl rfl rfl <| rM rfl rfl <| rG rfl rfl rfl rfl <| rG rfl rfl rfl rfl <| rG rfl rfl rfl rfl <| rE rfl rfl rfl <| rA rfl rfl <| rN <| ATodo.stop <| ImpX.lq [] ⟨false, h, rfl⟩ rfl rfl
    · rw [andFd hc] at h
      exact rG rfl rfl rfl rfl <| rG rfl rfl rfl rfl <| rG rfl rfl rfl rfl <| rG rfl rfl rfl rfl <| rG rfl rfl rfl rfl <| rE rfl rfl rfl <| rM rfl rfl <| rG rfl rfl rfl rfl <| rG rfl rfl rfl rfl <| rG rfl rfl rfl rfl <| rE rfl rfl rfl <| rM rfl rfl <| rG rfl rfl rfl rfl <| rG rfl rfl rfl rfl <| rG rfl rfl rfl rfl <| rE rfl rfl rfl <| rA rfl rfl <| rN <| ATodo.stop <| ImpX.lq [] ⟨false, h, rfl⟩ rfl rfl
  · rintro σ' ⟨c2, h, rfl⟩
    unfold Q_Desk_Put_1x_j1 at h
    refine ATodo.ret <| ?_
    obtain rfl := h
    exact ImpX.here ⟨_, .cons (.tmp _ _ rfl) .nil, rfl⟩

set_option maxHeartbeats 4000000 in
theorem slices_IndexFunc_Note_Note_c [GI : GTab] {p0x0 : List Note} {fnb : Note → Option Bool} {fnb_F : FuncId} [IsFn Tryz.prog fnb_F] {fnb_C : List AV} (fnb_h : ∀ {y0 : _} {u : Bool}, fnb y0 = some u → Pu Tryz.prog fnb_F (.agg [.str y0.Letter.Id, .str y0.Letter.Slot, .str y0.Letter.Body, I y0.Letter.Prio, I y0.Letter.At, I y0.Letter.Until, I y0.State, I y0.Tries, I y0.Since] ::  fnb_C) (.bool u)) {r : Int} (h : slices_IndexFunc_Note_Note p0x0 fnb = some r) : Pu Tryz.prog 83 [.list 9 (p0x0.map Note.av), .func (.func fnb_F) fnb_C] (I r) := by
  unfold slices_IndexFunc_Note_Note at h
  refine ACall.bodyN Tryz.func83 rfl Tryz.ntmps83 Tryz.results83 rfl rfl ?_
  refine tSR <| rA rfl rfl <| rN <| tS <| tSR <| rM rfl rfl <| ARun.qv (t_len rfl) rfl <| rM rfl rfl <| rN <| ATodo.block <| ATodo.loopI (fun x : Int => slices_IndexFunc_Note_Note_b1 p0x0 fnb x) (fun x σ' => σ' = ⟨19, [(0, .list 9 (p0x0.map Note.av)), (1, .func (.func fnb_F) fnb_C), (7, I (p0x0.length : Int)), (8, I x)], []⟩) h ?_ ?_
  · exact ImpX.lq [] rfl rfl rfl
  · intro n2 z1 σ' J1 hmk h hJ1 hA1
    obtain rfl := hmk
    replace h : slices_IndexFunc_Note_Note_b1 p0x0 fnb n2 = some z1 := h
    unfold slices_IndexFunc_Note_Note_b1 at h
    refine tSR <| ARun.qv (q_lss rfl rfl) rfl <| rN <| tS <| ATodo.cond_d rfl (fun hc => ?_) (fun hc => ?_)
    · refine have h := iteT hc h; tK <| tS <| ATodo.block <| tSR <| rM rfl rfl <| rA rfl rfl <| rN <| tSR <| rM rfl rfl <| rM rfl rfl <| rM rfl rfl <| bndE h fun v3 e1 h => ARun.qv (t_index rfl rfl rfl e1 rfl rfl) rfl <| ARun.qv (q_load_rptr_agg rfl rfl rfl) rfl <| bndE h fun v4 e2 h => r_callvp rfl rfl (fnb_h e2) (CoL.refl _) rfl <| rN <| ATodo.cond rfl (fun hc => ?_) (fun hc => ?_)
      · refine have h := iteT hc h; tSR <| rM rfl rfl <| rA rfl rfl <| rN <| ATodo.ret <| have h := outL h hA1; ?_
        obtain rfl := Option.some.inj h
        exact ImpX.here ⟨_, .cons (.tmp _ _ rfl) .nil, rfl⟩
      · refine have h := iteFb hc h; tK <| ATodo.blk <| tR <| ARun.qv (q_addw rfl rfl) rfl <| rM rfl rfl <| rN <| ATodo.stop <| ?_
        obtain rfl := Option.some.inj h
        exact hJ1 _ _ rfl <| ImpX.lq [] rfl rfl rfl
    · refine have h := iteF hc h; ATodo.exit rfl <| have h := outL h hA1; tSR <| rA rfl rfl <| rN <| ATodo.ret <| ?_
      obtain rfl := Option.some.inj h
      exact ImpX.here ⟨_, .cons (.tmp _ _ rfl) .nil, rfl⟩

set_option maxHeartbeats 4000000 in
theorem Q_Desk_at_1x_c [GI : GTab] {p0x0 : Note} {p1x0 : Str} {r : Bool} (h : Q_Desk_at_1x p0x0 p1x0 = r) : Pu Tryz.prog 114 [.agg [.str p0x0.Letter.Id, .str p0x0.Letter.Slot, .str p0x0.Letter.Body, I p0x0.Letter.Prio, I p0x0.Letter.At, I p0x0.Letter.Until, I p0x0.State, I p0x0.Tries, I p0x0.Since], .rptr [.str p1x0]] (.bool r) := by
  unfold Q_Desk_at_1x at h
  refine ACall.bodyN Tryz.func114 rfl Tryz.ntmps114 Tryz.results114 rfl rfl ?_
  refine tSR <| n_box rfl rfl rfl rfl fun b1 => rA rfl rfl <| rN <| tSR <| rF rfl rfl rfl <| rF rfl rfl rfl <| rL rfl rfl .p0 rfl rfl <| ARun.qv (q_load_rptr rfl rfl rfl) rfl <| ARun.qv (q_seq rfl rfl) rfl <| rA rfl rfl <| rN <| ATodo.ret <| ?_
  obtain rfl := h
  exact ImpX.here ⟨_, .cons (.tmp _ _ rfl) .nil, rfl⟩

set_option maxHeartbeats 4000000 in
theorem Q_Desk_at_c [GI : GTab] {p0x0 : Fleetref2_Desk} {p1x0 : Str} {r : Int} (h : Q_Desk_at p0x0 p1x0 = some r) : Pu Tryz.prog 85 [.rptr [I p0x0.P.Room, I p0x0.P.Timeout, I p0x0.P.Tries, I p0x0.P.Kept, .list 9 (p0x0.L.map Note.av), I p0x0.time_], .str p1x0] (I r) := by
  unfold Q_Desk_at at h
  refine ACall.bodyN Tryz.func85 rfl Tryz.ntmps85 Tryz.results85 rfl rfl ?_
  refine tSR <| n_box rfl rfl rfl rfl fun b1 => rA rfl rfl <| rN <| tSR <| rM rfl rfl <| ARun.qv (q_nilCheck_rptr rfl) rfl <| ARun.qv (n_field_rptr rfl rfl) rfl <| ARun.qv (q_load_rptr rfl rfl rfl) rfl <| ARun.qv (q_makeFunc rfl) rfl <| bndE h fun v2 e1 h => r_callpB rfl (slices_IndexFunc_Note_Note_c (fun e => Q_Desk_at_1x_c (Option.some.inj e)) e1) (.cons (.co (.refl _)) (.cons (.funcL _ _ _ (.cons (.boxL _ _ _ .p0 (.cons (.co (.refl _)) .nil)) .nil)) .nil)) rfl rfl <| rA rfl rfl <| rN <| ATodo.ret <| ?_
  obtain rfl := Option.some.inj h
  exact ImpX.here ⟨_, .cons (.tmp _ _ rfl) .nil, rfl⟩

set_option maxHeartbeats 4000000 in
theorem Q_Desk_many_c [GI : GTab] {p0x0 : Fleetref2_Desk} {r : Int} (h : Q_Desk_many p0x0 = some r) : Pu Tryz.prog 86 [.rptr [I p0x0.P.Room, I p0x0.P.Timeout, I p0x0.P.Tries, I p0x0.P.Kept, .list 9 (p0x0.L.map Note.av), I p0x0.time_]] (I r) := by
  unfold Q_Desk_many at h
  refine ACall.bodyN Tryz.func86 rfl Tryz.ntmps86 Tryz.results86 rfl rfl ?_
  refine tSR <| rA rfl rfl <| rN <| tSR <| rA rfl rfl <| rN <| tS <| tSR <| rM rfl rfl <| ARun.qv (q_nilCheck_rptr rfl) rfl <| ARun.qv (n_field_rptr rfl rfl) rfl <| ARun.qv (q_load_rptr rfl rfl rfl) rfl <| ARun.qv (t_len rfl) rfl <| rM rfl rfl <| rN <| ATodo.block <| ATodo.loopI (fun x : Int × Int => Q_Desk_many_b1 p0x0 x.1 x.2) (fun x σ' => σ' = ⟨21, [(3, I x.1), (9, .list 9 (p0x0.L.map Note.av)), (10, I (p0x0.L.length : Int)), (11, I x.2)], []⟩) h ?_ ?_
  · exact ImpX.lq [] rfl rfl rfl
  · intro x z1 σ' J1 hmk h hJ1 hA1
    obtain ⟨n3, n4⟩ := x
    obtain rfl := hmk
    replace h : Q_Desk_many_b1 p0x0 n3 n4 = some z1 := h
    unfold Q_Desk_many_b1 at h
    refine tSR <| ARun.qv (q_lss rfl rfl) rfl <| rN <| tS <| ATodo.cond_d rfl (fun hc => ?_) (fun hc => ?_)
    · refine have h := iteT hc h; tK <| tS <| ATodo.block <| tSR <| bndE h fun v5 e1 h => ARun.qv (t_index rfl rfl rfl e1 rfl rfl) rfl <| ARun.qv (q_load_rptr_agg rfl rfl rfl) rfl <| n_alloc rfl rfl rfl rfl fun b6 => n_store_ptr rfl rfl rfl rfl .p0 rfl rfl <| rN <| tSR <| ARun.qv (q_load_ptr_all rfl rfl .p0 rfl) rfl <| r_callp rfl (Q_open_c rfl) (CoL.refl _) rfl <| rN <| ATodo.cut (fun σ' => ∃ (n7 : Int), Q_Desk_many_j1 n4 n7 = some z1 ∧ σ' = ⟨21, [(3, I n7), (9, .list 9 (p0x0.L.map Note.av)), (10, I (p0x0.L.length : Int)), (11, I n4)], []⟩) ?_ ?_
      · refine ATodo.cond rfl (fun hc => ?_) (fun hc => ?_)
        · exact have h := iteT hc h; tR <| rM rfl rfl <| ARun.qv (q_addw rfl rfl) rfl <| rA rfl rfl <| rN <| ATodo.stop <| ImpX.lq [] ⟨w64 (n3 + (1 : Int)), h, rfl⟩ rfl rfl
        · exact have h := iteFb hc h; tK <| ATodo.stop <| ImpX.lq [] ⟨n3, h, rfl⟩ rfl rfl
      · rintro σ' ⟨n7, h, rfl⟩
        unfold Q_Desk_many_j1 at h
        refine ATodo.blk <| tR <| ARun.qv (q_addw rfl rfl) rfl <| rM rfl rfl <| rN <| ATodo.stop <| ?_
        obtain rfl := Option.some.inj h
        exact hJ1 _ _ rfl <| ImpX.lq [] rfl rfl rfl
    · refine have h := iteF hc h; ATodo.exit rfl <| have h := outL h hA1; tSR <| rM rfl rfl <| rA rfl rfl <| rN <| ATodo.ret <| ?_
      obtain rfl := Option.some.inj h
      exact ImpX.here ⟨_, .cons (.tmp _ _ rfl) .nil, rfl⟩

set_option maxHeartbeats 4000000 in
theorem Q_Desk_Put_2x_c [GI : GTab] {p0x0 : Note} {p1x0 : Note} {r : Int} (h : Q_Desk_Put_2x p0x0 p1x0 = r) : Pu Tryz.prog 87 [.agg [.str p0x0.Letter.Id, .str p0x0.Letter.Slot, .str p0x0.Letter.Body, I p0x0.Letter.Prio, I p0x0.Letter.At, I p0x0.Letter.Until, I p0x0.State, I p0x0.Tries, I p0x0.Since], .agg [.str p1x0.Letter.Id, .str p1x0.Letter.Slot, .str p1x0.Letter.Body, I p1x0.Letter.Prio, I p1x0.Letter.At, I p1x0.Letter.Until, I p1x0.State, I p1x0.Tries, I p1x0.Since]] (I r) := by
  unfold Q_Desk_Put_2x at h
  refine ACall.bodyN Tryz.func87 rfl Tryz.ntmps87 Tryz.results87 rfl rfl ?_
  refine tSR <| n_box rfl rfl rfl rfl fun b1 => n_box rfl rfl rfl rfl fun b2 => rA rfl rfl <| rN <| tSR <| rF rfl rfl rfl <| rF rfl rfl rfl <| rL rfl rfl .p1 rfl rfl <| rF rfl rfl rfl <| rF rfl rfl rfl <| rL rfl rfl .p0 rfl rfl <| r_callp rfl (strings_Compare_c rfl) (CoL.refl _) rfl <| rA rfl rfl <| rN <| ATodo.ret <| ?_
  obtain rfl := h
  exact ImpX.here ⟨_, .cons (.tmp _ _ rfl) .nil, rfl⟩

set_option maxHeartbeats 4000000 in
theorem Q_Desk_turn_c0x4x_c [GI : GTab] {b_0 : Bk} {b_0x4 : Bk} {p0x0 : Fleetref2_Desk} {p1x0 : Int} {r : (Option Fleetref2_Desk) × Int} (h : Q_Desk_turn_c0x4x p0x0 p1x0 = some r) : ACall Tryz.prog 66 [.ptr b_0 0, I p1x0] [(b_0, .cells [I p0x0.P.Room, I p0x0.P.Timeout, I p0x0.P.Tries, I p0x0.P.Kept, .sl 9 b_0x4 0 p0x0.L.length, I p0x0.time_]), (b_0x4, .arr 9 (p0x0.L.map Note.av))] (TM r.1 (T0 ([(b_0, .cells [I p0x0.P.Room, I p0x0.P.Timeout, I p0x0.P.Tries, I p0x0.P.Kept, .sl 9 b_0x4 0 p0x0.L.length, I p0x0.time_]), (b_0x4, .arr 9 (p0x0.L.map Note.av))]) (.tup [.raw (.pointer none), I r.2])) (fun x => T2 (fun d_0 d_0x4 => [(b_0, .cells [I p0x0.P.Room, I p0x0.P.Timeout, I p0x0.P.Tries, I p0x0.P.Kept, .sl 9 b_0x4 0 p0x0.L.length, I p0x0.time_]), (b_0x4, .arr 9 (p0x0.L.map Note.av)), (d_0, .cells [I x.P.Room, I x.P.Timeout, I x.P.Tries, I x.P.Kept, .sl 9 d_0x4 0 x.L.length, I x.time_]), (d_0x4, .arr 9 (x.L.map Note.av))]) (fun d_0 d_0x4 => .tup [.ptr d_0 0, I r.2]))) := by
  unfold Q_Desk_turn_c0x4x at h
  refine ACall.lessH ?_
  refine ACall.bodyN Tryz.func66 rfl Tryz.ntmps66 Tryz.results66 rfl rfl ?_
  refine tSR <| rA rfl rfl <| rA rfl rfl <| rN <| tS <| ATodo.block <| tSR <| rM rfl rfl <| r_callp rfl (Q_Moment_c rfl) (CoL.refl _) rfl <| ARun.qv (q_not rfl) rfl <| rA rfl rfl <| rN <| ATodo.cond rfl (fun hc => ?_) (fun hc => ?_)
  · refine have h := iteT hc h; tSR <| rA rfl rfl <| rA rfl rfl <| rN <| ATodo.ret <| ?_
    obtain rfl := Option.some.inj h
    exact ImpX.here ⟨_, .cons (.tmp _ _ rfl) (.cons (.tmp _ _ rfl) .nil), _, .cons .p0 (.cons .p0 .nil), ⟨rfl, rfl⟩⟩
  · refine have h := iteFb hc h; tSR <| rM rfl rfl <| rM rfl rfl <| ARun.qv (q_nilCheck_ptr rfl) rfl <| rF rfl rfl rfl <| rL rfl rfl .p0 rfl rfl <| ARun.qv (q_lss rfl rfl) rfl <| rA rfl rfl <| rN <| ATodo.cond_d rfl (fun hc => ?_) (fun hc => ?_)
    · refine have h := iteT hc h; tSR <| rA rfl rfl <| rA rfl rfl <| rN <| ATodo.ret <| ?_
      obtain rfl := Option.some.inj h
      exact ImpX.here ⟨_, .cons (.tmp _ _ rfl) (.cons (.tmp _ _ rfl) .nil), _, .cons .p0 (.cons .p0 .nil), ⟨rfl, rfl⟩⟩
    · refine have h := iteF hc h; tK <| ATodo.blk <| tS <| bndE h fun v1 e1 h => ATodo.regionT (id := 5) (A := [0, 1, 3, 7, 0, 16, 48, 112, 240, 0, 1023, 2047, 4095]) (H0 := []) (HH := fun β => [((β 8), .arr 9 (v1.map Note.av)), (b_0, .cells [I p0x0.P.Room, I p0x0.P.Timeout, I p0x0.P.Tries, I p0x0.P.Kept, .sl 9 b_0x4 0 p0x0.L.length, I p0x0.time_]), (b_0x4, .arr 9 (p0x0.L.map Note.av))]) 10 mixed rfl (by kernel_rfl) (by kernel_rfl) [⟨some 8, none, [], fun b => (b, .arr 9 (v1.map Note.av)), none⟩] [8] rfl (by kernel_rfl) rfl .nil (fun _ => rfl) <| AT.am 8 rfl rfl <| AM.qv (q_move rfl) rfl <| AM.qv (q_nilCheck_ptr rfl) rfl <| AM.qv (n_field_ptr rfl rfl) rfl <| AM.qv (n_load_ptr_part rfl rfl .p0 rfl rfl) rfl <| AM.qv (q_move rfl) rfl <| AM.qv (q_nilCheck_ptr rfl) rfl <| AM.qv (n_field_ptr rfl rfl) rfl <| AM.qv (q_load_ptr rfl rfl .p0 rfl) rfl <| AM.nil <| AT.runD (V := fun b => .sl 9 b 0 v1.length) (Ti := []) (Pi := fun b => [(b, .arr 9 (v1.map Note.av))]) (fun _ => rfl) (fun _ => rfl) (fun _ _ => rfl) rfl (fun _ => rfl) rfl rfl rfl ?_ ?_
      · exact t_callL1 rfl (slices_Clone_Note_Note_c e1) .nil (.cons (CoB.arrT .p1) .nil) (fun _ => rfl) (fun _ => rfl) (fun _ => (.cons (NoS.arrT (fun _ => rfl)) .nil)) rfl fun b2 => ARun.nil ⟨b2, _, rfl, rfl⟩
      refine AT.am 1 rfl rfl <| AM.qv (q_move rfl) rfl <| AM.nil <| AT.nilN (fun _ => rfl) fun β => ?_
      generalize β 8 = b2
      clear β
      refine ARun.qv (n_build rfl rfl rfl rfl rfl) rfl <| n_box rfl rfl rfl rfl fun b3 => rA rfl rfl <| rN <| tSR <| rM rfl rfl <| rM rfl rfl <| bndE h fun v4 e2 h => t_call1 rfl (Q_Desk_age_c e2) (CoL.refl _) (.cons .p0 (.cons .p0 .nil)) (fun _ => rfl) rfl fun b5 => rN <| tSR <| rM rfl rfl <| rA rfl rfl <| rA rfl rfl <| rN <| ATodo.ret <| ?_
      obtain rfl := Option.some.inj h
      exact ImpX.here ⟨_, .cons (.tmp _ _ rfl) (.cons (.tmp _ _ rfl) .nil), _, .cons .p2 (.cons .p2 (.cons .p0 (.cons .p0 .nil))), ⟨b3, b5, rfl, rfl⟩⟩

set_option maxHeartbeats 4000000 in
theorem Q_Desk_Put_c {b_0 : Bk} {b_0x4 : Bk} {p0x0 : Fleetref2_Desk} {p1x0 : Letter} {r : Int × Fleetref2_Desk} (h : Q_Desk_Put p0x0 p1x0 = some r) : ACall Tryz.prog 47 [.ptr b_0 0, .agg [.str p1x0.Id, .str p1x0.Slot, .str p1x0.Body, I p1x0.Prio, I p1x0.At, I p1x0.Until]] [(b_0, .cells [I p0x0.P.Room, I p0x0.P.Timeout, I p0x0.P.Tries, I p0x0.P.Kept, .sl 9 b_0x4 0 p0x0.L.length, I p0x0.time_]), (b_0x4, .arr 9 (p0x0.L.map Note.av))] (T1 (fun c_0x4 => [(b_0, .cells [I r.2.P.Room, I r.2.P.Timeout, I r.2.P.Tries, I r.2.P.Kept, .sl 9 c_0x4 0 r.2.L.length, I r.2.time_]), (c_0x4, .arr 9 (r.2.L.map Note.av))]) (fun c_0x4 => I r.1)) := by
  unfold Q_Desk_Put at h
  refine ACall.lessH ?_
  refine ACall.bodyN Tryz.func47 rfl Tryz.ntmps47 Tryz.results47 rfl rfl ?_
  refine tSR <| n_box rfl rfl rfl rfl fun b1 => rA rfl rfl <| rN <| tS <| tSR <| ARun.qv (q_load_ptr_all rfl rfl .p0 rfl) rfl <| bndE h fun v2 e1 h => r_callp rfl (Q_LetterFault_c e1) (CoL.refl _) rfl <| rA rfl rfl <| rN <| tSR <| rM rfl rfl <| ARun.qv (q_neq rfl rfl) rfl <| rN <| ATodo.cond_d rfl (fun hc => ?_) (fun hc => ?_)
  · refine have h := iteT hc h; tSR <| rM rfl rfl <| rA rfl rfl <| rN <| ATodo.ret <| ?_
    obtain rfl := Option.some.inj h
    exact ImpX.here ⟨_, .cons (.tmp _ _ rfl) .nil, _, .cons .p1 (.cons .p1 .nil), ⟨b_0x4, rfl, rfl⟩⟩
  · refine have h := iteF hc h; tK <| tSR <| rM rfl rfl <| rF rfl rfl rfl <| rL rfl rfl .p0 rfl rfl <| bndE h fun v3 e2 h => optE h (fun e3 h => ?_) (fun x4 e3 h => ?_)
    · refine have cM11 := TM_none e3 (Q_Desk_turn_c0x4x_c e2); t_call0 rfl cM11 (CoL.refl _) (.cons .p1 (.cons .p1 .nil)) rfl rfl <| rM rfl rfl <| rX rfl rfl rfl <| rX rfl rfl rfl <| rA rfl rfl <| rA rfl rfl <| rN <| tS <| tSR <| rM rfl rfl <| ARun.qv (q_neq rfl rfl) rfl <| rN <| ATodo.cond_d rfl (fun hc => ?_) (fun hc => ?_)
      · refine have h := iteT hc h; tSR <| rM rfl rfl <| rA rfl rfl <| rN <| ATodo.ret <| ?_
        obtain rfl := Option.some.inj h
        exact ImpX.here ⟨_, .cons (.tmp _ _ rfl) .nil, _, .cons .p0 (.cons .p0 .nil), ⟨b_0x4, rfl, rfl⟩⟩
      · refine have h := iteF hc h; tK <| tSR <| rM rfl rfl <| ?_
        cases h
    · refine have cM12 := TM_some e3 (Q_Desk_turn_c0x4x_c e2); t_call2 rfl cM12 (CoL.refl _) (.cons .p1 (.cons .p1 .nil)) (fun _ _ => rfl) rfl fun b5 b6 => rM rfl rfl <| rX rfl rfl rfl <| rX rfl rfl rfl <| rA rfl rfl <| rA rfl rfl <| rN <| tS <| tSR <| rM rfl rfl <| ARun.qv (q_neq rfl rfl) rfl <| rN <| ATodo.cond_d rfl (fun hc => ?_) (fun hc => ?_)
      · refine have h := iteT hc h; tSR <| rM rfl rfl <| rA rfl rfl <| rN <| ATodo.ret <| ?_
        obtain rfl := Option.some.inj h
        exact ImpX.here ⟨_, .cons (.tmp _ _ rfl) .nil, _, .cons .p0 (.cons .p0 .nil), ⟨b_0x4, rfl, rfl⟩⟩
      · refine have h := iteF hc h; tK <| tSR <| rM rfl rfl <| ARun.qv (q_nilCheck_ptr rfl) rfl <| rF rfl rfl rfl <| rL rfl rfl .p2 rfl rfl <| ARun.qv (q_makeFunc rfl) rfl <| bndE h fun v7 e4 h => r_callpB rfl (slices_IndexFunc_Note_Note_c (fun e => Q_Desk_Put_1x_c (Option.some.inj e)) e4) (.cons (CoB.arrT .p3) (.cons (.funcL _ _ _ (.cons (.boxL _ _ _ .p4 (.cons (.co (.refl _)) (.cons (.co (.refl _)) (.cons (.co (.refl _)) (.cons (.co (.refl _)) (.cons (.co (.refl _)) (.cons (.co (.refl _)) .nil))))))) .nil)) .nil)) rfl rfl <| rA rfl rfl <| rN <| tSR <| rM rfl rfl <| ARun.qv (q_nilCheck_ptr rfl) rfl <| rF rfl rfl rfl <| rF rfl rfl rfl <| rL rfl rfl .p2 rfl rfl <| rA rfl rfl <| rN <| tS <| tSR <| rM rfl rfl <| ARun.qv (q_geq rfl rfl) rfl <| rN <| ATodo.cut (fun σ' => ∃ (n8 : Int), Q_Desk_Put_j1 p0x0 p1x0 x4 v7 n8 = some r ∧ σ' = ⟨94, [(0, .ptr b_0 0), (3, .ptr b1 0), (6, .ptr b5 0), (8, I v7), (9, I n8)], [(b_0, .cells [I p0x0.P.Room, I p0x0.P.Timeout, I p0x0.P.Tries, I p0x0.P.Kept, .sl 9 b_0x4 0 p0x0.L.length, I p0x0.time_]), (b_0x4, .arr 9 (p0x0.L.map Note.av)), (b1, .cells [.str p1x0.Id, .str p1x0.Slot, .str p1x0.Body, I p1x0.Prio, I p1x0.At, I p1x0.Until]), (b5, .cells [I x4.P.Room, I x4.P.Timeout, I x4.P.Tries, I x4.P.Kept, .sl 9 b6 0 x4.L.length, I x4.time_]), (b6, .arr 9 (x4.L.map Note.av))]⟩) ?_ ?_
        · refine ATodo.cond_d rfl (fun hc => ?_) (fun hc => ?_)
          · exact have h := iteT hc h; tR <| rM rfl rfl <| ARun.qv (q_addw rfl rfl) rfl <| rA rfl rfl <| rN <| ATodo.stop <| ImpX.lq [0, 0, 2, 0, 0] ⟨w64 (x4.P.Room + (1 : Int)), h, rfl⟩ rfl rfl
          · exact have h := iteF hc h; tK <| ATodo.stop <| ImpX.lq [0, 0, 2, 0, 0] ⟨x4.P.Room, h, rfl⟩ rfl rfl
        · rintro σ' ⟨n8, h, rfl⟩
          unfold Q_Desk_Put_j1 at h
          refine tS <| ATodo.block <| tSR <| rM rfl rfl <| rF rfl rfl rfl <| rL rfl rfl .p2 rfl rfl <| bndE h fun v9 e5 h => r_callpB rfl (Q_Desk_at_c e5) (.cons (.boxL _ _ _ .p3 (.cons (.co (.refl _)) (.cons (.co (.refl _)) (.cons (.co (.refl _)) (.cons (.co (.refl _)) (.cons (CoB.arrT .p4) (.cons (.co (.refl _)) .nil))))))) (.cons (.co (.refl _)) .nil)) rfl rfl <| ARun.qv (q_geq rfl rfl) rfl <| rA rfl rfl <| rN <| ATodo.cond_d rfl (fun hc => ?_) (fun hc => ?_)
          · refine have h := iteT hc h; tSR <| rA rfl rfl <| rN <| ATodo.ret <| ?_
            obtain rfl := Option.some.inj h
            exact ImpX.here ⟨_, .cons (.tmp _ _ rfl) .nil, _, .cons .p0 (.cons .p0 .nil), ⟨b_0x4, rfl, rfl⟩⟩
          · refine have h := iteF hc h; tSR <| rM rfl rfl <| bndE h fun v10 e6 h => r_callpB rfl (Q_Desk_many_c e6) (.cons (.boxL _ _ _ .p3 (.cons (.co (.refl _)) (.cons (.co (.refl _)) (.cons (.co (.refl _)) (.cons (.co (.refl _)) (.cons (CoB.arrT .p4) (.cons (.co (.refl _)) .nil))))))) .nil) rfl rfl <| rM rfl rfl <| ARun.qv (q_geq rfl rfl) rfl <| rA rfl rfl <| rN <| ATodo.cond_d rfl (fun hc => ?_) (fun hc => ?_)
            · refine have h := iteT hc h; tSR <| rA rfl rfl <| rN <| ATodo.ret <| ?_
              obtain rfl := Option.some.inj h
              exact ImpX.here ⟨_, .cons (.tmp _ _ rfl) .nil, _, .cons .p0 (.cons .p0 .nil), ⟨b_0x4, rfl, rfl⟩⟩
            · refine have h := iteF hc h; tK <| ATodo.blk <| tS <| tSR <| rM rfl rfl <| ARun.qv (q_geq rfl rfl) rfl <| rN <| ATodo.cut (fun σ' => ∃ (l11 : List Note), Q_Desk_Put_j2 p1x0 x4 l11 = some r ∧ σ' = ⟨94, [(0, .ptr b_0 0), (3, .ptr b1 0), (6, .ptr b5 0)], [(b_0, .cells [I p0x0.P.Room, I p0x0.P.Timeout, I p0x0.P.Tries, I p0x0.P.Kept, .sl 9 b_0x4 0 p0x0.L.length, I p0x0.time_]), (b_0x4, .arr 9 (p0x0.L.map Note.av)), (b1, .cells [.str p1x0.Id, .str p1x0.Slot, .str p1x0.Body, I p1x0.Prio, I p1x0.At, I p1x0.Until]), (b5, .cells [I x4.P.Room, I x4.P.Timeout, I x4.P.Tries, I x4.P.Kept, .sl 9 b6 0 l11.length, I x4.time_]), (b6, .arr 9 (l11.map Note.av))]⟩) ?_ ?_
              · refine ATodo.cond_d rfl (fun hc => ?_) (fun hc => ?_)
                · refine have h := iteT hc h; bndE h fun v12 e7 h => ATodo.regionT (id := 16) (A := [0, 1, 3, 7, 0, 0, 32, 96, 224, 0, 0, 1024, 511, 4607, 12799, 32767, 65535, 131071]) (H0 := [(b6, .arr 9 (x4.L.map Note.av))]) (HH := fun β => [(b6, .arr 9 ((x4.L.set v7.toNat (⟨v12.Letter, (6 : Int), v12.Tries, v12.Since⟩ : Note)).map Note.av)), (b_0, .cells [I p0x0.P.Room, I p0x0.P.Timeout, I p0x0.P.Tries, I p0x0.P.Kept, .sl 9 b_0x4 0 p0x0.L.length, I p0x0.time_]), (b_0x4, .arr 9 (p0x0.L.map Note.av)), (b1, .cells [.str p1x0.Id, .str p1x0.Slot, .str p1x0.Body, I p1x0.Prio, I p1x0.At, I p1x0.Until]), (b5, .cells [I x4.P.Room, I x4.P.Timeout, I x4.P.Tries, I x4.P.Kept, .sl 9 b6 0 x4.L.length, I x4.time_])]) 15 mixed rfl (by kernel_rfl) (by kernel_rfl) [⟨none, some 14, [], fun _ => (b6, .arr 9 (x4.L.map Note.av)), none⟩, ⟨some 14, none, [], fun _ => (b6, .arr 9 ((x4.L.set v7.toNat (⟨v12.Letter, (6 : Int), v12.Tries, v12.Since⟩ : Note)).map Note.av)), none⟩] [] rfl (by kernel_rfl) rfl (.cons .p4 .nil) (fun _ => rfl) <| AT.am 14 rfl rfl <| AM.qv (q_move rfl) rfl <| AM.qv (q_nilCheck_ptr rfl) rfl <| AM.qv (n_field_ptr rfl rfl) rfl <| AM.qv (q_load_ptr rfl rfl .p3 rfl) rfl <| AM.qv (q_move rfl) rfl <| AM.qv (q_move rfl) rfl <| AM.qv (q_nilCheck_ptr rfl) rfl <| AM.qv (n_field_ptr rfl rfl) rfl <| AM.qv (q_load_ptr rfl rfl .p3 rfl) rfl <| AM.qv (q_move rfl) rfl <| AM.qv (n_field_ptr rfl rfl) rfl <| AM.qv (q_load_ptr rfl rfl .p2 rfl) rfl <| AM.qv (t_index_sl rfl rfl rfl e7) rfl <| AM.qv (t_field_aptr rfl rfl) rfl <| AM.nil <| AT.run0 (Ti := [(b6, .arr 9 (x4.L.map Note.av))]) (Pi := [(b6, .arr 9 ((x4.L.set v7.toNat (⟨v12.Letter, (6 : Int), v12.Tries, v12.Since⟩ : Note)).map Note.av))]) (fun _ => rfl) (fun _ => rfl) (fun _ => rfl) rfl rfl ?_ ?_
                  · exact t_store_aptr1 (g := Note.av) (el' := (⟨v12.Letter, (6 : Int), v12.Tries, v12.Since⟩ : Note)) rfl rfl rfl rfl e7 rfl .p0 rfl <| ARun.nil ⟨_, rfl⟩
                  exact AT.nilN (fun _ => rfl) fun β => ARun.ghost <| ImpX.eqs (s := 56) (av' := .sl 9 b6 0 (x4.L.set v7.toNat (⟨v12.Letter, (6 : Int), v12.Tries, v12.Since⟩ : Note)).length) rfl (by simp) <| ImpX.here <| ARun.ghost <| ImpX.eqs (s := 61) (av' := .sl 9 b6 0 (x4.L.set v7.toNat (⟨v12.Letter, (6 : Int), v12.Tries, v12.Since⟩ : Note)).length) rfl (by simp) <| ImpX.here <| ARun.ghost <| ImpX.eqBox (j := 4) (av' := .sl 9 b6 0 (x4.L.set v7.toNat (⟨v12.Letter, (6 : Int), v12.Tries, v12.Since⟩ : Note)).length) .p4 rfl (by simp) rfl <| ImpX.here <| bndE h fun v13 e8 h => ARun.qv (t_index_sl rfl rfl rfl e8) rfl <| ARun.qv (t_field_aptr rfl rfl) rfl <| t_store_aptr1 (g := Note.av) (el' := (⟨v13.Letter, v13.State, v13.Tries, p1x0.At⟩ : Note)) rfl rfl rfl rfl e8 rfl .p0 rfl <| ARun.ghost <| ImpX.eqs (s := 56) (av' := .sl 9 b6 0 ((x4.L.set v7.toNat (⟨v12.Letter, (6 : Int), v12.Tries, v12.Since⟩ : Note)).set v7.toNat (⟨v13.Letter, v13.State, v13.Tries, p1x0.At⟩ : Note)).length) rfl (by rw [List.length_set]) <| ImpX.here <| ARun.ghost <| ImpX.eqs (s := 61) (av' := .sl 9 b6 0 ((x4.L.set v7.toNat (⟨v12.Letter, (6 : Int), v12.Tries, v12.Since⟩ : Note)).set v7.toNat (⟨v13.Letter, v13.State, v13.Tries, p1x0.At⟩ : Note)).length) rfl (by rw [List.length_set]) <| ImpX.here <| ARun.ghost <| ImpX.eqBox (j := 4) (av' := .sl 9 b6 0 ((x4.L.set v7.toNat (⟨v12.Letter, (6 : Int), v12.Tries, v12.Since⟩ : Note)).set v7.toNat (⟨v13.Letter, v13.State, v13.Tries, p1x0.At⟩ : Note)).length) .p4 rfl (by rw [List.length_set]) rfl <| ImpX.here <| rN <| ATodo.stop <| ImpX.lq [1, 1, 1, 1, 0] ⟨(x4.L.set v7.toNat (⟨v12.Letter, (6 : Int), v12.Tries, v12.Since⟩ : Note)).set v7.toNat (⟨v13.Letter, v13.State, v13.Tries, p1x0.At⟩ : Note), h, rfl⟩ rfl rfl
                · exact have h := iteF hc h; tK <| ATodo.stop <| ImpX.lq [0, 0, 0, 0, 0] ⟨x4.L, h, rfl⟩ rfl rfl
              · rintro σ' ⟨l11, h, rfl⟩
                unfold Q_Desk_Put_j2 at h
                refine tS <| bndE h fun l14 e9 h => ATodo.regionT (id := 17) (A := [0, 0, 2, 6, 14, 0, 0, 64, 224, 480, 1022, 2047, 4095, 8191]) (H0 := [(b6, .arr 9 (l11.map Note.av))]) (HH := fun β => [((β 10), .arr 9 (l14.map Note.av)), (b_0, .cells [I p0x0.P.Room, I p0x0.P.Timeout, I p0x0.P.Tries, I p0x0.P.Kept, .sl 9 b_0x4 0 p0x0.L.length, I p0x0.time_]), (b_0x4, .arr 9 (p0x0.L.map Note.av)), (b1, .cells [.str p1x0.Id, .str p1x0.Slot, .str p1x0.Body, I p1x0.Prio, I p1x0.At, I p1x0.Until]), (b5, .cells [I x4.P.Room, I x4.P.Timeout, I x4.P.Tries, I x4.P.Kept, .sl 9 b6 0 l11.length, I x4.time_])]) 11 mixed rfl (by kernel_rfl) (by kernel_rfl) [⟨none, some 10, [], fun _ => (b6, .arr 9 (l11.map Note.av)), none⟩, ⟨some 10, none, [], fun b => (b, .arr 9 (l14.map Note.av)), none⟩] [10] rfl (by kernel_rfl) rfl (.cons .p4 .nil) (fun _ => rfl) <| AT.am 10 rfl rfl <| AM.qv (q_move rfl) rfl <| AM.qv (q_move rfl) rfl <| AM.qv (q_nilCheck_ptr rfl) rfl <| AM.qv (n_field_ptr rfl rfl) rfl <| AM.qv (q_load_ptr rfl rfl .p3 rfl) rfl <| AM.qv (q_load_ptr_all rfl rfl .p2 rfl) rfl <| AM.qv (n_field_ptr rfl rfl) rfl <| AM.qv (q_load_ptr rfl rfl .p2 rfl) rfl <| AM.qv (n_build rfl rfl rfl rfl rfl) rfl <| AM.buildSliceL (xs := ([(⟨p1x0, (1 : Int), (0 : Int), p1x0.At⟩ : Note)]).map Note.av) rfl rfl rfl rfl rfl rfl <| AM.nil <| AT.runD (V := fun b => .sl 9 b 0 l14.length) (Ti := [(b6, .arr 9 (l11.map Note.av))]) (Pi := fun b => [(b, .arr 9 (l14.map Note.av))]) (fun _ => rfl) (fun _ => rfl) (fun _ _ => rfl) rfl (fun _ => rfl) rfl rfl rfl ?_ ?_
                · exact t_append (g := Note.av) rfl rfl rfl rfl rfl rfl rfl rfl (.list _) e9 (fun _ => .p0) rfl fun b15 => ARun.nil ⟨b15, _, rfl, rfl⟩
                refine AT.nilN (fun _ => rfl) fun β => ?_
                generalize β 10 = b15
                clear β
                refine ARun.qv (q_nilCheck_ptr rfl) rfl <| rF rfl rfl rfl <| n_store_ptr rfl rfl rfl rfl .p4 rfl rfl <| rN <| tSR <| rM rfl rfl <| ARun.qv (q_nilCheck_ptr rfl) rfl <| rF rfl rfl rfl <| rL rfl rfl .p4 rfl rfl <| bndE h fun v16 e10 h => t_call0 rfl (slices_SortFunc_Note_Note_c (fun e => Q_Desk_Put_2x_c (GI := strongT) (Option.some.inj e)) (lenOk_f e10)) (CoL.refl _) (.cons .p0 .nil) rfl rfl <| ARun.ghost <| ImpX.eqs (s := 79) (av' := .sl 9 b15 0 v16.length) rfl (congrArg (AV.sl 9 b15 0) (lenOk_l e10)) <| ImpX.here <| ARun.ghost <| ImpX.eqs (s := 85) (av' := .sl 9 b15 0 v16.length) rfl (congrArg (AV.sl 9 b15 0) (lenOk_l e10)) <| ImpX.here <| ARun.ghost <| ImpX.eqBox (j := 4) (av' := .sl 9 b15 0 v16.length) .p4 rfl (congrArg (AV.sl 9 b15 0) (lenOk_l e10)) rfl <| ImpX.here <| rN <| tSR <| rM rfl rfl <| bndE h fun v17 e11 h => t_call1 rfl (Q_Desk_forget_c e11) (CoL.refl _) (.cons .p4 (.cons .p0 .nil)) (fun _ => rfl) rfl fun b18 => rN <| tSR <| rM rfl rfl <| rM rfl rfl <| ARun.qv (q_nilCheck_ptr rfl) rfl <| ARun.qv (q_load_ptr_all rfl rfl .p0 rfl) rfl <| ARun.qv (q_nilCheck_ptr rfl) rfl <| n_store_ptr rfl rfl rfl rfl .p2 rfl rfl <| rN <| tSR <| rA rfl rfl <| rN <| ATodo.ret <| ?_
                obtain rfl := Option.some.inj h
                exact ImpX.here ⟨_, .cons (.tmp _ _ rfl) .nil, _, .cons .p2 (.cons .p1 .nil), ⟨b18, rfl, rfl⟩⟩

set_option maxHeartbeats 4000000 in
theorem command_byOrder_c [GI : GTab] {p0x0 : Letter} {p1x0 : Letter} {r : Int} (h : command_byOrder p0x0 p1x0 = some r) : Pu Tryz.prog 90 [.agg [.str p0x0.Id, .str p0x0.Slot, .str p0x0.Body, I p0x0.Prio, I p0x0.At, I p0x0.Until], .agg [.str p1x0.Id, .str p1x0.Slot, .str p1x0.Body, I p1x0.Prio, I p1x0.At, I p1x0.Until]] (I r) := by
  unfold command_byOrder at h
  refine ACall.bodyN Tryz.func90 rfl Tryz.ntmps90 Tryz.results90 rfl rfl ?_
  refine tSR <| n_box rfl rfl rfl rfl fun b1 => n_box rfl rfl rfl rfl fun b2 => rA rfl rfl <| rN <| tS <| ATodo.regionM (id := 1) (A := [0, 1, 0, 4, 15, 0, 32, 0, 128, 511, 0, 1024, 0, 4096, 16383, 32767, 65535, 131071]) 18 mixed rfl (by kernel_rfl) (by kernel_rfl) <| AM.qv (n_field_ptr rfl rfl) rfl <| AM.qv (q_load_ptr rfl rfl .p0 rfl) rfl <| AM.qv (n_field_ptr rfl rfl) rfl <| AM.qv (q_load_ptr rfl rfl .p1 rfl) rfl <| AM.callp rfl (cmp_Compare_int_c rfl) (CoL.refl _) rfl <| AM.qv (n_field_ptr rfl rfl) rfl <| AM.qv (q_load_ptr rfl rfl .p1 rfl) rfl <| AM.qv (n_field_ptr rfl rfl) rfl <| AM.qv (q_load_ptr rfl rfl .p0 rfl) rfl <| AM.callp rfl (cmp_Compare_int_c rfl) (CoL.refl _) rfl <| AM.qv (n_field_ptr rfl rfl) rfl <| AM.qv (q_load_ptr rfl rfl .p1 rfl) rfl <| AM.qv (n_field_ptr rfl rfl) rfl <| AM.qv (q_load_ptr rfl rfl .p0 rfl) rfl <| AM.callp rfl (strings_Compare_c rfl) (CoL.refl _) rfl <| AM.buildSliceL (xs := ([(cmp_Compare_int p1x0.Prio p0x0.Prio), (cmp_Compare_int p0x0.At p1x0.At), (Lib.compareBytes p0x0.Id p1x0.Id)] : List Int).map I) rfl rfl rfl rfl rfl rfl <| bndE h fun v3 e1 h => AM.callp rfl (cmp_Or_int_c e1) (CoL.refl _) rfl <| AM.qv (q_assign rfl) rfl <| AM.nil <| rN <| ATodo.ret <| ?_
  obtain rfl := Option.some.inj h
  exact ImpX.here ⟨_, .cons (.tmp _ _ rfl) .nil, rfl⟩

set_option maxHeartbeats 4000000 in
theorem slices_SortFunc_Letter_Letter_k : SortK Tryz.prog 89 6 := ⟨fun enc hk h1 cf hO g cb blk off cap d w eg hc hH hb hs => AnyQ.slices_SortFunc_eq Tryz.sortF89 6 Tryz.isAgg40 Tryz.sizeOf40 enc hk h1 cf hO g cb blk off cap d w eg hc hH hb hs, fun p cap fv w => AnyF.slices_SortFunc_none Tryz.sortF89 p cap fv w⟩
theorem slices_SortFunc_Letter_Letter_c [GI : GTab] {b_0 : Bk} {p0x0 : List Letter} {fnb : Letter → Letter → Option Int} {fnb_F : FuncId} [IsFn Tryz.prog fnb_F] {fnb_C : List AV} (fnb_h : ∀ {y0 y1 : _} {u : Int}, fnb y0 y1 = some u → @Pu strongT Tryz.prog fnb_F (Letter.av y0 :: Letter.av y1 :: fnb_C) (I u)) {r : (List Letter)} (h : slices_SortFunc_Letter_Letter p0x0 fnb = some r) : ACall Tryz.prog 89 [.sl 6 b_0 0 p0x0.length, .func (.func fnb_F) fnb_C] [(b_0, .arr 6 (p0x0.map Letter.av))] (T0 [(b_0, .arr 6 (r.map Letter.av))] (.tup [])) :=
  sort_acall (fn := fnb) slices_SortFunc_Letter_Letter_k rfl @fnb_h (fun _ => rfl) h

set_option maxHeartbeats 4000000 in
theorem slices_Clone_Letter_Letter_c [GI : GTab] {p0x0 : List Letter} {r : (List Letter)} (h : slices_Clone_Letter_Letter p0x0 = some r) : ACall Tryz.prog 42 [.list 6 (p0x0.map Letter.av)] [] (T1 (fun d_0 => [(d_0, .arr 6 (r.map Letter.av))]) (fun d_0 => .sl 6 d_0 0 r.length)) := by
  unfold slices_Clone_Letter_Letter at h
  refine ACall.lessH ?_
  refine ACall.bodyN Tryz.func42 rfl Tryz.ntmps42 Tryz.results42 rfl rfl ?_
  refine ATodo.seq ?_
  refine ATodo.region ?_
  refine ARun.qv (q_assign rfl) rfl ?_
  refine ARun.nil ?_
  refine ATodo.seq ?_
  refine ATodo.seq ?_
  refine ATodo.region ?_
  refine ARun.qv (q_move rfl) rfl ?_
  refine r_eqnil rfl rfl rfl rfl (fun c hc => ?_)
  refine ARun.nil ?_
  refine ATodo.cond rfl (fun hT => ?_) (fun hF => ?_)
  · obtain rfl := app_nil_some h (List.map_eq_nil_iff.1 (hc hT))
    refine ATodo.seq ?_
    refine ATodo.region ?_
    refine ARun.qv (q_assign rfl) rfl ?_
    refine ARun.nil ?_
    refine ATodo.ret ?_
    refine ImpX.arr (s := 2) 6 rfl (fun b1 => ?_)
    exact ImpX.here ⟨_, .cons (.tmp _ _ rfl) .nil, _, .cons .here .nil, ⟨b1, rfl, rfl⟩⟩
  · refine ATodo.skip ?_
    refine ATodo.seq ?_
    refine ATodo.region ?_
    refine n_buildSlice (xs := ([] : List Letter).map Letter.av) rfl rfl rfl rfl rfl rfl (fun b2 => ?_)
    refine ARun.qv (q_move rfl) rfl ?_
    refine t_append (g := Letter.av) (Xs := []) rfl rfl rfl rfl rfl rfl rfl rfl (.list _) h (fun _ => .here) rfl (fun b3 => ?_)
    refine ARun.qv (q_assign rfl) rfl ?_
    refine ARun.nil ?_
    refine ATodo.ret ?_
    exact ImpX.here ⟨_, .cons (.tmp _ _ rfl) .nil, _, .cons .here .nil, ⟨b3, rfl, rfl⟩⟩

set_option maxHeartbeats 4000000 in
theorem command_Office_Fetch_c [GI : GTab] {b_0 : Bk} {b_0x4 : Bk} {p0x0 : Command_Office} {p1x0 : Int} {p2x0 : Int} {r : (List Letter) × Int × Command_Office} (h : command_Office_Fetch p0x0 p1x0 p2x0 = some r) : ACall Tryz.prog 48 [.ptr b_0 0, I p1x0, I p2x0] [(b_0, .cells [I p0x0.post_.Room, I p0x0.post_.Timeout, I p0x0.post_.Tries, I p0x0.post_.Kept, .mref b_0x4, I p0x0.time_]), (b_0x4, .mp (p0x0.notes_.map (fun e => (AV.str e.1, Note.av e.2))))] (T2 (fun c_0x4 d_0 => [(b_0, .cells [I r.2.2.post_.Room, I r.2.2.post_.Timeout, I r.2.2.post_.Tries, I r.2.2.post_.Kept, .mref c_0x4, I r.2.2.time_]), (c_0x4, .mp (r.2.2.notes_.map (fun e => (AV.str e.1, Note.av e.2)))), (d_0, .arr 6 (r.1.map Letter.av))]) (fun c_0x4 d_0 => .tup [.sl 6 d_0 0 r.1.length, I r.2.1])) := by
  unfold command_Office_Fetch at h
  refine ACall.lessH ?_
  refine ACall.bodyN Tryz.func48 rfl Tryz.ntmps48 Tryz.results48 rfl rfl ?_
  refine tSR <| rA rfl rfl <| rA rfl rfl <| rN <| tS <| tSR <| rM rfl rfl <| rM rfl rfl <| t_call0 rfl (command_Office_timeFault_c rfl) (CoL.refl _) (.cons .p0 .nil) rfl rfl <| rA rfl rfl <| rN <| tSR <| rM rfl rfl <| ARun.qv (q_neq rfl rfl) rfl <| rN <| ATodo.cond_d rfl (fun hc => ?_) (fun hc => ?_)
  · refine have h := iteT hc h; tSR <| rM rfl rfl <| rA rfl rfl <| rA rfl rfl <| rN <| ATodo.ret <| ?_
    obtain rfl := Option.some.inj h
    exact ImpX.arr (s := 6) 6 rfl fun b1 => ImpX.here ⟨_, .cons (.tmp _ _ rfl) (.cons (.tmp _ _ rfl) .nil), _, .cons .p1 (.cons .p1 (.cons .p0 .nil)), ⟨b_0x4, b1, rfl, rfl⟩⟩
  · refine have h := iteF hc h; tK <| tS <| tSR <| rM rfl rfl <| r_callp rfl (base_Out_c rfl) (CoL.refl _) rfl <| rN <| ATodo.cond rfl (fun hc => ?_) (fun hc => ?_)
    · refine have h := iteT hc h; tSR <| rA rfl rfl <| rA rfl rfl <| rN <| ATodo.ret <| ?_
      obtain rfl := Option.some.inj h
      exact ImpX.arr (s := 6) 6 rfl fun b2 => ImpX.here ⟨_, .cons (.tmp _ _ rfl) (.cons (.tmp _ _ rfl) .nil), _, .cons .p1 (.cons .p1 (.cons .p0 .nil)), ⟨b_0x4, b2, rfl, rfl⟩⟩
    · refine have h := iteFb hc h; tK <| tSR <| rM rfl rfl <| rM rfl rfl <| bndE h fun v3 e1 h => t_call1 rfl (command_Office_aged_c e1) (CoL.refl _) (.cons .p0 (.cons .p0 .nil)) (fun _ => rfl) rfl fun b4 => rA rfl rfl <| rN <| tSR <| rA rfl rfl <| rN <| tS <| tSR <| rM rfl rfl <| t_range (M := v3) (enc := (fun e => (AV.str e.1, Note.av e.2))) rfl (fun _ _ => .p2) rfl fun b5 Le2 ce2 hLe2 hIe2 => rN <| ATodo.block <| ATodo.loopMap (fun e (x : (List Letter)) => command_Office_Fetch_b1 e x) (fun x : (List Letter) => command_Office_Fetch_f1 p0x0 p1x0 p2x0 v3 x) (fun R x σ' => ∃ (b8 : Bk) (s1m : List Nat), MIter Le2 ce2 s1m (R.map (fun e => (AV.str e.1, Note.av e.2))) ∧ σ' = ⟨77, [(0, .ptr b_0 0), (1, I p1x0), (2, I p2x0), (9, .mref b4), (10, .sl 6 b8 0 x.length), (28, .ptr b5 0)], [(b_0, .cells [I p0x0.post_.Room, I p0x0.post_.Timeout, I p0x0.post_.Tries, I p0x0.post_.Kept, .mref b_0x4, I p0x0.time_]), (b_0x4, .mp (p0x0.notes_.map (fun e => (AV.str e.1, Note.av e.2)))), (b5, .mit b4 ce2 s1m), (b4, .mpb Le2 ce2), (b8, .arr 6 (x.map Letter.av))]⟩) h ?_ ?_
      · exact ImpX.arr (s := 10) 6 rfl fun b10 => ImpX.lq [2, 2, 1, 1, 0] ⟨b10, [], hIe2, rfl⟩ rfl rfl
      · intro R1 l9 σ' J1 hmk hH1 hK1
        obtain ⟨b8, s1m, hI1m, rfl⟩ := hmk
        refine tSR <| t_next rfl hI1m .p3 (fun _ => .p2) rfl (fun hN => ?_) (fun v1m R' sv1m hP hlen hIv1m hCv1m => ?_)
        · have h := nilL hH1 hN
          replace h : command_Office_Fetch_f1 p0x0 p1x0 p2x0 v3 l9 = _ := h
          unfold command_Office_Fetch_f1 at h
          refine ARun.ghost <| ImpX.mpDone hLe2 .p3 <| ImpX.here <| rX rfl rfl rfl <| rN <| tS <| ATodo.cond_f rfl <| ATodo.exit rfl <| tSR <| rM rfl rfl <| bndE h fun v11 e3 h => t_call0 rfl (slices_SortFunc_Letter_Letter_c (fun e => command_byOrder_c (GI := strongT) e) (lenOk_f e3)) (CoL.refl _) (.cons .p4 .nil) rfl rfl <| ARun.ghost <| ImpX.eqs (s := 10) (av' := .sl 6 b8 0 v11.length) rfl (congrArg (AV.sl 6 b8 0) (lenOk_l e3)) <| ImpX.here <| ARun.ghost <| ImpX.eqs (s := 41) (av' := .sl 6 b8 0 v11.length) rfl (congrArg (AV.sl 6 b8 0) (lenOk_l e3)) <| ImpX.here <| rN <| tSR <| rM rfl rfl <| rM rfl rfl <| rM rfl rfl <| ARun.qv (t_len_sl rfl) rfl <| ARun.qv (q_min rfl rfl) rfl <| bndE h fun l12 e4 h => ARun.qv (t_slice_sl rfl rfl .none (.some _ _ _ rfl) rfl rfl e4) rfl <| bndE h fun v13 e5 h => t_callL1 rfl (slices_Clone_Letter_Letter_c e5) .nil (.cons (CoB.partT e4 .p0) .nil) (fun _ => rfl) (fun _ => rfl) (fun _ => (.cons (NoS.arrT (fun _ => rfl)) .nil)) rfl fun b14 => rA rfl rfl <| rN <| tS <| tSR <| rM rfl rfl <| ARun.qv (t_len_sl rfl) rfl <| rM rfl rfl <| rN <| ATodo.block <| ATodo.loopI (fun x : (List (Str × Note)) × Int => command_Office_Fetch_b2 p0x0 p1x0 v13 x.1 x.2) (fun x σ' => σ' = ⟨77, [(0, .ptr b_0 0), (1, I p1x0), (9, .mref b4), (10, .sl 6 b14 0 v13.length), (50, .sl 6 b14 0 v13.length), (51, I (v13.length : Int)), (52, I x.2)], [(b_0, .cells [I p0x0.post_.Room, I p0x0.post_.Timeout, I p0x0.post_.Tries, I p0x0.post_.Kept, .mref b_0x4, I p0x0.time_]), (b_0x4, .mp (p0x0.notes_.map (fun e => (AV.str e.1, Note.av e.2)))), (b4, .mp (x.1.map (fun e => (AV.str e.1, Note.av e.2)))), (b14, .arr 6 (v13.map Letter.av))]⟩) h ?_ ?_
          · exact ImpX.lq [2, 2, 3, 0] rfl rfl rfl
          · intro x z2 σ' J2 hmk h hJ2 hA2
            obtain ⟨l17, n18⟩ := x
            obtain rfl := hmk
            replace h : command_Office_Fetch_b2 p0x0 p1x0 v13 l17 n18 = some z2 := h
            unfold command_Office_Fetch_b2 at h
            refine tSR <| ARun.qv (q_lss rfl rfl) rfl <| rN <| tS <| ATodo.cond_d rfl (fun hc => ?_) (fun hc => ?_)
            · refine have h := iteT hc h; tK <| tS <| ATodo.block <| tSR <| bndE h fun v19 e6 h => ARun.qv (t_index_sl rfl rfl rfl e6) rfl <| ARun.qv (t_load_aptr_agg (g := Letter.av) rfl rfl (.inl .p3) rfl e6 rfl) rfl <| n_alloc rfl rfl rfl rfl fun b20 => n_store_ptr rfl rfl rfl rfl .p0 rfl rfl <| rN <| tSR <| rM rfl rfl <| rF rfl rfl rfl <| rL rfl rfl .p0 rfl rfl <| bndE h fun v21 e7 h => ARun.qv (t_lookup (gk := AV.str) (gv := Note.av) (M := l17) (key := v19.Id) (Z := (⟨(⟨[], [], [], (0 : Int), (0 : Int), (0 : Int)⟩ : Letter), (0 : Int), (0 : Int), (0 : Int)⟩ : Note)) rfl rfl .p3 rfl rfl rfl e7 rfl) rfl <| n_alloc rfl rfl rfl rfl fun b22 => n_store_ptr rfl rfl rfl rfl .p0 rfl rfl <| rN <| tSR <| rM rfl rfl <| rF rfl rfl rfl <| n_store_ptr rfl rfl rfl rfl .p0 rfl rfl <| rF rfl rfl rfl <| n_store_ptr rfl rfl rfl rfl .p0 rfl rfl <| rN <| tSR <| rF rfl rfl rfl <| rL rfl rfl .p0 rfl rfl <| ARun.qv (q_addw rfl rfl) rfl <| rF rfl rfl rfl <| n_store_ptr rfl rfl rfl rfl .p0 rfl rfl <| rN <| tR <| rM rfl rfl <| rF rfl rfl rfl <| rL rfl rfl .p1 rfl rfl <| ARun.qv (q_load_ptr_all rfl rfl .p0 rfl) rfl <| t_mapUpdate (gk := AV.str) (gv := Note.av) (M := l17) (key := v19.Id) (v := (⟨v21.Letter, (2 : Int), w64 (v21.Tries + (1 : Int)), p1x0⟩ : Note)) rfl rfl rfl rfl .p4 <| rN <| ATodo.blk <| tR <| ARun.qv (q_addw rfl rfl) rfl <| rM rfl rfl <| rN <| ATodo.stop <| ?_
              obtain rfl := Option.some.inj h
              exact hJ2 _ _ rfl <| ImpX.lq [2, 2, 2, 2] rfl rfl rfl
            · refine have h := iteF hc h; ATodo.exit rfl <| have h := outL h hA2; tSR <| rM rfl rfl <| rM rfl rfl <| rM rfl rfl <| t_call1 rfl (command_Office_keep_c rfl) (CoL.refl _) (.cons .p0 (.cons .p0 (.cons .p0 .nil))) (fun _ => rfl) rfl fun b23 => rN <| tSR <| rM rfl rfl <| rA rfl rfl <| rA rfl rfl <| rN <| ATodo.ret <| ?_
              obtain rfl := Option.some.inj h
              exact ImpX.here ⟨_, .cons (.tmp _ _ rfl) (.cons (.tmp _ _ rfl) .nil), _, .cons .p0 (.cons .p0 (.cons .p0 .nil)), ⟨b23, b14, rfl, rfl⟩⟩
        · obtain ⟨z1, h, hN1, hA1⟩ := stepL hH1 hP
          replace h : command_Office_Fetch_b1 v1m l9 = some z1 := h
          unfold command_Office_Fetch_b1 at h
          have hJ1 := fun y σ' (e : z1 = .inl y) hi => hK1 R' y σ' hlen (hN1 y e) hi
          clear hN1 hP hK1 hH1
          refine rX rfl rfl rfl <| rN <| tS <| ATodo.cond_t rfl <| tK <| ATodo.block <| tSR <| ARun.qv (t_entry rfl .p2 .p3 hCv1m rfl rfl) rfl <| rX rfl rfl rfl <| n_alloc rfl rfl rfl rfl fun b24 => n_store_ptr rfl rfl rfl rfl .p0 rfl rfl <| rN <| tSR <| rF rfl rfl rfl <| rL rfl rfl .p0 rfl rfl <| ARun.qv (q_eql rfl rfl) rfl <| rN <| ATodo.cut (fun σ' => ∃ (b25 : Bk) (l26 : List Letter), command_Office_Fetch_j1 l26 = some z1 ∧ σ' = ⟨77, [(0, .ptr b_0 0), (1, I p1x0), (2, I p2x0), (9, .mref b4), (10, .sl 6 b25 0 l26.length), (28, .ptr b5 0)], [(b_0, .cells [I p0x0.post_.Room, I p0x0.post_.Timeout, I p0x0.post_.Tries, I p0x0.post_.Kept, .mref b_0x4, I p0x0.time_]), (b_0x4, .mp (p0x0.notes_.map (fun e => (AV.str e.1, Note.av e.2)))), (b4, .mpb Le2 ce2), (b25, .arr 6 (l26.map Letter.av)), (b5, .mit b4 ce2 sv1m)]⟩) ?_ ?_
          · refine ATodo.cond_d rfl (fun hc => ?_) (fun hc => ?_)
            · exact have h := iteT hc h; tR <| rM rfl rfl <| rF rfl rfl rfl <| ARun.qv (n_load_ptr_part rfl rfl .p0 rfl rfl) rfl <| n_buildSliceL (xs := ([v1m.2.Letter] : List Letter).map Letter.av) rfl rfl rfl rfl rfl rfl <| bndE h fun l27 e8 h => t_append (g := Letter.av) rfl rfl rfl rfl rfl rfl rfl rfl (.list _) e8 (fun _ => .p5) rfl fun b28 => rA rfl rfl <| rN <| ATodo.stop <| ImpX.lq [1, 1, 2, 2, 1] ⟨b28, l27, h, rfl⟩ rfl rfl
            · exact have h := iteF hc h; tK <| ATodo.stop <| ImpX.lq [1, 1, 2, 2, 1] ⟨b8, l9, h, rfl⟩ rfl rfl
          · rintro σ' ⟨b25, l26, h, rfl⟩
            unfold command_Office_Fetch_j1 at h
            refine ATodo.blk <| ATodo.stop <| ?_
            obtain rfl := Option.some.inj h
            exact hJ1 _ _ rfl <| ImpX.lq [0, 0, 2, 0, 0] ⟨b25, sv1m, hIv1m, rfl⟩ rfl rfl

set_option maxHeartbeats 4000000 in
theorem Q_sign_c [GI : GTab] {p0x0 : Int} {r : Int} (h : Q_sign p0x0 = r) : Pu Tryz.prog 116 [I p0x0] (I r) := by
  unfold Q_sign at h
  refine ACall.bodyN Tryz.func116 rfl Tryz.ntmps116 Tryz.results116 rfl rfl ?_
  refine tSR <| rA rfl rfl <| rN <| tS <| ATodo.block <| tSR <| rM rfl rfl <| ARun.qv (q_lss rfl rfl) rfl <| rA rfl rfl <| rN <| ATodo.cond_d rfl (fun hc => ?_) (fun hc => ?_)
  · refine have h := iteT hc h; tSR <| rA rfl rfl <| rN <| ATodo.ret <| ?_
    obtain rfl := h
    exact ImpX.here ⟨_, .cons (.tmp _ _ rfl) .nil, rfl⟩
  · refine have h := iteF hc h; tSR <| rM rfl rfl <| ARun.qv (q_gtr rfl rfl) rfl <| rA rfl rfl <| rN <| ATodo.cond_d rfl (fun hc => ?_) (fun hc => ?_)
    · refine have h := iteT hc h; tSR <| rA rfl rfl <| rN <| ATodo.ret <| ?_
      obtain rfl := h
      exact ImpX.here ⟨_, .cons (.tmp _ _ rfl) .nil, rfl⟩
    · refine have h := iteF hc h; tK <| ATodo.blk <| tSR <| rA rfl rfl <| rN <| ATodo.ret <| ?_
      obtain rfl := h
      exact ImpX.here ⟨_, .cons (.tmp _ _ rfl) .nil, rfl⟩

set_option maxHeartbeats 4000000 in
theorem Q_LetterOrder_c [GI : GTab] {p0x0 : Letter} {p1x0 : Letter} {r : Int} (h : Q_LetterOrder p0x0 p1x0 = r) : Pu Tryz.prog 91 [.agg [.str p0x0.Id, .str p0x0.Slot, .str p0x0.Body, I p0x0.Prio, I p0x0.At, I p0x0.Until], .agg [.str p1x0.Id, .str p1x0.Slot, .str p1x0.Body, I p1x0.Prio, I p1x0.At, I p1x0.Until]] (I r) := by
  unfold Q_LetterOrder at h
  refine ACall.bodyN Tryz.func91 rfl Tryz.ntmps91 Tryz.results91 rfl rfl ?_
  refine tSR <| n_box rfl rfl rfl rfl fun b1 => n_box rfl rfl rfl rfl fun b2 => rA rfl rfl <| rN <| tS <| ATodo.block <| tSR <| rF rfl rfl rfl <| rL rfl rfl .p1 rfl rfl <| rF rfl rfl rfl <| rL rfl rfl .p0 rfl rfl <| ARun.qv (q_neq rfl rfl) rfl <| rA rfl rfl <| rN <| ATodo.cond_d rfl (fun hc => ?_) (fun hc => ?_)
  · refine have h := iteT hc h; tSR <| rF rfl rfl rfl <| rL rfl rfl .p0 rfl rfl <| rF rfl rfl rfl <| rL rfl rfl .p1 rfl rfl <| ARun.qv (q_subw rfl rfl) rfl <| r_callp rfl (Q_sign_c rfl) (CoL.refl _) rfl <| rA rfl rfl <| rN <| ATodo.ret <| ?_
    obtain rfl := h
    exact ImpX.here ⟨_, .cons (.tmp _ _ rfl) .nil, rfl⟩
  · refine have h := iteF hc h; tSR <| rF rfl rfl rfl <| rL rfl rfl .p1 rfl rfl <| rF rfl rfl rfl <| rL rfl rfl .p0 rfl rfl <| ARun.qv (q_neq rfl rfl) rfl <| rA rfl rfl <| rN <| ATodo.cond_d rfl (fun hc => ?_) (fun hc => ?_)
    · refine have h := iteT hc h; tSR <| rF rfl rfl rfl <| rL rfl rfl .p1 rfl rfl <| rF rfl rfl rfl <| rL rfl rfl .p0 rfl rfl <| ARun.qv (q_subw rfl rfl) rfl <| r_callp rfl (Q_sign_c rfl) (CoL.refl _) rfl <| rA rfl rfl <| rN <| ATodo.ret <| ?_
      obtain rfl := h
      exact ImpX.here ⟨_, .cons (.tmp _ _ rfl) .nil, rfl⟩
    · refine have h := iteF hc h; tK <| ATodo.blk <| tSR <| rF rfl rfl rfl <| rL rfl rfl .p1 rfl rfl <| rF rfl rfl rfl <| rL rfl rfl .p0 rfl rfl <| r_callp rfl (strings_Compare_c rfl) (CoL.refl _) rfl <| rA rfl rfl <| rN <| ATodo.ret <| ?_
      obtain rfl := h
      exact ImpX.here ⟨_, .cons (.tmp _ _ rfl) .nil, rfl⟩

set_option maxHeartbeats 4000000 in
theorem Q_Desk_Fetch_c [GI : GTab] {b_0 : Bk} {b_0x4 : Bk} {p0x0 : Fleetref2_Desk} {p1x0 : Int} {p2x0 : Int} {r : (List Letter) × Int × Fleetref2_Desk} (h : Q_Desk_Fetch p0x0 p1x0 p2x0 = some r) : ACall Tryz.prog 49 [.ptr b_0 0, I p1x0, I p2x0] [(b_0, .cells [I p0x0.P.Room, I p0x0.P.Timeout, I p0x0.P.Tries, I p0x0.P.Kept, .sl 9 b_0x4 0 p0x0.L.length, I p0x0.time_]), (b_0x4, .arr 9 (p0x0.L.map Note.av))] (T2 (fun c_0x4 d_0 => [(b_0, .cells [I r.2.2.P.Room, I r.2.2.P.Timeout, I r.2.2.P.Tries, I r.2.2.P.Kept, .sl 9 c_0x4 0 r.2.2.L.length, I r.2.2.time_]), (c_0x4, .arr 9 (r.2.2.L.map Note.av)), (d_0, .arr 6 (r.1.map Letter.av))]) (fun c_0x4 d_0 => .tup [.sl 6 d_0 0 r.1.length, I r.2.1])) := by
  unfold Q_Desk_Fetch at h
  refine ACall.lessH ?_
  refine ACall.bodyN Tryz.func49 rfl Tryz.ntmps49 Tryz.results49 rfl rfl ?_
  refine tSR <| rA rfl rfl <| rA rfl rfl <| rN <| tSR <| rM rfl rfl <| rM rfl rfl <| bndE h fun v1 e1 h => optE h (fun e2 h => ?_) (fun x2 e2 h => ?_)
  · refine have cM11 := TM_none e2 (Q_Desk_turn_c0x4x_c e1); t_call0 rfl cM11 (CoL.refl _) (.cons .p0 (.cons .p0 .nil)) rfl rfl <| rM rfl rfl <| rX rfl rfl rfl <| rX rfl rfl rfl <| rA rfl rfl <| rA rfl rfl <| rN <| tS <| tSR <| rM rfl rfl <| ARun.qv (q_neq rfl rfl) rfl <| rN <| ATodo.cond_d rfl (fun hc => ?_) (fun hc => ?_)
    · refine have h := iteT hc h; tSR <| rM rfl rfl <| rA rfl rfl <| rA rfl rfl <| rN <| ATodo.ret <| ?_
      obtain rfl := Option.some.inj h
      exact ImpX.arr (s := 6) 6 rfl fun b3 => ImpX.here ⟨_, .cons (.tmp _ _ rfl) (.cons (.tmp _ _ rfl) .nil), _, .cons .p1 (.cons .p1 (.cons .p0 .nil)), ⟨b_0x4, b3, rfl, rfl⟩⟩
    · refine have h := iteF hc h; tK <| tS <| tSR <| rM rfl rfl <| r_callp rfl (Q_in_c rfl) (CoL.refl _) rfl <| ARun.qv (q_not rfl) rfl <| rN <| ATodo.cond rfl (fun hc => ?_) (fun hc => ?_)
      · refine have h := iteT hc h; tSR <| rA rfl rfl <| rA rfl rfl <| rN <| ATodo.ret <| ?_
        obtain rfl := Option.some.inj h
        exact ImpX.arr (s := 6) 6 rfl fun b4 => ImpX.here ⟨_, .cons (.tmp _ _ rfl) (.cons (.tmp _ _ rfl) .nil), _, .cons .p1 (.cons .p1 (.cons .p0 .nil)), ⟨b_0x4, b4, rfl, rfl⟩⟩
      · refine have h := iteFb hc h; tK <| tSR <| rA rfl rfl <| rN <| tS <| tSR <| rM rfl rfl <| ?_
        cases h
  · refine have cM12 := TM_some e2 (Q_Desk_turn_c0x4x_c e1); t_call2 rfl cM12 (CoL.refl _) (.cons .p0 (.cons .p0 .nil)) (fun _ _ => rfl) rfl fun b5 b6 => rM rfl rfl <| rX rfl rfl rfl <| rX rfl rfl rfl <| rA rfl rfl <| rA rfl rfl <| rN <| tS <| tSR <| rM rfl rfl <| ARun.qv (q_neq rfl rfl) rfl <| rN <| ATodo.cond_d rfl (fun hc => ?_) (fun hc => ?_)
    · refine have h := iteT hc h; tSR <| rM rfl rfl <| rA rfl rfl <| rA rfl rfl <| rN <| ATodo.ret <| ?_
      obtain rfl := Option.some.inj h
      exact ImpX.arr (s := 6) 6 rfl fun b7 => ImpX.here ⟨_, .cons (.tmp _ _ rfl) (.cons (.tmp _ _ rfl) .nil), _, .cons .p1 (.cons .p1 (.cons .p0 .nil)), ⟨b_0x4, b7, rfl, rfl⟩⟩
    · refine have h := iteF hc h; tK <| tS <| tSR <| rM rfl rfl <| r_callp rfl (Q_in_c rfl) (CoL.refl _) rfl <| ARun.qv (q_not rfl) rfl <| rN <| ATodo.cond rfl (fun hc => ?_) (fun hc => ?_)
      · refine have h := iteT hc h; tSR <| rA rfl rfl <| rA rfl rfl <| rN <| ATodo.ret <| ?_
        obtain rfl := Option.some.inj h
        exact ImpX.arr (s := 6) 6 rfl fun b8 => ImpX.here ⟨_, .cons (.tmp _ _ rfl) (.cons (.tmp _ _ rfl) .nil), _, .cons .p1 (.cons .p1 (.cons .p0 .nil)), ⟨b_0x4, b8, rfl, rfl⟩⟩
      · refine have h := iteFb hc h; tK <| tSR <| rA rfl rfl <| rN <| tS <| tSR <| rM rfl rfl <| ARun.qv (q_nilCheck_ptr rfl) rfl <| rF rfl rfl rfl <| rL rfl rfl .p2 rfl rfl <| ARun.qv (t_len_sl rfl) rfl <| rM rfl rfl <| rN <| ATodo.block <| ATodo.loopI (fun x : (List Letter) × Int => Q_Desk_Fetch_b1 p1x0 p2x0 x2 x.1 x.2) (fun x σ' => ∃ (b12 : Bk), σ' = ⟨91, [(0, .ptr b_0 0), (1, I p1x0), (2, I p2x0), (8, .ptr b5 0), (10, .sl 6 b12 0 x.1.length), (31, .sl 9 b6 0 x2.L.length), (32, I (x2.L.length : Int)), (33, I x.2)], [(b_0, .cells [I p0x0.P.Room, I p0x0.P.Timeout, I p0x0.P.Tries, I p0x0.P.Kept, .sl 9 b_0x4 0 p0x0.L.length, I p0x0.time_]), (b_0x4, .arr 9 (p0x0.L.map Note.av)), (b5, .cells [I x2.P.Room, I x2.P.Timeout, I x2.P.Tries, I x2.P.Kept, .sl 9 b6 0 x2.L.length, I x2.time_]), (b6, .arr 9 (x2.L.map Note.av)), (b12, .arr 6 (x.1.map Letter.av))]⟩) h ?_ ?_
        · exact ImpX.arr (s := 10) 6 rfl fun b15 => ImpX.lq [1, 1, 1, 1, 0] ⟨b15, rfl⟩ rfl rfl
        · intro x z1 σ' J1 hmk h hJ1 hA1
          obtain ⟨l13, n14⟩ := x
          obtain ⟨b12, rfl⟩ := hmk
          replace h : Q_Desk_Fetch_b1 p1x0 p2x0 x2 l13 n14 = some z1 := h
          unfold Q_Desk_Fetch_b1 at h
          refine tSR <| ARun.qv (q_lss rfl rfl) rfl <| rN <| tS <| ATodo.cond_d rfl (fun hc => ?_) (fun hc => ?_)
          · refine have h := iteT hc h; tK <| tS <| ATodo.block <| tSR <| bndE h fun v16 e3 h => ARun.qv (t_index_sl rfl rfl rfl e3) rfl <| ARun.qv (t_load_aptr_agg (g := Note.av) rfl rfl (.inl .p3) rfl e3 rfl) rfl <| n_alloc rfl rfl rfl rfl fun b17 => n_store_ptr rfl rfl rfl rfl .p0 rfl rfl <| rN <| tSR <| rF rfl rfl rfl <| rL rfl rfl .p0 rfl rfl <| ARun.qv (q_eql rfl rfl) rfl <| rN <| ATodo.cut (fun σ' => ∃ (b18 : Bk) (l19 : List Letter), Q_Desk_Fetch_j1 n14 l19 = some z1 ∧ σ' = ⟨91, [(0, .ptr b_0 0), (1, I p1x0), (2, I p2x0), (8, .ptr b5 0), (10, .sl 6 b18 0 l19.length), (31, .sl 9 b6 0 x2.L.length), (32, I (x2.L.length : Int)), (33, I n14)], [(b_0, .cells [I p0x0.P.Room, I p0x0.P.Timeout, I p0x0.P.Tries, I p0x0.P.Kept, .sl 9 b_0x4 0 p0x0.L.length, I p0x0.time_]), (b_0x4, .arr 9 (p0x0.L.map Note.av)), (b5, .cells [I x2.P.Room, I x2.P.Timeout, I x2.P.Tries, I x2.P.Kept, .sl 9 b6 0 x2.L.length, I x2.time_]), (b6, .arr 9 (x2.L.map Note.av)), (b18, .arr 6 (l19.map Letter.av))]⟩) ?_ ?_
            · refine ATodo.cond_d rfl (fun hc => ?_) (fun hc => ?_)
              · exact have h := iteT hc h; tR <| rM rfl rfl <| rF rfl rfl rfl <| ARun.qv (n_load_ptr_part rfl rfl .p0 rfl rfl) rfl <| n_buildSliceL (xs := ([v16.Letter] : List Letter).map Letter.av) rfl rfl rfl rfl rfl rfl <| bndE h fun l20 e4 h => t_append (g := Letter.av) rfl rfl rfl rfl rfl rfl rfl rfl (.list _) e4 (fun _ => .p5) rfl fun b21 => rA rfl rfl <| rN <| ATodo.stop <| ImpX.lq [1, 1, 1, 1, 1] ⟨b21, l20, h, rfl⟩ rfl rfl
              · exact have h := iteF hc h; tK <| ATodo.stop <| ImpX.lq [1, 1, 1, 1, 1] ⟨b12, l13, h, rfl⟩ rfl rfl
            · rintro σ' ⟨b18, l19, h, rfl⟩
              unfold Q_Desk_Fetch_j1 at h
              refine ATodo.blk <| tR <| ARun.qv (q_addw rfl rfl) rfl <| rM rfl rfl <| rN <| ATodo.stop <| ?_
              obtain rfl := Option.some.inj h
              exact hJ1 _ _ rfl <| ImpX.lq [0, 0, 0, 0, 0] ⟨b18, rfl⟩ rfl rfl
          · refine have h := iteF hc h; ATodo.exit rfl <| have h := outL h hA1; ?_
            unfold Q_Desk_Fetch_k2 at h
            refine tSR <| rM rfl rfl <| bndE h fun v22 e5 h => t_call0 rfl (slices_SortFunc_Letter_Letter_c (fun e => Q_LetterOrder_c (GI := strongT) (Option.some.inj e)) (lenOk_f e5)) (CoL.refl _) (.cons .p4 .nil) rfl rfl <| ARun.ghost <| ImpX.eqs (s := 10) (av' := .sl 6 b12 0 v22.length) rfl (congrArg (AV.sl 6 b12 0) (lenOk_l e5)) <| ImpX.here <| ARun.ghost <| ImpX.eqs (s := 46) (av' := .sl 6 b12 0 v22.length) rfl (congrArg (AV.sl 6 b12 0) (lenOk_l e5)) <| ImpX.here <| rN <| tSR <| rM rfl rfl <| rM rfl rfl <| rM rfl rfl <| ARun.qv (t_len_sl rfl) rfl <| ARun.qv (q_min rfl rfl) rfl <| bndE h fun l23 e6 h => ARun.qv (t_slice_sl rfl rfl .none (.some _ _ _ rfl) rfl rfl e6) rfl <| rA rfl rfl <| ARun.ghost <| ImpX.takeT e6 .p0 <| ImpX.here <| rN <| tS <| tSR <| rM rfl rfl <| ARun.qv (t_len_sl rfl) rfl <| rM rfl rfl <| rN <| ATodo.block <| ATodo.loopI (fun x : (List Note) × Int => Q_Desk_Fetch_b2 p1x0 x2 l23 x.1 x.2) (fun x σ' => σ' = ⟨91, [(0, .ptr b_0 0), (1, I p1x0), (8, .ptr b5 0), (10, .sl 6 b12 0 l23.length), (54, .sl 6 b12 0 l23.length), (55, I (l23.length : Int)), (56, I x.2)], [(b_0, .cells [I p0x0.P.Room, I p0x0.P.Timeout, I p0x0.P.Tries, I p0x0.P.Kept, .sl 9 b_0x4 0 p0x0.L.length, I p0x0.time_]), (b_0x4, .arr 9 (p0x0.L.map Note.av)), (b5, .cells [I x2.P.Room, I x2.P.Timeout, I x2.P.Tries, I x2.P.Kept, .sl 9 b6 0 x.1.length, I x2.time_]), (b6, .arr 9 (x.1.map Note.av)), (b12, .arr 6 (l23.map Letter.av))]⟩) h ?_ ?_
            · exact ImpX.lq [1, 1, 1, 1, 0] rfl rfl rfl
            · intro x z2 σ' J2 hmk h hJ2 hA2
              obtain ⟨l26, n27⟩ := x
              obtain rfl := hmk
              replace h : Q_Desk_Fetch_b2 p1x0 x2 l23 l26 n27 = some z2 := h
              unfold Q_Desk_Fetch_b2 at h
              refine tSR <| ARun.qv (q_lss rfl rfl) rfl <| rN <| tS <| ATodo.cond_d rfl (fun hc => ?_) (fun hc => ?_)
              · refine have h := iteT hc h; tK <| tS <| ATodo.block <| tSR <| bndE h fun v28 e7 h => ARun.qv (t_index_sl rfl rfl rfl e7) rfl <| ARun.qv (t_load_aptr_agg (g := Letter.av) rfl rfl (.inl .p4) rfl e7 rfl) rfl <| n_alloc rfl rfl rfl rfl fun b29 => n_store_ptr rfl rfl rfl rfl .p0 rfl rfl <| rN <| tS <| ATodo.regionM (id := 18) (A := [0, 1, 3, 7, 0, 0, 32, 112, 255, 511]) 10 mixed rfl (by kernel_rfl) (by kernel_rfl) <| AM.qv (q_move rfl) rfl <| AM.qv (q_nilCheck_ptr rfl) rfl <| AM.qv (n_field_ptr rfl rfl) rfl <| AM.qv (q_load_ptr rfl rfl .p3 rfl) rfl <| AM.qv (q_move rfl) rfl <| AM.qv (n_field_ptr rfl rfl) rfl <| AM.qv (q_load_ptr rfl rfl .p0 rfl) rfl <| bndE h fun v30 e8 h => AM.callpB rfl (Q_Desk_at_c e8) (.cons (.boxL _ _ _ .p3 (.cons (.co (.refl _)) (.cons (.co (.refl _)) (.cons (.co (.refl _)) (.cons (.co (.refl _)) (.cons (CoB.arrT .p4) (.cons (.co (.refl _)) .nil))))))) (.cons (.co (.refl _)) .nil)) rfl rfl <| bndE h fun v31 e9 h => AM.qv (t_index_sl rfl rfl rfl e9) rfl <| AM.qv (q_assign rfl) rfl <| AM.nil <| rN <| tR <| rM rfl rfl <| rM rfl rfl <| rM rfl rfl <| rM rfl rfl <| rM rfl rfl <| ARun.qv (q_nilCheck_aptr rfl) rfl <| ARun.qv (t_field_aptr rfl rfl) rfl <| ARun.qv (t_load_aptr (g := Note.av) rfl rfl (.inl .p4) e9 rfl) rfl <| ARun.qv (q_addw rfl rfl) rfl <| ARun.qv (q_nilCheck_aptr rfl) rfl <| ARun.qv (t_field_aptr rfl rfl) rfl <| t_store_aptr1 (g := Note.av) (el' := (⟨v31.Letter, (2 : Int), v31.Tries, v31.Since⟩ : Note)) rfl rfl rfl rfl e9 rfl .p4 rfl <| ARun.ghost <| ImpX.eqs (s := 63) (av' := .sl 9 b6 0 (l26.set v30.toNat (⟨v31.Letter, (2 : Int), v31.Tries, v31.Since⟩ : Note)).length) rfl (by rw [List.length_set]) <| ImpX.here <| ARun.ghost <| ImpX.eqBox (j := 4) (av' := .sl 9 b6 0 (l26.set v30.toNat (⟨v31.Letter, (2 : Int), v31.Tries, v31.Since⟩ : Note)).length) .p3 rfl (by rw [List.length_set]) rfl <| ImpX.here <| ARun.qv (q_nilCheck_aptr rfl) rfl <| ARun.qv (t_field_aptr rfl rfl) rfl <| t_store_aptr1 (g := Note.av) (el' := (⟨v31.Letter, (2 : Int), v31.Tries, p1x0⟩ : Note)) rfl rfl rfl rfl (idx_set_self (v := (⟨v31.Letter, (2 : Int), v31.Tries, v31.Since⟩ : Note)) e9) rfl .p4 rfl <| ARun.ghost <| ImpX.eqs (s := 63) (av' := .sl 9 b6 0 ((l26.set v30.toNat (⟨v31.Letter, (2 : Int), v31.Tries, v31.Since⟩ : Note)).set v30.toNat (⟨v31.Letter, (2 : Int), v31.Tries, p1x0⟩ : Note)).length) rfl (by rw [List.length_set]) <| ImpX.here <| ARun.ghost <| ImpX.eqBox (j := 4) (av' := .sl 9 b6 0 ((l26.set v30.toNat (⟨v31.Letter, (2 : Int), v31.Tries, v31.Since⟩ : Note)).set v30.toNat (⟨v31.Letter, (2 : Int), v31.Tries, p1x0⟩ : Note)).length) .p3 rfl (by rw [List.length_set]) rfl <| ImpX.here <| ARun.qv (q_nilCheck_aptr rfl) rfl <| ARun.qv (t_field_aptr rfl rfl) rfl <| t_store_aptr1 (g := Note.av) (el' := (⟨v31.Letter, (2 : Int), w64 (v31.Tries + (1 : Int)), p1x0⟩ : Note)) rfl rfl rfl rfl (idx_set_self (v := (⟨v31.Letter, (2 : Int), v31.Tries, p1x0⟩ : Note)) (idx_set_self (v := (⟨v31.Letter, (2 : Int), v31.Tries, v31.Since⟩ : Note)) e9)) rfl .p4 rfl <| ARun.ghost <| ImpX.eqs (s := 63) (av' := .sl 9 b6 0 (((l26.set v30.toNat (⟨v31.Letter, (2 : Int), v31.Tries, v31.Since⟩ : Note)).set v30.toNat (⟨v31.Letter, (2 : Int), v31.Tries, p1x0⟩ : Note)).set v30.toNat (⟨v31.Letter, (2 : Int), w64 (v31.Tries + (1 : Int)), p1x0⟩ : Note)).length) rfl (by rw [List.length_set]) <| ImpX.here <| ARun.ghost <| ImpX.eqBox (j := 4) (av' := .sl 9 b6 0 (((l26.set v30.toNat (⟨v31.Letter, (2 : Int), v31.Tries, v31.Since⟩ : Note)).set v30.toNat (⟨v31.Letter, (2 : Int), v31.Tries, p1x0⟩ : Note)).set v30.toNat (⟨v31.Letter, (2 : Int), w64 (v31.Tries + (1 : Int)), p1x0⟩ : Note)).length) .p3 rfl (by rw [List.length_set]) rfl <| ImpX.here <| rN <| ATodo.blk <| tR <| ARun.qv (q_addw rfl rfl) rfl <| rM rfl rfl <| rN <| ATodo.stop <| ?_
                obtain rfl := Option.some.inj h
                exact hJ2 _ _ rfl <| ImpX.lq [1, 1, 1, 1, 1] rfl rfl rfl
              · refine have h := iteF hc h; ATodo.exit rfl <| have h := outL h hA2; tSR <| rM rfl rfl <| rM rfl rfl <| ARun.qv (q_nilCheck_ptr rfl) rfl <| ARun.qv (q_load_ptr_all rfl rfl .p2 rfl) rfl <| ARun.qv (q_nilCheck_ptr rfl) rfl <| n_store_ptr rfl rfl rfl rfl .p0 rfl rfl <| rN <| tSR <| rM rfl rfl <| rA rfl rfl <| rA rfl rfl <| rN <| ATodo.ret <| ?_
                obtain rfl := Option.some.inj h
                exact ImpX.here ⟨_, .cons (.tmp _ _ rfl) (.cons (.tmp _ _ rfl) .nil), _, .cons .p0 (.cons .p2 (.cons .p2 .nil)), ⟨b6, b12, rfl, rfl⟩⟩

end Go.Proofs.YtibjdfdmkahocaaGreatDoor
