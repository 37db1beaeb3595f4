/- The code computes the plain functions: proofs written by shal.py. -/
import Derived.Test.YtnahbimoaekobaaGreatDoorSidP
import Derived.Test.YtnahbimoaekobaaGreatDoorLib
set_option maxRecDepth 100000
set_option linter.unusedVariables false
set_option linter.unusedSimpArgs false
namespace Go.Proofs.YtnahbimoaekobaaGreatDoor
open Go Go.Eng Go.Proofs Go.Beacon
attribute [local irreducible] ARun ATodo AQ QV ACall ImpX AWp AM
instance eqg41 : EqGd Tryz.prog 41 := ⟨by kernel_rfl⟩
instance eqt41 : EqTy Tryz.prog 41 2 ValueS.av := ⟨fun x y w S v u hv hu => by
  obtain ⟨vs, rfl, hl, ha⟩ := At.agg_inv hv
  obtain ⟨us, rfl, hl', ha'⟩ := At.agg_inv hu
  obtain ⟨v0, p0, q0⟩ := AtA.get hl ha (off := 0) rfl
  obtain ⟨u0, p0', q0'⟩ := AtA.get hl' ha' (off := 0) rfl
  obtain ⟨v1, p1, q1⟩ := AtA.get hl ha (off := 1) rfl
  obtain ⟨u1, p1', q1'⟩ := AtA.get hl' ha' (off := 1) rfl
  obtain ⟨v2, p2, q2⟩ := AtA.get hl ha (off := 2) rfl
  obtain ⟨u2, p2', q2'⟩ := AtA.get hl' ha' (off := 2) rfl
  obtain ⟨v3, p3, q3⟩ := AtA.get hl ha (off := 3) rfl
  obtain ⟨u3, p3', q3'⟩ := AtA.get hl' ha' (off := 3) rfl
  refine EqR.cast (EqR.struct Tryz.underlying41 (by kernel_rfl) (.cons (by decide) (part_one rfl p0) (part_one rfl p0') (EqR.up (EqTy.h (g := I) x.Kind y.Kind w S _ _ q0 q0') 0)  (.cons (by decide) (part_one rfl p1) (part_one rfl p1') (EqR.up (EqTy.h (g := AV.bool) x.Flag y.Flag w S _ _ q1 q1') 0)  (.cons (by decide) (part_one rfl p2) (part_one rfl p2') (EqR.up (EqTy.h (g := I) x.Number y.Number w S _ _ q2 q2') 0)  (.cons (by decide) (part_one rfl p3) (part_one rfl p3') (EqR.up (EqTy.h (g := AV.str) x.Words y.Words w S _ _ q3 q3') 0) .nil))))) ?_
  obtain ⟨_, _, _, _⟩ := x
  obtain ⟨_, _, _, _⟩ := y
  rw [Bool.eq_iff_iff]; simp [and_assoc]⟩
instance eqg43 : EqGd Tryz.prog 43 := ⟨by kernel_rfl⟩
instance eqt43 : EqTy Tryz.prog 43 3 PropS.av := ⟨fun x y w S v u hv hu => by
  obtain ⟨vs, rfl, hl, ha⟩ := At.agg_inv hv
  obtain ⟨us, rfl, hl', ha'⟩ := At.agg_inv hu
  obtain ⟨v0, p0, q0⟩ := AtA.get hl ha (off := 0) rfl
  obtain ⟨u0, p0', q0'⟩ := AtA.get hl' ha' (off := 0) rfl
  refine EqR.cast (EqR.struct Tryz.underlying43 (by kernel_rfl) (.cons (by decide) (part_one rfl p0) (part_one rfl p0') (EqR.up (EqTy.h (g := AV.str) x.Name y.Name w S _ _ q0 q0') 1)  (.cons (by decide) (part_agg rfl rfl) (part_agg rfl rfl) (EqR.up (EqTy.h (g := ValueS.av) x.Value y.Value w S _ _ (AtA.sub hl ha 1 4 (Nat.le_of_ble_eq_true rfl)) (AtA.sub hl' ha' 1 4 (Nat.le_of_ble_eq_true rfl))) 0) .nil))) ?_
  obtain ⟨_, _⟩ := x
  obtain ⟨_, _⟩ := y
  rw [Bool.eq_iff_iff]; simp [and_assoc]⟩
instance eqg46 : EqGd Tryz.prog 46 := ⟨by kernel_rfl⟩
instance eqt46 : EqTy Tryz.prog 46 3 Clash.av := ⟨fun x y w S v u hv hu => by
  obtain ⟨vs, rfl, hl, ha⟩ := At.agg_inv hv
  obtain ⟨us, rfl, hl', ha'⟩ := At.agg_inv hu
  obtain ⟨v0, p0, q0⟩ := AtA.get hl ha (off := 0) rfl
  obtain ⟨u0, p0', q0'⟩ := AtA.get hl' ha' (off := 0) rfl
  refine EqR.cast (EqR.struct Tryz.underlying46 (by kernel_rfl) (.cons (by decide) (part_one rfl p0) (part_one rfl p0') (EqR.up (EqTy.h (g := AV.str) x.Name y.Name w S _ _ q0 q0') 1)  (.cons (by decide) (part_agg rfl rfl) (part_agg rfl rfl) (EqR.up (EqTy.h (g := ValueS.av) x.Base y.Base w S _ _ (AtA.sub hl ha 1 4 (Nat.le_of_ble_eq_true rfl)) (AtA.sub hl' ha' 1 4 (Nat.le_of_ble_eq_true rfl))) 0)  (.cons (by decide) (part_agg rfl rfl) (part_agg rfl rfl) (EqR.up (EqTy.h (g := ValueS.av) x.A y.A w S _ _ (AtA.sub hl ha 5 4 (Nat.le_of_ble_eq_true rfl)) (AtA.sub hl' ha' 5 4 (Nat.le_of_ble_eq_true rfl))) 0)  (.cons (by decide) (part_agg rfl rfl) (part_agg rfl rfl) (EqR.up (EqTy.h (g := ValueS.av) x.B y.B w S _ _ (AtA.sub hl ha 9 4 (Nat.le_of_ble_eq_true rfl)) (AtA.sub hl' ha' 9 4 (Nat.le_of_ble_eq_true rfl))) 0) .nil))))) ?_
  obtain ⟨_, _, _, _⟩ := x
  obtain ⟨_, _, _, _⟩ := y
  rw [Bool.eq_iff_iff]; simp [and_assoc]⟩
set_option maxHeartbeats 4000000 in
theorem Below_c [GI : GTab] {p0x0 : Int} {p1x0 : Int} {r : Int} (h : Below p0x0 p1x0 = some r) : Pu Tryz.prog 94 [I p0x0, I p1x0] (I r) := by
  unfold Below at h
  refine ACall.bodyN Tryz.func94 rfl Tryz.ntmps94 Tryz.results94 rfl rfl ?_
  refine tSR <| rA rfl rfl <| rN <| tS <| tSR <| rM rfl rfl <| ARun.qv (q_lss rfl rfl) rfl <| rN <| ATodo.cond_d rfl (fun hc => ?_) (fun hc => ?_)
  · refine have h := iteT hc h; tSR <| rA rfl rfl <| rN <| ATodo.ret <| ?_
    obtain rfl := Option.some.inj h
    exact ImpX.here ⟨_, .cons (.tmp _ _ rfl) .nil, rfl⟩
  · refine have h := iteF hc h; tK <| tSR <| rM rfl rfl <| rM rfl rfl <| bndE h fun n1 e1 h => ARun.qv (t_remS rfl rfl e1) rfl <| rA rfl rfl <| rN <| tS <| tSR <| rM rfl rfl <| ARun.qv (q_lss rfl rfl) rfl <| rN <| ATodo.cut (fun σ' => ∃ (n2 : Int), Below_j1 n2 = some r ∧ σ' = ⟨16, [(0, I n2)], []⟩) ?_ ?_
    · refine ATodo.cond_d rfl (fun hc => ?_) (fun hc => ?_)
      · exact have h := iteT hc h; tR <| rM rfl rfl <| rM rfl rfl <| ARun.qv (q_addw rfl rfl) rfl <| rA rfl rfl <| rN <| ATodo.stop <| ImpX.lq [] ⟨w64 (n1 + p1x0), h, rfl⟩ rfl rfl
      · exact have h := iteF hc h; tK <| ATodo.stop <| ImpX.lq [] ⟨n1, h, rfl⟩ rfl rfl
    · rintro σ' ⟨n2, h, rfl⟩
      unfold Below_j1 at h
      refine tSR <| rM rfl rfl <| rA rfl rfl <| rN <| ATodo.ret <| ?_
      obtain rfl := Option.some.inj h
      exact ImpX.here ⟨_, .cons (.tmp _ _ rfl) .nil, rfl⟩

set_option maxHeartbeats 4000000 in
theorem Stream_Next_c [GI : GTab] {b_0 : Bk} {p0x0 : Fleetmake_Stream} {p1x0 : Int} {r : Int × Fleetmake_Stream} (h : Stream_Next p0x0 p1x0 = some r) : ACall Tryz.prog 47 [.ptr b_0 0, I p1x0] [(b_0, .cells [.list 1 (p0x0.L.map I), I p0x0.at_])] (T0 ([(b_0, .cells [.list 1 (r.2.L.map I), I r.2.at_])]) (I r.1)) := by
  unfold Stream_Next at h
  refine ACall.lessH ?_
  refine ACall.bodyN Tryz.func47 rfl Tryz.ntmps47 Tryz.results47 rfl rfl ?_
  refine tSR <| rA rfl rfl <| rN <| tSR <| rM rfl rfl <| ARun.qv (q_nilCheck_ptr rfl) rfl <| rF rfl rfl rfl <| rL rfl rfl .p0 rfl rfl <| ARun.qv (q_addw rfl rfl) rfl <| ARun.qv (q_nilCheck_ptr rfl) rfl <| rF rfl rfl rfl <| n_store_ptr rfl rfl rfl rfl .p0 rfl rfl <| rN <| tS <| tSR <| rM rfl rfl <| ARun.qv (q_nilCheck_ptr rfl) rfl <| rF rfl rfl rfl <| rL rfl rfl .p0 rfl rfl <| ARun.qv (t_len rfl) rfl <| ARun.qv (q_eql rfl rfl) rfl <| rN <| ATodo.cond_d rfl (fun hc => ?_) (fun hc => ?_)
  · refine have h := iteT hc h; tSR <| rM rfl rfl <| ARun.qv (q_nilCheck_ptr rfl) rfl <| rF rfl rfl rfl <| rL rfl rfl .p0 rfl rfl <| ARun.qv (q_mulw rfl rfl) rfl <| rM rfl rfl <| bndE h fun v1 e1 h => r_callp rfl (Below_c e1) (CoL.refl _) rfl <| rA rfl rfl <| rN <| ATodo.ret <| ?_
    obtain rfl := Option.some.inj h
    exact ImpX.here ⟨_, .cons (.tmp _ _ rfl) .nil, _, .cons .p0 .nil, ⟨rfl, rfl⟩⟩
  · refine have h := iteF hc h; tK <| tS <| ATodo.regionM (id := 4) (A := [0, 1, 3, 7, 15, 0, 32, 96, 224, 480, 1023, 2047]) 12 mixed rfl (by kernel_rfl) (by kernel_rfl) <| AM.qv (q_move rfl) rfl <| AM.qv (q_nilCheck_ptr rfl) rfl <| AM.qv (n_field_ptr rfl rfl) rfl <| AM.qv (q_load_ptr rfl rfl .p0 rfl) rfl <| AM.qv (q_subw rfl rfl) rfl <| AM.qv (q_move rfl) rfl <| AM.qv (q_nilCheck_ptr rfl) rfl <| AM.qv (n_field_ptr rfl rfl) rfl <| AM.qv (q_load_ptr rfl rfl .p0 rfl) rfl <| AM.qv (t_len rfl) rfl <| bndE h fun n2 e2 h => AM.qv (t_remS rfl rfl e2) rfl <| AM.qv (q_assign rfl) rfl <| AM.nil <| rN <| tS <| ATodo.regionM (id := 5) (A := [0, 1, 3, 7, 15, 0, 32, 96, 224, 480, 1023, 2047]) 12 mixed rfl (by kernel_rfl) (by kernel_rfl) <| AM.qv (q_move rfl) rfl <| AM.qv (q_nilCheck_ptr rfl) rfl <| AM.qv (n_field_ptr rfl rfl) rfl <| AM.qv (q_load_ptr rfl rfl .p0 rfl) rfl <| AM.qv (q_subw rfl rfl) rfl <| AM.qv (q_move rfl) rfl <| AM.qv (q_nilCheck_ptr rfl) rfl <| AM.qv (n_field_ptr rfl rfl) rfl <| AM.qv (q_load_ptr rfl rfl .p0 rfl) rfl <| AM.qv (t_len rfl) rfl <| bndE h fun n3 e3 h => AM.qv (t_quoS rfl rfl e3) rfl <| AM.qv (q_assign rfl) rfl <| AM.nil <| rN <| tSR <| rM rfl rfl <| ARun.qv (q_nilCheck_ptr rfl) rfl <| rF rfl rfl rfl <| rL rfl rfl .p0 rfl rfl <| rM rfl rfl <| bndE h fun v4 e4 h => ARun.qv (t_index rfl rfl rfl e4 rfl rfl) rfl <| ARun.qv (q_load_rptr rfl rfl rfl) rfl <| bndE h fun v5 e5 h => r_callp rfl (Below_c e5) (CoL.refl _) rfl <| rM rfl rfl <| rM rfl rfl <| ARun.qv (q_addw rfl rfl) rfl <| ARun.qv (q_mulw rfl rfl) rfl <| ARun.qv (q_addw rfl rfl) rfl <| rM rfl rfl <| bndE h fun v6 e6 h => r_callp rfl (Below_c e6) (CoL.refl _) rfl <| rA rfl rfl <| rN <| ATodo.ret <| ?_
    obtain rfl := Option.some.inj h
    exact ImpX.here ⟨_, .cons (.tmp _ _ rfl) .nil, _, .cons .p0 .nil, ⟨rfl, rfl⟩⟩

set_option maxHeartbeats 4000000 in
theorem Stream_Range_c [GI : GTab] {b_0 : Bk} {p0x0 : Fleetmake_Stream} {p1x0 : Int} {p2x0 : Int} {r : Int × Fleetmake_Stream} (h : Stream_Range p0x0 p1x0 p2x0 = some r) : ACall Tryz.prog 88 [.ptr b_0 0, I p1x0, I p2x0] [(b_0, .cells [.list 1 (p0x0.L.map I), I p0x0.at_])] (T0 ([(b_0, .cells [.list 1 (r.2.L.map I), I r.2.at_])]) (I r.1)) := by
  unfold Stream_Range at h
  refine ACall.lessH ?_
  refine ACall.bodyN Tryz.func88 rfl Tryz.ntmps88 Tryz.results88 rfl rfl ?_
  refine tSR <| rA rfl rfl <| rN <| tS <| tSR <| rM rfl rfl <| rM rfl rfl <| ARun.qv (q_lss rfl rfl) rfl <| rN <| ATodo.cond_d rfl (fun hc => ?_) (fun hc => ?_)
  · refine have h := iteT hc h; tSR <| rM rfl rfl <| rA rfl rfl <| rN <| ATodo.ret <| ?_
    obtain rfl := Option.some.inj h
    exact ImpX.here ⟨_, .cons (.tmp _ _ rfl) .nil, _, .cons .p0 .nil, ⟨rfl, rfl⟩⟩
  · refine have h := iteF hc h; tK <| tSR <| rM rfl rfl <| rM rfl rfl <| rM rfl rfl <| rM rfl rfl <| ARun.qv (q_subw rfl rfl) rfl <| ARun.qv (q_addw rfl rfl) rfl <| bndE h fun v1 e1 h => t_call0 rfl (Stream_Next_c e1) (CoL.refl _) (.cons .p0 .nil) rfl rfl <| ARun.qv (q_addw rfl rfl) rfl <| rA rfl rfl <| rN <| ATodo.ret <| ?_
    obtain rfl := Option.some.inj h
    exact ImpX.here ⟨_, .cons (.tmp _ _ rfl) .nil, _, .cons .p0 .nil, ⟨rfl, rfl⟩⟩

set_option maxHeartbeats 4000000 in
theorem slices_Clone_Prop_Prop_c [GI : GTab] {p0x0 : List PropS} {r : (List PropS)} (h : slices_Clone_Prop_Prop p0x0 = some r) : ACall Tryz.prog 69 [.list 5 (p0x0.map PropS.av)] [] (T1 (fun d_0 => [(d_0, .arr 5 (r.map PropS.av))]) (fun d_0 => .sl 5 d_0 0 r.length)) := by
  unfold slices_Clone_Prop_Prop at h
  refine ACall.lessH ?_
  refine ACall.bodyN Tryz.func69 rfl Tryz.ntmps69 Tryz.results69 rfl rfl ?_
  refine ATodo.seq ?_
  refine ATodo.region ?_
  refine ARun.qv (q_assign rfl) rfl ?_
  refine ARun.nil ?_
  refine ATodo.seq ?_
  refine ATodo.seq ?_
  refine ATodo.region ?_
  refine ARun.qv (q_move rfl) rfl ?_
  refine r_eqnil rfl rfl rfl rfl (fun c hc => ?_)
  refine ARun.nil ?_
  refine ATodo.cond rfl (fun hT => ?_) (fun hF => ?_)
  · obtain rfl := app_nil_some h (List.map_eq_nil_iff.1 (hc hT))
    refine ATodo.seq ?_
    refine ATodo.region ?_
    refine ARun.qv (q_assign rfl) rfl ?_
    refine ARun.nil ?_
    refine ATodo.ret ?_
    refine ImpX.arr (s := 2) 5 rfl (fun b1 => ?_)
    exact ImpX.here ⟨_, .cons (.tmp _ _ rfl) .nil, _, .cons .here .nil, ⟨b1, rfl, rfl⟩⟩
  · refine ATodo.skip ?_
    refine ATodo.seq ?_
    refine ATodo.region ?_
    refine n_buildSlice (xs := ([] : List PropS).map PropS.av) rfl rfl rfl rfl rfl rfl (fun b2 => ?_)
    refine ARun.qv (q_move rfl) rfl ?_
    refine t_append (g := PropS.av) (Xs := []) rfl rfl rfl rfl rfl rfl rfl rfl (.list _) h (fun _ => .here) rfl (fun b3 => ?_)
    refine ARun.qv (q_assign rfl) rfl ?_
    refine ARun.nil ?_
    refine ATodo.ret ?_
    exact ImpX.here ⟨_, .cons (.tmp _ _ rfl) .nil, _, .cons .here .nil, ⟨b3, rfl, rfl⟩⟩

set_option maxHeartbeats 4000000 in
theorem Stream_Some_c [GI : GTab] {b_0 : Bk} {p0x0 : Fleetmake_Stream} {p1x0 : List Str} {r : Str × Fleetmake_Stream} (h : Stream_Some p0x0 p1x0 = some r) : ACall Tryz.prog 56 [.ptr b_0 0, .list 1 (p1x0.map AV.str)] [(b_0, .cells [.list 1 (p0x0.L.map I), I p0x0.at_])] (T0 ([(b_0, .cells [.list 1 (r.2.L.map I), I r.2.at_])]) (.str r.1)) := by
  unfold Stream_Some at h
  refine ACall.lessH ?_
  refine ACall.bodyN Tryz.func56 rfl Tryz.ntmps56 Tryz.results56 rfl rfl ?_
  refine tSR <| rA rfl rfl <| rN <| tSR <| rM rfl rfl <| rM rfl rfl <| rM rfl rfl <| ARun.qv (t_len rfl) rfl <| bndE h fun v1 e1 h => t_call0 rfl (Stream_Next_c e1) (CoL.refl _) (.cons .p0 .nil) rfl rfl <| bndE h fun v2 e2 h => ARun.qv (t_index rfl rfl rfl e2 rfl rfl) rfl <| ARun.qv (q_load_rptr rfl rfl rfl) rfl <| rA rfl rfl <| rN <| ATodo.ret <| ?_
  obtain rfl := Option.some.inj h
  exact ImpX.here ⟨_, .cons (.tmp _ _ rfl) .nil, _, .cons .p0 .nil, ⟨rfl, rfl⟩⟩

set_option maxHeartbeats 4000000 in
theorem Stream_Flip_c [GI : GTab] {b_0 : Bk} {p0x0 : Fleetmake_Stream} {p1x0 : Int} {r : Bool × Fleetmake_Stream} (h : Stream_Flip p0x0 p1x0 = some r) : ACall Tryz.prog 11 [.ptr b_0 0, I p1x0] [(b_0, .cells [.list 1 (p0x0.L.map I), I p0x0.at_])] (T0 ([(b_0, .cells [.list 1 (r.2.L.map I), I r.2.at_])]) (.bool r.1)) := by
  unfold Stream_Flip at h
  refine ACall.lessH ?_
  refine ACall.bodyN Tryz.func11 rfl Tryz.ntmps11 Tryz.results11 rfl rfl ?_
  refine tSR <| rA rfl rfl <| rN <| tSR <| rM rfl rfl <| rM rfl rfl <| bndE h fun v1 e1 h => t_call0 rfl (Stream_Next_c e1) (CoL.refl _) (.cons .p0 .nil) rfl rfl <| ARun.qv (q_eql rfl rfl) rfl <| rA rfl rfl <| rN <| ATodo.ret <| ?_
  obtain rfl := Option.some.inj h
  exact ImpX.here ⟨_, .cons (.tmp _ _ rfl) .nil, _, .cons .p0 .nil, ⟨rfl, rfl⟩⟩

set_option maxHeartbeats 4000000 in
theorem Stream_Pick_c [GI : GTab] {b_0 : Bk} {p0x0 : Fleetmake_Stream} {p1x0 : List Int} {r : Int × Fleetmake_Stream} (h : Stream_Pick p0x0 p1x0 = some r) : ACall Tryz.prog 35 [.ptr b_0 0, .list 1 (p1x0.map I)] [(b_0, .cells [.list 1 (p0x0.L.map I), I p0x0.at_])] (T0 ([(b_0, .cells [.list 1 (r.2.L.map I), I r.2.at_])]) (I r.1)) := by
  unfold Stream_Pick at h
  refine ACall.lessH ?_
  refine ACall.bodyN Tryz.func35 rfl Tryz.ntmps35 Tryz.results35 rfl rfl ?_
  refine tSR <| rA rfl rfl <| rN <| tSR <| rM rfl rfl <| rM rfl rfl <| rM rfl rfl <| ARun.qv (t_len rfl) rfl <| bndE h fun v1 e1 h => t_call0 rfl (Stream_Next_c e1) (CoL.refl _) (.cons .p0 .nil) rfl rfl <| bndE h fun v2 e2 h => ARun.qv (t_index rfl rfl rfl e2 rfl rfl) rfl <| ARun.qv (q_load_rptr rfl rfl rfl) rfl <| rA rfl rfl <| rN <| ATodo.ret <| ?_
  obtain rfl := Option.some.inj h
  exact ImpX.here ⟨_, .cons (.tmp _ _ rfl) .nil, _, .cons .p0 .nil, ⟨rfl, rfl⟩⟩

set_option maxHeartbeats 4000000 in
theorem Stream_RightValue_c [GI : GTab] {b_0 : Bk} {p0x0 : Fleetmake_Stream} {r : ValueS × Fleetmake_Stream} (h : Stream_RightValue p0x0 = some r) : ACall Tryz.prog 89 [.ptr b_0 0] [(b_0, .cells [.list 1 (p0x0.L.map I), I p0x0.at_])] (T0 ([(b_0, .cells [.list 1 (r.2.L.map I), I r.2.at_])]) (.agg [I r.1.Kind, .bool r.1.Flag, I r.1.Number, .str r.1.Words])) := by
  unfold Stream_RightValue at h
  refine ACall.lessH ?_
  refine ACall.bodyN Tryz.func89 rfl Tryz.ntmps89 Tryz.results89 rfl rfl ?_
  refine tSR <| n_alloc rfl rfl rfl rfl fun b1 => rN <| tS <| tSR <| rM rfl rfl <| bndE h fun v2 e1 h => t_call0 rfl (Stream_Next_c e1) (CoL.refl _) (.cons .p1 .nil) rfl rfl <| rN <| ATodo.block <| tSR <| ARun.qv (q_eql rfl rfl) rfl <| rA rfl rfl <| rN <| ATodo.cond_d rfl (fun hc => ?_) (fun hc => ?_)
  · refine have h := iteT hc h; tSR <| rM rfl rfl <| bndE h fun v3 e2 h => t_call0 rfl (Stream_Flip_c e2) (CoL.refl _) (.cons .p0 .nil) rfl rfl <| ARun.qv (n_build rfl rfl rfl rfl rfl) rfl <| n_store_ptr rfl rfl rfl rfl .p1 rfl rfl <| rN <| ATodo.ret <| ?_
    obtain rfl := Option.some.inj h
    exact ImpX.here ⟨_, .cons (.all _ _ _ _ _ _ rfl .p1 TUnder.h TInfo.h rfl rfl) .nil, _, .cons .p0 .nil, ⟨rfl, rfl⟩⟩
  · refine have h := iteF hc h; tSR <| ARun.qv (q_eql rfl rfl) rfl <| rA rfl rfl <| rN <| ATodo.cond_d rfl (fun hc => ?_) (fun hc => ?_)
    · refine have h := iteT hc h; tSR <| rM rfl rfl <| n_buildSliceL (xs := ([([] : Str), ([120] : Str), ([97, 32, 34, 98, 34] : Str), ([92] : Str), ([195, 169] : Str), ([45, 32, 49] : Str)]).map AV.str) rfl rfl rfl rfl rfl rfl <| bndE h fun v4 e3 h => t_call0 rfl (Stream_Some_c e3) (CoL.refl _) (.cons .p0 .nil) rfl rfl <| ARun.qv (n_build rfl rfl rfl rfl rfl) rfl <| n_store_ptr rfl rfl rfl rfl .p1 rfl rfl <| rN <| ATodo.ret <| ?_
      obtain rfl := Option.some.inj h
      exact ImpX.here ⟨_, .cons (.all _ _ _ _ _ _ rfl .p1 TUnder.h TInfo.h rfl rfl) .nil, _, .cons .p0 .nil, ⟨rfl, rfl⟩⟩
    · refine have h := iteF hc h; tK <| ATodo.blk <| tSR <| rM rfl rfl <| n_buildSliceL (xs := ([(1 : Int), (2 : Int), (2 : Int), (3 : Int), (0 : Int), (-5 : Int), (1000000000 : Int)]).map I) rfl rfl rfl rfl rfl rfl <| bndE h fun v5 e4 h => t_call0 rfl (Stream_Pick_c e4) (CoL.refl _) (.cons .p0 .nil) rfl rfl <| ARun.qv (n_build rfl rfl rfl rfl rfl) rfl <| n_store_ptr rfl rfl rfl rfl .p1 rfl rfl <| rN <| ATodo.ret <| ?_
      obtain rfl := Option.some.inj h
      exact ImpX.here ⟨_, .cons (.all _ _ _ _ _ _ rfl .p1 TUnder.h TInfo.h rfl rfl) .nil, _, .cons .p0 .nil, ⟨rfl, rfl⟩⟩

set_option maxHeartbeats 4000000 in
theorem propOrder_c [GI : GTab] {p0x0 : PropS} {p1x0 : PropS} {r : Int} (h : propOrder p0x0 p1x0 = r) : Pu Tryz.prog 45 [.agg [.str p0x0.Name, I p0x0.Value.Kind, .bool p0x0.Value.Flag, I p0x0.Value.Number, .str p0x0.Value.Words], .agg [.str p1x0.Name, I p1x0.Value.Kind, .bool p1x0.Value.Flag, I p1x0.Value.Number, .str p1x0.Value.Words]] (I r) := by
  unfold propOrder at h
  refine ACall.bodyN Tryz.func45 rfl Tryz.ntmps45 Tryz.results45 rfl rfl ?_
  refine tSR <| n_box rfl rfl rfl rfl fun b1 => n_box rfl rfl rfl rfl fun b2 => rA rfl rfl <| rN <| tSR <| rF rfl rfl rfl <| rL rfl rfl .p1 rfl rfl <| rF rfl rfl rfl <| rL rfl rfl .p0 rfl rfl <| r_callp rfl (strings_Compare_c rfl) (CoL.refl _) rfl <| rA rfl rfl <| rN <| ATodo.ret <| ?_
  obtain rfl := h
  exact ImpX.here ⟨_, .cons (.tmp _ _ rfl) .nil, rfl⟩

set_option maxHeartbeats 4000000 in
theorem slices_SortFunc_Prop_Prop_k : SortK Tryz.prog 44 5 := ⟨fun enc hk h1 cf hO g cb blk off cap d w eg hc hH hb hs => AnyQ.slices_SortFunc_eq Tryz.sortF44 5 Tryz.isAgg43 Tryz.sizeOf43 enc hk h1 cf hO g cb blk off cap d w eg hc hH hb hs, fun p cap fv w => AnyF.slices_SortFunc_none Tryz.sortF44 p cap fv w⟩
theorem slices_SortFunc_Prop_Prop_c [GI : GTab] {b_0 : Bk} {p0x0 : List PropS} {fnb : PropS → PropS → Option Int} {fnb_F : FuncId} [IsFn Tryz.prog fnb_F] {fnb_C : List AV} (fnb_h : ∀ {y0 y1 : _} {u : Int}, fnb y0 y1 = some u → @Pu strongT Tryz.prog fnb_F (PropS.av y0 :: PropS.av y1 :: fnb_C) (I u)) {r : (List PropS)} (h : slices_SortFunc_Prop_Prop p0x0 fnb = some r) : ACall Tryz.prog 44 [.sl 5 b_0 0 p0x0.length, .func (.func fnb_F) fnb_C] [(b_0, .arr 5 (p0x0.map PropS.av))] (T0 [(b_0, .arr 5 (r.map PropS.av))] (.tup [])) :=
  sort_acall (fn := fnb) slices_SortFunc_Prop_Prop_k rfl @fnb_h (fun _ => rfl) h

set_option maxHeartbeats 4000000 in
theorem Q_in_c [GI : GTab] {p0x0 : Int} {p1x0 : Int} {p2x0 : Int} {r : Bool} (h : Q_in p0x0 p1x0 p2x0 = r) : Pu Tryz.prog 95 [I p0x0, I p1x0, I p2x0] (.bool r) := by
  unfold Q_in at h
  refine ACall.bodyN Tryz.func95 rfl Tryz.ntmps95 Tryz.results95 rfl rfl ?_
  refine tSR <| rA rfl rfl <| rN <| tS <| ATodo.cut (fun σ' => ∃ (c1 : Bool), Q_in_j1 c1 = r ∧ σ' = ⟨15, [(6, .bool c1)], []⟩) ?_ ?_
  · refine tR <| rM rfl rfl <| rM rfl rfl <| ARun.qv (q_leq rfl rfl) rfl <| rM rfl rfl <| ARun.guard_dt rfl rfl rfl (fun hc => ?_) (fun hc => ?_)
    · rw [andTd hc] at h
      exact rM rfl rfl <| rY rfl rfl rfl <| rM rfl rfl <| rY rfl rfl rfl <| ARun.qv (q_leq rfl rfl) rfl <| rT rfl rfl rfl <| rA rfl rfl <| rN <| ATodo.stop <| ImpX.lq [] ⟨decide (p0x0 ≤ p2x0), h, rfl⟩ rfl rfl
    · rw [andFd hc] at h
      exact rG rfl rfl rfl rfl <| rG rfl rfl rfl rfl <| rE rfl rfl rfl <| rA rfl rfl <| rN <| ATodo.stop <| ImpX.lq [] ⟨false, h, rfl⟩ rfl rfl
  · rintro σ' ⟨c1, h, rfl⟩
    unfold Q_in_j1 at h
    refine ATodo.ret <| ?_
    obtain rfl := h
    exact ImpX.here ⟨_, .cons (.tmp _ _ rfl) .nil, rfl⟩

set_option maxHeartbeats 4000000 in
theorem Q_only_c [GI : GTab] {p0x0 : Str} {p1x0 : Str} {r : Bool} (h : Q_only p0x0 p1x0 = some r) : Pu Tryz.prog 112 [.str p0x0, .str p1x0] (.bool r) := by
  unfold Q_only at h
  refine ACall.bodyN Tryz.func112 rfl Tryz.ntmps112 Tryz.results112 rfl rfl ?_
  refine tSR <| rA rfl rfl <| rN <| tS <| tSR <| rM rfl rfl <| ARun.qv (q_len_str rfl) rfl <| rM rfl rfl <| rN <| ATodo.block <| ATodo.loopI (fun x : Int => Q_only_b1 p0x0 p1x0 x) (fun x σ' => σ' = ⟨18, [(0, .str p0x0), (1, .str p1x0), (7, I (p0x0.length : Int)), (8, I x)], []⟩) h ?_ ?_
  · exact ImpX.lq [] rfl rfl rfl
  · intro n2 z1 σ' J1 hmk h hJ1 hA1
    obtain rfl := hmk
    replace h : Q_only_b1 p0x0 p1x0 n2 = some z1 := h
    unfold Q_only_b1 at h
    refine tSR <| ARun.qv (q_lss rfl rfl) rfl <| rN <| tS <| ATodo.cond_d rfl (fun hc => ?_) (fun hc => ?_)
    · refine have h := iteT hc h; tK <| tS <| ATodo.block <| tSR <| rM rfl rfl <| rA rfl rfl <| rN <| tSR <| rM rfl rfl <| rM rfl rfl <| rM rfl rfl <| bndE h fun c3 e1 h => ARun.qv (t_index_str rfl rfl e1) rfl <| r_callp rfl (strings_IndexByte_c rfl) (CoL.refl _) rfl <| ARun.qv (q_lss rfl rfl) rfl <| rN <| ATodo.cond_d rfl (fun hc => ?_) (fun hc => ?_)
      · refine have h := iteT hc h; tSR <| rA rfl rfl <| rN <| ATodo.ret <| have h := outL h hA1; ?_
        obtain rfl := Option.some.inj h
        exact ImpX.here ⟨_, .cons (.tmp _ _ rfl) .nil, rfl⟩
      · refine have h := iteF hc h; tK <| ATodo.blk <| tR <| ARun.qv (q_addw rfl rfl) rfl <| rM rfl rfl <| rN <| ATodo.stop <| ?_
        obtain rfl := Option.some.inj h
        exact hJ1 _ _ rfl <| ImpX.lq [] rfl rfl rfl
    · refine have h := iteF hc h; ATodo.exit rfl <| have h := outL h hA1; tSR <| rA rfl rfl <| rN <| ATodo.ret <| ?_
      obtain rfl := Option.some.inj h
      exact ImpX.here ⟨_, .cons (.tmp _ _ rfl) .nil, rfl⟩

set_option maxHeartbeats 4000000 in
theorem Q_Key_c [GI : GTab] {p0x0 : Str} {r : Bool} (h : Q_Key p0x0 = some r) : Pu Tryz.prog 67 [.str p0x0] (.bool r) := by
  unfold Q_Key at h
  refine ACall.bodyN Tryz.func67 rfl Tryz.ntmps67 Tryz.results67 rfl rfl ?_
  refine tSR <| rA rfl rfl <| rN <| tS <| ATodo.cut (fun σ' => ∃ (c1 : Bool), Q_Key_j1 c1 = some r ∧ σ' = ⟨15, [(2, .bool c1)], []⟩) ?_ ?_
  · refine tR <| rM rfl rfl <| ARun.qv (q_len_str rfl) rfl <| r_callp rfl (Q_in_c rfl) (CoL.refl _) rfl <| rM rfl rfl <| ARun.guard rfl rfl rfl (fun hc => ?_) (fun hc => ?_)
    · refine have h := iteT hc h; rM rfl rfl <| rY rfl rfl rfl <| bndE h fun l2 e1 h => ARun.qv (t_slice_str rfl .none (.some _ _ _ rfl) rfl rfl e1) rfl <| rY rfl rfl rfl <| bndE h fun v3 e2 h => r_callp rfl (Q_only_c e2) (CoL.refl _) rfl <| rT rfl rfl rfl <| rM rfl rfl <| ARun.guard rfl rfl rfl (fun hc => ?_) (fun hc => ?_)
      · exact have h := iteT hc h; rM rfl rfl <| rY rfl rfl rfl <| bndE h fun v4 e3 h => r_callp rfl (Q_only_c e3) (CoL.refl _) rfl <| rT rfl rfl rfl <| rA rfl rfl <| rN <| ATodo.stop <| ImpX.lq [] ⟨v4, h, rfl⟩ rfl rfl
      · exact have h := iteFb hc h; rG rfl rfl rfl rfl <| rE rfl rfl rfl <| rA rfl rfl <| rN <| ATodo.stop <| ImpX.lq [] ⟨false, h, rfl⟩ rfl rfl
    · exact have h := iteFb hc h; rG rfl rfl rfl rfl <| rG rfl rfl rfl rfl <| rE rfl rfl rfl <| rM rfl rfl <| rG rfl rfl rfl rfl <| rG rfl rfl rfl rfl <| rE rfl rfl rfl <| rA rfl rfl <| rN <| ATodo.stop <| ImpX.lq [] ⟨false, h, rfl⟩ rfl rfl
  · rintro σ' ⟨c1, h, rfl⟩
    unfold Q_Key_j1 at h
    refine ATodo.ret <| ?_
    obtain rfl := Option.some.inj h
    exact ImpX.here ⟨_, .cons (.tmp _ _ rfl) .nil, rfl⟩

set_option maxHeartbeats 4000000 in
theorem Q_PropName_1x_c [GI : GTab] {p0x0 : Str} {r : Bool} (h : Q_PropName_1x p0x0 = some r) : Pu Tryz.prog 66 [.str p0x0] (.bool r) := by
  unfold Q_PropName_1x at h
  refine ACall.bodyN Tryz.func66 rfl Tryz.ntmps66 Tryz.results66 rfl rfl ?_
  refine tSR <| rA rfl rfl <| rN <| tSR <| rM rfl rfl <| bndE h fun v1 e1 h => r_callp rfl (Q_Key_c e1) (CoL.refl _) rfl <| ARun.qv (q_not rfl) rfl <| rA rfl rfl <| rN <| ATodo.ret <| ?_
  obtain rfl := Option.some.inj h
  exact ImpX.here ⟨_, .cons (.tmp _ _ rfl) .nil, rfl⟩

set_option maxHeartbeats 4000000 in
theorem slices_IndexFunc_string_string_c [GI : GTab] {p0x0 : List Str} {fnb : Str → Option Bool} {fnb_F : FuncId} [IsFn Tryz.prog fnb_F] {fnb_C : List AV} (fnb_h : ∀ {y0 : _} {u : Bool}, fnb y0 = some u → Pu Tryz.prog fnb_F (.str y0 ::  fnb_C) (.bool u)) {r : Int} (h : slices_IndexFunc_string_string p0x0 fnb = some r) : Pu Tryz.prog 111 [.list 1 (p0x0.map AV.str), .func (.func fnb_F) fnb_C] (I r) := by
  unfold slices_IndexFunc_string_string at h
  refine ACall.bodyN Tryz.func111 rfl Tryz.ntmps111 Tryz.results111 rfl rfl ?_
  refine tSR <| rA rfl rfl <| rN <| tS <| tSR <| rM rfl rfl <| ARun.qv (t_len rfl) rfl <| rM rfl rfl <| rN <| ATodo.block <| ATodo.loopI (fun x : Int => slices_IndexFunc_string_string_b1 p0x0 fnb x) (fun x σ' => σ' = ⟨19, [(0, .list 1 (p0x0.map AV.str)), (1, .func (.func fnb_F) fnb_C), (7, I (p0x0.length : Int)), (8, I x)], []⟩) h ?_ ?_
  · exact ImpX.lq [] rfl rfl rfl
  · intro n2 z1 σ' J1 hmk h hJ1 hA1
    obtain rfl := hmk
    replace h : slices_IndexFunc_string_string_b1 p0x0 fnb n2 = some z1 := h
    unfold slices_IndexFunc_string_string_b1 at h
    refine tSR <| ARun.qv (q_lss rfl rfl) rfl <| rN <| tS <| ATodo.cond_d rfl (fun hc => ?_) (fun hc => ?_)
    · refine have h := iteT hc h; tK <| tS <| ATodo.block <| tSR <| rM rfl rfl <| rA rfl rfl <| rN <| tSR <| rM rfl rfl <| rM rfl rfl <| rM rfl rfl <| bndE h fun v3 e1 h => ARun.qv (t_index rfl rfl rfl e1 rfl rfl) rfl <| ARun.qv (q_load_rptr rfl rfl rfl) rfl <| bndE h fun v4 e2 h => r_callvp rfl rfl (fnb_h e2) (CoL.refl _) rfl <| rN <| ATodo.cond rfl (fun hc => ?_) (fun hc => ?_)
      · refine have h := iteT hc h; tSR <| rM rfl rfl <| rA rfl rfl <| rN <| ATodo.ret <| have h := outL h hA1; ?_
        obtain rfl := Option.some.inj h
        exact ImpX.here ⟨_, .cons (.tmp _ _ rfl) .nil, rfl⟩
      · refine have h := iteFb hc h; tK <| ATodo.blk <| tR <| ARun.qv (q_addw rfl rfl) rfl <| rM rfl rfl <| rN <| ATodo.stop <| ?_
        obtain rfl := Option.some.inj h
        exact hJ1 _ _ rfl <| ImpX.lq [] rfl rfl rfl
    · refine have h := iteF hc h; ATodo.exit rfl <| have h := outL h hA1; tSR <| rA rfl rfl <| rN <| ATodo.ret <| ?_
      obtain rfl := Option.some.inj h
      exact ImpX.here ⟨_, .cons (.tmp _ _ rfl) .nil, rfl⟩

set_option maxHeartbeats 4000000 in
theorem slices_ContainsFunc_string_string_c [GI : GTab] {p0x0 : List Str} {fnb : Str → Option Bool} {fnb_F : FuncId} [IsFn Tryz.prog fnb_F] {fnb_C : List AV} (fnb_h : ∀ {y0 : _} {u : Bool}, fnb y0 = some u → Pu Tryz.prog fnb_F (.str y0 ::  fnb_C) (.bool u)) {r : Bool} (h : slices_ContainsFunc_string_string p0x0 fnb = some r) : Pu Tryz.prog 65 [.list 1 (p0x0.map AV.str), .func (.func fnb_F) fnb_C] (.bool r) := by
  unfold slices_ContainsFunc_string_string at h
  refine ACall.bodyN Tryz.func65 rfl Tryz.ntmps65 Tryz.results65 rfl rfl ?_
  refine tSR <| rA rfl rfl <| rN <| tSR <| rM rfl rfl <| rM rfl rfl <| bndE h fun v1 e1 h => r_callpB rfl (slices_IndexFunc_string_string_c fnb_h e1) (.cons (.co (.refl _)) (.cons (.co (.refl _)) .nil)) rfl rfl <| ARun.qv (q_geq rfl rfl) rfl <| rA rfl rfl <| rN <| ATodo.ret <| ?_
  obtain rfl := Option.some.inj h
  exact ImpX.here ⟨_, .cons (.tmp _ _ rfl) .nil, rfl⟩

set_option maxHeartbeats 4000000 in
theorem Q_PropName_c {p0x0 : Str} {r : Bool} (h : Q_PropName p0x0 = some r) : Pu Tryz.prog 23 [.str p0x0] (.bool r) := by
  unfold Q_PropName at h
  refine ACall.bodyN Tryz.func23 rfl Tryz.ntmps23 Tryz.results23 rfl rfl ?_
  refine tSR <| rA rfl rfl <| rN <| tSR <| rM rfl rfl <| bndE h fun v1 e1 h => t_call1 rfl (strings_Split_c e1) (CoL.refl _) .nil (fun _ => rfl) rfl fun b2 => rA rfl rfl <| rN <| tS <| ATodo.cut (fun σ' => ∃ (c3 : Bool), Q_PropName_j1 c3 = some r ∧ σ' = ⟨14, [(2, .bool c3)], []⟩) ?_ ?_
  · refine tR <| rM rfl rfl <| ARun.qv (t_len_sl rfl) rfl <| ARun.qv (q_leq rfl rfl) rfl <| rM rfl rfl <| ARun.guard_dt rfl rfl rfl (fun hc => ?_) (fun hc => ?_)
    · exact have h := iteT hc h; rM rfl rfl <| rY rfl rfl rfl <| bndE h fun v4 e2 h => r_callpB rfl (slices_ContainsFunc_string_string_c (fun e => Q_PropName_1x_c e) e2) (.cons (CoB.arrT .p0) (.cons (.funcL _ _ _ .nil) .nil)) rfl rfl <| rY rfl rfl rfl <| ARun.qv (q_not rfl) rfl <| rT rfl rfl rfl <| rA rfl rfl <| rN <| ATodo.stop <| ImpX.lq [] ⟨!v4, h, rfl⟩ rfl rfl
    · exact have h := iteF hc h; rG rfl rfl rfl rfl <| rG rfl rfl rfl rfl <| rE rfl rfl rfl <| rA rfl rfl <| rN <| ATodo.stop <| ImpX.lq [] ⟨false, h, rfl⟩ rfl rfl
  · rintro σ' ⟨c3, h, rfl⟩
    unfold Q_PropName_j1 at h
    refine ATodo.ret <| ?_
    obtain rfl := Option.some.inj h
    exact ImpX.here ⟨_, .cons (.tmp _ _ rfl) .nil, rfl⟩

set_option maxHeartbeats 4000000 in
theorem Q_Printed_1x_c [GI : GTab] {p0x0 : Int} {r : Bool} (h : Q_Printed_1x p0x0 = r) : Pu Tryz.prog 138 [.int .i32 p0x0] (.bool r) := by
  unfold Q_Printed_1x at h
  refine ACall.bodyN Tryz.func138 rfl Tryz.ntmps138 Tryz.results138 rfl rfl ?_
  refine tSR <| rA rfl rfl <| rN <| tS <| ATodo.cut (fun σ' => ∃ (c1 : Bool), Q_Printed_1x_j1 c1 = r ∧ σ' = ⟨9, [(2, .bool c1)], []⟩) ?_ ?_
  · refine tR <| rM rfl rfl <| ARun.qv (q_lss rfl rfl) rfl <| rM rfl rfl <| ARun.guard_df rfl rfl rfl (fun hc => ?_) (fun hc => ?_)
    · rw [orFd hc] at h
      exact rM rfl rfl <| rY rfl rfl rfl <| ARun.qv (q_eql rfl rfl) rfl <| rE rfl rfl rfl <| rA rfl rfl <| rN <| ATodo.stop <| ImpX.lq [] ⟨decide (p0x0 = (127 : Int)), h, rfl⟩ rfl rfl
    · rw [orTd hc] at h
      exact rG rfl rfl rfl rfl <| rT rfl rfl rfl <| rA rfl rfl <| rN <| ATodo.stop <| ImpX.lq [] ⟨true, h, rfl⟩ rfl rfl
  · rintro σ' ⟨c1, h, rfl⟩
    unfold Q_Printed_1x_j1 at h
    refine ATodo.ret <| ?_
    obtain rfl := h
    exact ImpX.here ⟨_, .cons (.tmp _ _ rfl) .nil, rfl⟩

set_option maxHeartbeats 4000000 in
theorem Q_Printed_c {p0x0 : Str} {r : Bool} (h : Q_Printed p0x0 = some r) : Pu Tryz.prog 96 [.str p0x0] (.bool r) := by
  unfold Q_Printed at h
  refine ACall.bodyN Tryz.func96 rfl Tryz.ntmps96 Tryz.results96 rfl rfl ?_
  refine tSR <| rA rfl rfl <| rN <| tS <| ATodo.cut (fun σ' => ∃ (c1 : Bool), Q_Printed_j1 c1 = some r ∧ σ' = ⟨10, [(2, .bool c1)], []⟩) ?_ ?_
  · refine tR <| rM rfl rfl <| bndE h fun v2 e1 h => r_callp rfl (utf8_ValidString_c e1) (CoL.refl _) rfl <| rM rfl rfl <| ARun.guard rfl rfl rfl (fun hc => ?_) (fun hc => ?_)
    · exact have h := iteT hc h; rM rfl rfl <| rY rfl rfl rfl <| bndE h fun v3 e2 h => r_callpB rfl (strings_ContainsFunc_c (fun e => Q_Printed_1x_c (Option.some.inj e)) e2) (.cons (.co (.refl _)) (.cons (.funcL _ _ _ .nil) .nil)) rfl rfl <| rY rfl rfl rfl <| ARun.qv (q_not rfl) rfl <| rT rfl rfl rfl <| rA rfl rfl <| rN <| ATodo.stop <| ImpX.lq [] ⟨!v3, h, rfl⟩ rfl rfl
    · exact have h := iteFb hc h; rG rfl rfl rfl rfl <| rG rfl rfl rfl rfl <| rE rfl rfl rfl <| rA rfl rfl <| rN <| ATodo.stop <| ImpX.lq [] ⟨false, h, rfl⟩ rfl rfl
  · rintro σ' ⟨c1, h, rfl⟩
    unfold Q_Printed_j1 at h
    refine ATodo.ret <| ?_
    obtain rfl := Option.some.inj h
    exact ImpX.here ⟨_, .cons (.tmp _ _ rfl) .nil, rfl⟩

set_option maxHeartbeats 4000000 in
theorem Q_ValueFault_c {p0x0 : ValueS} {r : Int} (h : Q_ValueFault p0x0 = some r) : Pu Tryz.prog 48 [.agg [I p0x0.Kind, .bool p0x0.Flag, I p0x0.Number, .str p0x0.Words]] (I r) := by
  unfold Q_ValueFault at h
  refine ACall.bodyN Tryz.func48 rfl Tryz.ntmps48 Tryz.results48 rfl rfl ?_
  refine tSR <| n_box rfl rfl rfl rfl fun b1 => rA rfl rfl <| rN <| tS <| tSR <| rF rfl rfl rfl <| rL rfl rfl .p0 rfl rfl <| r_callp rfl (Q_in_c rfl) (CoL.refl _) rfl <| ARun.qv (q_not rfl) rfl <| rN <| ATodo.cond rfl (fun hc => ?_) (fun hc => ?_)
  · refine have h := iteT hc h; tSR <| rA rfl rfl <| rN <| ATodo.ret <| ?_
    obtain rfl := Option.some.inj h
    exact ImpX.here ⟨_, .cons (.tmp _ _ rfl) .nil, rfl⟩
  · refine have h := iteFb hc h; tK <| tSR <| rF rfl rfl rfl <| rL rfl rfl .p0 rfl rfl <| ARun.qv (n_build rfl rfl rfl rfl rfl) rfl <| n_alloc rfl rfl rfl rfl fun b2 => n_store_ptr rfl rfl rfl rfl .p0 rfl rfl <| rN <| tS <| tSR <| rF rfl rfl rfl <| rL rfl rfl .p1 rfl rfl <| rN <| ATodo.block <| tSR <| ARun.qv (q_eql rfl rfl) rfl <| rA rfl rfl <| rN <| ATodo.cut (fun σ' => ∃ (c3 : Bool) (n4 : Int) (q5 : Str), Q_ValueFault_j1 p0x0 c3 n4 q5 = some r ∧ σ' = ⟨47, [(1, .ptr b1 0), (3, .ptr b2 0)], [(b1, .cells [I p0x0.Kind, .bool p0x0.Flag, I p0x0.Number, .str p0x0.Words]), (b2, .cells [I p0x0.Kind, .bool c3, I n4, .str q5])]⟩) ?_ ?_
    · refine ATodo.cond_d rfl (fun hc => ?_) (fun hc => ?_)
      · exact have h := iteT hc h; tR <| rF rfl rfl rfl <| rL rfl rfl .p1 rfl rfl <| rF rfl rfl rfl <| n_store_ptr rfl rfl rfl rfl .p0 rfl rfl <| rN <| ATodo.stop <| ImpX.lq [1, 0] ⟨p0x0.Flag, (0 : Int), [], h, rfl⟩ rfl rfl
      · refine have h := iteF hc h; tSR <| ARun.qv (q_eql rfl rfl) rfl <| rA rfl rfl <| rN <| ATodo.cut (fun σ' => ∃ (n6 : Int) (q7 : Str), Q_ValueFault_j2 p0x0 n6 q7 = some r ∧ σ' = ⟨47, [(1, .ptr b1 0), (3, .ptr b2 0)], [(b1, .cells [I p0x0.Kind, .bool p0x0.Flag, I p0x0.Number, .str p0x0.Words]), (b2, .cells [I p0x0.Kind, .bool false, I n6, .str q7])]⟩) ?_ ?_
        · refine ATodo.cond_d rfl (fun hc => ?_) (fun hc => ?_)
          · exact have h := iteT hc h; tR <| rF rfl rfl rfl <| rL rfl rfl .p1 rfl rfl <| rF rfl rfl rfl <| n_store_ptr rfl rfl rfl rfl .p0 rfl rfl <| rN <| ATodo.stop <| ImpX.lq [1, 0] ⟨p0x0.Number, [], h, rfl⟩ rfl rfl
          · refine have h := iteF hc h; tSR <| ARun.qv (q_eql rfl rfl) rfl <| rA rfl rfl <| rN <| ATodo.cut (fun σ' => ∃ (q8 : Str), Q_ValueFault_j3 p0x0 q8 = some r ∧ σ' = ⟨47, [(1, .ptr b1 0), (3, .ptr b2 0)], [(b1, .cells [I p0x0.Kind, .bool p0x0.Flag, I p0x0.Number, .str p0x0.Words]), (b2, .cells [I p0x0.Kind, .bool false, I (0 : Int), .str q8])]⟩) ?_ ?_
            · refine ATodo.cond_d rfl (fun hc => ?_) (fun hc => ?_)
              · exact have h := iteT hc h; tR <| rF rfl rfl rfl <| rL rfl rfl .p1 rfl rfl <| rF rfl rfl rfl <| n_store_ptr rfl rfl rfl rfl .p0 rfl rfl <| rN <| ATodo.stop <| ImpX.lq [1, 0] ⟨p0x0.Words, h, rfl⟩ rfl rfl
              · exact have h := iteF hc h; tK <| ATodo.stop <| ImpX.lq [1, 0] ⟨[], h, rfl⟩ rfl rfl
            · rintro σ' ⟨q8, h, rfl⟩
              unfold Q_ValueFault_j3 at h
              exact ATodo.stop <| ImpX.lq [0, 0] ⟨(0 : Int), q8, h, rfl⟩ rfl rfl
        · rintro σ' ⟨n6, q7, h, rfl⟩
          unfold Q_ValueFault_j2 at h
          exact ATodo.stop <| ImpX.lq [0, 0] ⟨false, n6, q7, h, rfl⟩ rfl rfl
    · rintro σ' ⟨c3, n4, q5, h, rfl⟩
      unfold Q_ValueFault_j1 at h
      refine ATodo.blk <| tS <| ATodo.block <| tSR <| ARun.qv (q_load_ptr_all rfl rfl .p1 rfl) rfl <| ARun.qv (q_load_ptr_all rfl rfl .p0 rfl) rfl <| ARun.qv (t_tne (g := ValueS.av) (X := (⟨p0x0.Kind, c3, n4, q5⟩ : ValueS)) (Y := p0x0) rfl rfl rfl rfl rfl) rfl <| rA rfl rfl <| rN <| ATodo.cond_d rfl (fun hc => ?_) (fun hc => ?_)
      · refine have h := iteT hc h; tSR <| rA rfl rfl <| rN <| ATodo.ret <| ?_
        obtain rfl := Option.some.inj h
        exact ImpX.here ⟨_, .cons (.tmp _ _ rfl) .nil, rfl⟩
      · refine have h := iteF hc h; tSR <| rF rfl rfl rfl <| rL rfl rfl .p0 rfl rfl <| r_callp rfl (Q_in_c rfl) (CoL.refl _) rfl <| ARun.qv (q_not rfl) rfl <| rA rfl rfl <| rN <| ATodo.cond rfl (fun hc => ?_) (fun hc => ?_)
        · refine have h := iteT hc h; tSR <| rA rfl rfl <| rN <| ATodo.ret <| ?_
          obtain rfl := Option.some.inj h
          exact ImpX.here ⟨_, .cons (.tmp _ _ rfl) .nil, rfl⟩
        · refine have h := iteFb hc h; tSR <| rF rfl rfl rfl <| rL rfl rfl .p0 rfl rfl <| ARun.qv (q_len_str rfl) rfl <| ARun.qv (q_gtr rfl rfl) rfl <| rA rfl rfl <| rN <| ATodo.cond_d rfl (fun hc => ?_) (fun hc => ?_)
          · refine have h := iteT hc h; tSR <| rA rfl rfl <| rN <| ATodo.ret <| ?_
            obtain rfl := Option.some.inj h
            exact ImpX.here ⟨_, .cons (.tmp _ _ rfl) .nil, rfl⟩
          · refine have h := iteF hc h; tSR <| rF rfl rfl rfl <| rL rfl rfl .p0 rfl rfl <| bndE h fun v9 e1 h => r_callp rfl (Q_Printed_c e1) (CoL.refl _) rfl <| ARun.qv (q_not rfl) rfl <| rA rfl rfl <| rN <| ATodo.cond rfl (fun hc => ?_) (fun hc => ?_)
            · refine have h := iteT hc h; tSR <| rA rfl rfl <| rN <| ATodo.ret <| ?_
              obtain rfl := Option.some.inj h
              exact ImpX.here ⟨_, .cons (.tmp _ _ rfl) .nil, rfl⟩
            · refine have h := iteFb hc h; tK <| ATodo.blk <| tSR <| rA rfl rfl <| rN <| ATodo.ret <| ?_
              obtain rfl := Option.some.inj h
              exact ImpX.here ⟨_, .cons (.tmp _ _ rfl) .nil, rfl⟩

set_option maxHeartbeats 4000000 in
theorem internal_stringslite_HasPrefix_c [GI : GTab] {p0x0 : Str} {p1x0 : Str} {r : Bool} (h : internal_stringslite_HasPrefix p0x0 p1x0 = some r) : Pu Tryz.prog 139 [.str p0x0, .str p1x0] (.bool r) := by
  unfold internal_stringslite_HasPrefix at h
  refine ACall.bodyN Tryz.func139 rfl Tryz.ntmps139 Tryz.results139 rfl rfl ?_
  refine tSR <| rA rfl rfl <| rN <| tS <| ATodo.cut (fun σ' => ∃ (c1 : Bool), internal_stringslite_HasPrefix_j1 c1 = some r ∧ σ' = ⟨18, [(4, .bool c1)], []⟩) ?_ ?_
  · refine tR <| rM rfl rfl <| ARun.qv (q_len_str rfl) rfl <| rM rfl rfl <| ARun.qv (q_len_str rfl) rfl <| ARun.qv (q_geq rfl rfl) rfl <| rM rfl rfl <| ARun.guard_dt rfl rfl rfl (fun hc => ?_) (fun hc => ?_)
    · exact have h := iteT hc h; rM rfl rfl <| rY rfl rfl rfl <| rM rfl rfl <| rY rfl rfl rfl <| ARun.qv (q_len_str rfl) rfl <| rY rfl rfl rfl <| bndE h fun l2 e1 h => ARun.qv (t_slice_str rfl .none (.some _ _ _ rfl) rfl rfl e1) rfl <| rY rfl rfl rfl <| rM rfl rfl <| rY rfl rfl rfl <| ARun.qv (q_seq rfl rfl) rfl <| rT rfl rfl rfl <| rA rfl rfl <| rN <| ATodo.stop <| ImpX.lq [] ⟨decide (l2 = p1x0), h, rfl⟩ rfl rfl
    · exact have h := iteF hc h; rG rfl rfl rfl rfl <| rG rfl rfl rfl rfl <| rG rfl rfl rfl rfl <| rG rfl rfl rfl rfl <| rG rfl rfl rfl rfl <| rE rfl rfl rfl <| rA rfl rfl <| rN <| ATodo.stop <| ImpX.lq [] ⟨false, h, rfl⟩ rfl rfl
  · rintro σ' ⟨c1, h, rfl⟩
    unfold internal_stringslite_HasPrefix_j1 at h
    refine ATodo.ret <| ?_
    obtain rfl := Option.some.inj h
    exact ImpX.here ⟨_, .cons (.tmp _ _ rfl) .nil, rfl⟩

set_option maxHeartbeats 4000000 in
theorem strings_HasPrefix_c [GI : GTab] {p0x0 : Str} {p1x0 : Str} {r : Bool} (h : strings_HasPrefix p0x0 p1x0 = some r) : Pu Tryz.prog 98 [.str p0x0, .str p1x0] (.bool r) := by
  unfold strings_HasPrefix at h
  refine ACall.bodyN Tryz.func98 rfl Tryz.ntmps98 Tryz.results98 rfl rfl ?_
  refine tSR <| rA rfl rfl <| rN <| tSR <| rM rfl rfl <| rM rfl rfl <| bndE h fun v1 e1 h => r_callp rfl (internal_stringslite_HasPrefix_c e1) (CoL.refl _) rfl <| rA rfl rfl <| rN <| ATodo.ret <| ?_
  obtain rfl := Option.some.inj h
  exact ImpX.here ⟨_, .cons (.tmp _ _ rfl) .nil, rfl⟩

set_option maxHeartbeats 4000000 in
theorem Q_above_c [GI : GTab] {p0x0 : Str} {p1x0 : Str} {r : Bool} (h : Q_above p0x0 p1x0 = some r) : Pu Tryz.prog 51 [.str p0x0, .str p1x0] (.bool r) := by
  unfold Q_above at h
  refine ACall.bodyN Tryz.func51 rfl Tryz.ntmps51 Tryz.results51 rfl rfl ?_
  refine tSR <| rA rfl rfl <| rN <| tSR <| rM rfl rfl <| rM rfl rfl <| bndE h fun q1 e1 h => ARun.qv (q_sadd e1 rfl rfl) rfl <| bndE h fun v2 e2 h => r_callp rfl (strings_HasPrefix_c e2) (CoL.refl _) rfl <| rA rfl rfl <| rN <| ATodo.ret <| ?_
  obtain rfl := Option.some.inj h
  exact ImpX.here ⟨_, .cons (.tmp _ _ rfl) .nil, rfl⟩

set_option maxHeartbeats 4000000 in
theorem Q_PropsFault_1x_c [GI : GTab] {p0x0 : PropS} {p1x0 : PropS} {r : Bool} (h : Q_PropsFault_1x p0x0 p1x0 = some r) : Pu Tryz.prog 50 [.agg [.str p0x0.Name, I p0x0.Value.Kind, .bool p0x0.Value.Flag, I p0x0.Value.Number, .str p0x0.Value.Words], .rptr [.str p1x0.Name, I p1x0.Value.Kind, .bool p1x0.Value.Flag, I p1x0.Value.Number, .str p1x0.Value.Words]] (.bool r) := by
  unfold Q_PropsFault_1x at h
  refine ACall.bodyN Tryz.func50 rfl Tryz.ntmps50 Tryz.results50 rfl rfl ?_
  refine tSR <| n_box rfl rfl rfl rfl fun b1 => rA rfl rfl <| rN <| tSR <| rF rfl rfl rfl <| rL rfl rfl .p0 rfl rfl <| ARun.qv (n_field_rptr rfl rfl) rfl <| ARun.qv (q_load_rptr rfl rfl rfl) rfl <| bndE h fun v2 e1 h => r_callp rfl (Q_above_c e1) (CoL.refl _) rfl <| rA rfl rfl <| rN <| ATodo.ret <| ?_
  obtain rfl := Option.some.inj h
  exact ImpX.here ⟨_, .cons (.tmp _ _ rfl) .nil, rfl⟩

set_option maxHeartbeats 4000000 in
theorem slices_IndexFunc_Prop_Prop_c [GI : GTab] {p0x0 : List PropS} {fnb : PropS → Option Bool} {fnb_F : FuncId} [IsFn Tryz.prog fnb_F] {fnb_C : List AV} (fnb_h : ∀ {y0 : _} {u : Bool}, fnb y0 = some u → Pu Tryz.prog fnb_F (.agg [.str y0.Name, I y0.Value.Kind, .bool y0.Value.Flag, I y0.Value.Number, .str y0.Value.Words] ::  fnb_C) (.bool u)) {r : Int} (h : slices_IndexFunc_Prop_Prop p0x0 fnb = some r) : Pu Tryz.prog 97 [.list 5 (p0x0.map PropS.av), .func (.func fnb_F) fnb_C] (I r) := by
  unfold slices_IndexFunc_Prop_Prop at h
  refine ACall.bodyN Tryz.func97 rfl Tryz.ntmps97 Tryz.results97 rfl rfl ?_
  refine tSR <| rA rfl rfl <| rN <| tS <| tSR <| rM rfl rfl <| ARun.qv (t_len rfl) rfl <| rM rfl rfl <| rN <| ATodo.block <| ATodo.loopI (fun x : Int => slices_IndexFunc_Prop_Prop_b1 p0x0 fnb x) (fun x σ' => σ' = ⟨19, [(0, .list 5 (p0x0.map PropS.av)), (1, .func (.func fnb_F) fnb_C), (7, I (p0x0.length : Int)), (8, I x)], []⟩) h ?_ ?_
  · exact ImpX.lq [] rfl rfl rfl
  · intro n2 z1 σ' J1 hmk h hJ1 hA1
    obtain rfl := hmk
    replace h : slices_IndexFunc_Prop_Prop_b1 p0x0 fnb n2 = some z1 := h
    unfold slices_IndexFunc_Prop_Prop_b1 at h
    refine tSR <| ARun.qv (q_lss rfl rfl) rfl <| rN <| tS <| ATodo.cond_d rfl (fun hc => ?_) (fun hc => ?_)
    · refine have h := iteT hc h; tK <| tS <| ATodo.block <| tSR <| rM rfl rfl <| rA rfl rfl <| rN <| tSR <| rM rfl rfl <| rM rfl rfl <| rM rfl rfl <| bndE h fun v3 e1 h => ARun.qv (t_index rfl rfl rfl e1 rfl rfl) rfl <| ARun.qv (q_load_rptr_agg rfl rfl rfl) rfl <| bndE h fun v4 e2 h => r_callvp rfl rfl (fnb_h e2) (CoL.refl _) rfl <| rN <| ATodo.cond rfl (fun hc => ?_) (fun hc => ?_)
      · refine have h := iteT hc h; tSR <| rM rfl rfl <| rA rfl rfl <| rN <| ATodo.ret <| have h := outL h hA1; ?_
        obtain rfl := Option.some.inj h
        exact ImpX.here ⟨_, .cons (.tmp _ _ rfl) .nil, rfl⟩
      · refine have h := iteFb hc h; tK <| ATodo.blk <| tR <| ARun.qv (q_addw rfl rfl) rfl <| rM rfl rfl <| rN <| ATodo.stop <| ?_
        obtain rfl := Option.some.inj h
        exact hJ1 _ _ rfl <| ImpX.lq [] rfl rfl rfl
    · refine have h := iteF hc h; ATodo.exit rfl <| have h := outL h hA1; tSR <| rA rfl rfl <| rN <| ATodo.ret <| ?_
      obtain rfl := Option.some.inj h
      exact ImpX.here ⟨_, .cons (.tmp _ _ rfl) .nil, rfl⟩

set_option maxHeartbeats 4000000 in
theorem slices_ContainsFunc_Prop_Prop_c [GI : GTab] {p0x0 : List PropS} {fnb : PropS → Option Bool} {fnb_F : FuncId} [IsFn Tryz.prog fnb_F] {fnb_C : List AV} (fnb_h : ∀ {y0 : _} {u : Bool}, fnb y0 = some u → Pu Tryz.prog fnb_F (.agg [.str y0.Name, I y0.Value.Kind, .bool y0.Value.Flag, I y0.Value.Number, .str y0.Value.Words] ::  fnb_C) (.bool u)) {r : Bool} (h : slices_ContainsFunc_Prop_Prop p0x0 fnb = some r) : Pu Tryz.prog 49 [.list 5 (p0x0.map PropS.av), .func (.func fnb_F) fnb_C] (.bool r) := by
  unfold slices_ContainsFunc_Prop_Prop at h
  refine ACall.bodyN Tryz.func49 rfl Tryz.ntmps49 Tryz.results49 rfl rfl ?_
  refine tSR <| rA rfl rfl <| rN <| tSR <| rM rfl rfl <| rM rfl rfl <| bndE h fun v1 e1 h => r_callpB rfl (slices_IndexFunc_Prop_Prop_c fnb_h e1) (.cons (.co (.refl _)) (.cons (.co (.refl _)) .nil)) rfl rfl <| ARun.qv (q_geq rfl rfl) rfl <| rA rfl rfl <| rN <| ATodo.ret <| ?_
  obtain rfl := Option.some.inj h
  exact ImpX.here ⟨_, .cons (.tmp _ _ rfl) .nil, rfl⟩

set_option maxHeartbeats 4000000 in
theorem Q_PropsFault_c {p0x0 : List PropS} {r : Int} (h : Q_PropsFault p0x0 = some r) : Pu Tryz.prog 10 [.list 5 (p0x0.map PropS.av)] (I r) := by
  unfold Q_PropsFault at h
  refine ACall.bodyN Tryz.func10 rfl Tryz.ntmps10 Tryz.results10 rfl rfl ?_
  refine tSR <| rA rfl rfl <| rN <| tS <| tSR <| rM rfl rfl <| ARun.qv (t_len rfl) rfl <| ARun.qv (q_gtr rfl rfl) rfl <| rN <| ATodo.cond_d rfl (fun hc => ?_) (fun hc => ?_)
  · refine have h := iteT hc h; tSR <| rA rfl rfl <| rN <| ATodo.ret <| ?_
    obtain rfl := Option.some.inj h
    exact ImpX.here ⟨_, .cons (.tmp _ _ rfl) .nil, rfl⟩
  · refine have h := iteF hc h; tK <| tS <| tSR <| rM rfl rfl <| ARun.qv (t_len rfl) rfl <| rM rfl rfl <| rN <| ATodo.block <| ATodo.loopI (fun x : Int => Q_PropsFault_b1 p0x0 x) (fun x σ' => σ' = ⟨58, [(0, .list 5 (p0x0.map PropS.av)), (11, .list 5 (p0x0.map PropS.av)), (12, I (p0x0.length : Int)), (13, I x)], []⟩) h ?_ ?_
    · exact ImpX.lq [] rfl rfl rfl
    · intro n2 z1 σ' J1 hmk h hJ1 hA1
      obtain rfl := hmk
      replace h : Q_PropsFault_b1 p0x0 n2 = some z1 := h
      unfold Q_PropsFault_b1 at h
      refine tSR <| ARun.qv (q_lss rfl rfl) rfl <| rN <| tS <| ATodo.cond_d rfl (fun hc => ?_) (fun hc => ?_)
      · refine have h := iteT hc h; tK <| tS <| ATodo.block <| tSR <| rM rfl rfl <| bndE h fun v3 e1 h => ARun.qv (t_index rfl rfl rfl e1 rfl rfl) rfl <| ARun.qv (q_load_rptr_agg rfl rfl rfl) rfl <| n_alloc rfl rfl rfl rfl fun b4 => rA rfl rfl <| n_store_ptr rfl rfl rfl rfl .p0 rfl rfl <| rN <| tS <| tSR <| rF rfl rfl rfl <| rL rfl rfl .p0 rfl rfl <| bndE h fun v5 e2 h => r_callp rfl (Q_PropName_c e2) (CoL.refl _) rfl <| ARun.qv (q_not rfl) rfl <| rN <| ATodo.cond rfl (fun hc => ?_) (fun hc => ?_)
        · refine have h := iteT hc h; tSR <| rA rfl rfl <| rN <| ATodo.ret <| have h := outL h hA1; ?_
          obtain rfl := Option.some.inj h
          exact ImpX.here ⟨_, .cons (.tmp _ _ rfl) .nil, rfl⟩
        · refine have h := iteFb hc h; tK <| tS <| tSR <| rF rfl rfl rfl <| ARun.qv (n_load_ptr_part rfl rfl .p0 rfl rfl) rfl <| bndE h fun v6 e3 h => r_callp rfl (Q_ValueFault_c e3) (CoL.refl _) rfl <| rA rfl rfl <| rN <| tSR <| rM rfl rfl <| ARun.qv (q_neq rfl rfl) rfl <| rN <| ATodo.cond_d rfl (fun hc => ?_) (fun hc => ?_)
          · refine have h := iteT hc h; tSR <| rM rfl rfl <| rA rfl rfl <| rN <| ATodo.ret <| have h := outL h hA1; ?_
            obtain rfl := Option.some.inj h
            exact ImpX.here ⟨_, .cons (.tmp _ _ rfl) .nil, rfl⟩
          · refine have h := iteF hc h; tK <| ATodo.block <| tSR <| rF rfl rfl rfl <| rF rfl rfl rfl <| rL rfl rfl .p0 rfl rfl <| ARun.qv (q_eql rfl rfl) rfl <| rA rfl rfl <| rN <| ATodo.cond_d rfl (fun hc => ?_) (fun hc => ?_)
            · refine have h := iteT hc h; tSR <| rA rfl rfl <| rN <| ATodo.ret <| have h := outL h hA1; ?_
              obtain rfl := Option.some.inj h
              exact ImpX.here ⟨_, .cons (.tmp _ _ rfl) .nil, rfl⟩
            · refine have h := iteF hc h; tS <| ATodo.cut (fun σ' => ∃ (c7 : Bool), Q_PropsFault_j1 n2 c7 = some z1 ∧ σ' = ⟨58, [(0, .list 5 (p0x0.map PropS.av)), (11, .list 5 (p0x0.map PropS.av)), (12, I (p0x0.length : Int)), (13, I n2), (33, .bool c7)], []⟩) ?_ ?_
              · refine ATodo.regionM (id := 13) (A := [0, 1, 3, 7, 15, 7, 7, 71, 231, 487, 999, 2047, 4095, 8191]) 14 mixed rfl (by kernel_rfl) (by kernel_rfl) <| AM.qv (q_move rfl) rfl <| AM.qv (q_gtr rfl rfl) rfl <| AM.qv (q_move rfl) rfl <| AM.guard_dt rfl rfl rfl (fun hc => ?_) (fun hc => ?_)
                · exact have h := iteT hc h; AM.qv (n_field_ptr rfl rfl) rfl <| AM.guard_yes rfl rfl rfl <| AM.qv (q_load_ptr rfl rfl .p0 rfl) rfl <| AM.guard_yes rfl rfl rfl <| AM.qv (q_move rfl) rfl <| AM.guard_yes rfl rfl rfl <| AM.qv (q_move rfl) rfl <| AM.guard_yes rfl rfl rfl <| AM.qv (q_subw rfl rfl) rfl <| AM.guard_yes rfl rfl rfl <| bndE h fun v8 e4 h => AM.qv (t_index rfl rfl rfl e4 rfl rfl) rfl <| AM.guard_yes rfl rfl rfl <| AM.qv (n_field_rptr rfl rfl) rfl <| AM.guard_yes rfl rfl rfl <| AM.qv (q_load_rptr rfl rfl rfl) rfl <| AM.guard_yes rfl rfl rfl <| AM.qv (t_sleq rfl rfl) rfl <| AM.qv (q_pick_t rfl rfl) rfl <| AM.qv (q_assign rfl) rfl <| AM.nil <| rN <| ATodo.stop <| ImpX.lq [] ⟨Op.bytesLess v3.Name v8.Name || v3.Name == v8.Name, h, rfl⟩ rfl rfl
                · exact have h := iteF hc h; AM.guard_no rfl rfl rfl rfl <| AM.guard_no rfl rfl rfl rfl <| AM.guard_no rfl rfl rfl rfl <| AM.guard_no rfl rfl rfl rfl <| AM.guard_no rfl rfl rfl rfl <| AM.guard_no rfl rfl rfl rfl <| AM.guard_no rfl rfl rfl rfl <| AM.guard_no rfl rfl rfl rfl <| AM.qv (q_pick_f rfl rfl) rfl <| AM.qv (q_assign rfl) rfl <| AM.nil <| rN <| ATodo.stop <| ImpX.lq [] ⟨false, h, rfl⟩ rfl rfl
              · rintro σ' ⟨c7, h, rfl⟩
                unfold Q_PropsFault_j1 at h
                refine ATodo.cond rfl (fun hc => ?_) (fun hc => ?_)
                · refine have h := iteT hc h; tSR <| rA rfl rfl <| rN <| ATodo.ret <| have h := outL h hA1; ?_
                  obtain rfl := Option.some.inj h
                  exact ImpX.here ⟨_, .cons (.tmp _ _ rfl) .nil, rfl⟩
                · refine have h := iteFb hc h; tK <| ATodo.blk <| ATodo.blk <| tR <| ARun.qv (q_addw rfl rfl) rfl <| rM rfl rfl <| rN <| ATodo.stop <| ?_
                  obtain rfl := Option.some.inj h
                  exact hJ1 _ _ rfl <| ImpX.lq [] rfl rfl rfl
      · refine have h := iteF hc h; ATodo.exit rfl <| have h := outL h hA1; tS <| tSR <| rM rfl rfl <| ARun.qv (t_len rfl) rfl <| rM rfl rfl <| rN <| ATodo.block <| ATodo.loopI (fun x : Int => Q_PropsFault_b2 p0x0 x) (fun x σ' => σ' = ⟨58, [(0, .list 5 (p0x0.map PropS.av)), (48, .list 5 (p0x0.map PropS.av)), (49, I (p0x0.length : Int)), (50, I x)], []⟩) h ?_ ?_
        · exact ImpX.lq [] rfl rfl rfl
        · intro n10 z2 σ' J2 hmk h hJ2 hA2
          obtain rfl := hmk
          replace h : Q_PropsFault_b2 p0x0 n10 = some z2 := h
          unfold Q_PropsFault_b2 at h
          refine tSR <| ARun.qv (q_lss rfl rfl) rfl <| rN <| tS <| ATodo.cond_d rfl (fun hc => ?_) (fun hc => ?_)
          · refine have h := iteT hc h; tK <| tS <| ATodo.block <| tSR <| bndE h fun v11 e5 h => ARun.qv (t_index rfl rfl rfl e5 rfl rfl) rfl <| ARun.qv (q_load_rptr_agg rfl rfl rfl) rfl <| n_alloc rfl rfl rfl rfl fun b12 => n_store_ptr rfl rfl rfl rfl .p0 rfl rfl <| rN <| tSR <| rM rfl rfl <| ARun.qv (q_makeFunc rfl) rfl <| bndE h fun v13 e6 h => r_callpB rfl (slices_ContainsFunc_Prop_Prop_c (fun e => Q_PropsFault_1x_c e) e6) (.cons (.co (.refl _)) (.cons (.funcL _ _ _ (.cons (.boxL _ _ _ .p0 (.cons (.co (.refl _)) (.cons (.co (.refl _)) (.cons (.co (.refl _)) (.cons (.co (.refl _)) (.cons (.co (.refl _)) .nil)))))) .nil)) .nil)) rfl rfl <| rN <| ATodo.cond rfl (fun hc => ?_) (fun hc => ?_)
            · refine have h := iteT hc h; tSR <| rA rfl rfl <| rN <| ATodo.ret <| have h := outL h hA2; ?_
              obtain rfl := Option.some.inj h
              exact ImpX.here ⟨_, .cons (.tmp _ _ rfl) .nil, rfl⟩
            · refine have h := iteFb hc h; tK <| ATodo.blk <| tR <| ARun.qv (q_addw rfl rfl) rfl <| rM rfl rfl <| rN <| ATodo.stop <| ?_
              obtain rfl := Option.some.inj h
              exact hJ2 _ _ rfl <| ImpX.lq [] rfl rfl rfl
          · refine have h := iteF hc h; ATodo.exit rfl <| have h := outL h hA2; tSR <| rA rfl rfl <| rN <| ATodo.ret <| ?_
            obtain rfl := Option.some.inj h
            exact ImpX.here ⟨_, .cons (.tmp _ _ rfl) .nil, rfl⟩

set_option maxHeartbeats 4000000 in
theorem Stream_RightProps_c {b_0 : Bk} {p0x0 : Fleetmake_Stream} {r : (List PropS) × Fleetmake_Stream} (h : Stream_RightProps p0x0 = some r) : ACall Tryz.prog 42 [.ptr b_0 0] [(b_0, .cells [.list 1 (p0x0.L.map I), I p0x0.at_])] (T1 (fun d_0 => [(b_0, .cells [.list 1 (r.2.L.map I), I r.2.at_]), (d_0, .arr 5 (r.1.map PropS.av))]) (fun d_0 => .sl 5 d_0 0 r.1.length)) := by
  unfold Stream_RightProps at h
  refine ACall.lessH ?_
  refine ACall.bodyN Tryz.func42 rfl Tryz.ntmps42 Tryz.results42 rfl rfl ?_
  refine tSR <| rA rfl rfl <| rN <| tSR <| rA rfl rfl <| rN <| tS <| tSR <| rM rfl rfl <| bndE h fun v1 e1 h => t_call0 rfl (Stream_Range_c e1) (CoL.refl _) (.cons .p0 .nil) rfl rfl <| rM rfl rfl <| rN <| ATodo.block <| ATodo.loopI (fun x : (List Int) × Int × (List PropS) × Int => Stream_RightProps_b1 v1 x.1 x.2.1 x.2.2.1 x.2.2.2) (fun x σ' => ∃ (b9 : Bk), σ' = ⟨27, [(0, .ptr b_0 0), (3, .sl 5 b9 0 x.2.2.1.length), (6, I v1.1), (7, I x.2.2.2)], [(b_0, .cells [.list 1 (x.1.map I), I x.2.1]), (b9, .arr 5 (x.2.2.1.map PropS.av))]⟩) h ?_ ?_
  · exact ImpX.arr (s := 3) 5 rfl fun b12 => ImpX.lq [1, 0] ⟨b12, rfl⟩ rfl rfl
  · intro x z1 σ' J1 hmk h hJ1 hA1
    obtain ⟨l7, n8, l10, n11⟩ := x
    obtain ⟨b9, rfl⟩ := hmk
    replace h : Stream_RightProps_b1 v1 l7 n8 l10 n11 = some z1 := h
    unfold Stream_RightProps_b1 at h
    refine tSR <| ARun.qv (q_lss rfl rfl) rfl <| rN <| tS <| ATodo.cond_d rfl (fun hc => ?_) (fun hc => ?_)
    · refine have h := iteT hc h; tK <| tS <| ATodo.block <| tSR <| rM rfl rfl <| bndE h fun v13 e2 h => t_callL1 rfl (slices_Clone_Prop_Prop_c e2) .nil (.cons (CoB.arrT .p1) .nil) (fun _ => rfl) (fun _ => rfl) (fun _ => (.cons (NoS.arrT (fun _ => rfl)) .nil)) rfl fun b14 => rM rfl rfl <| n_buildSliceL (xs := ([([97] : Str), ([97, 46, 120] : Str), ([97, 46, 121] : Str), ([97, 46, 120, 46, 112] : Str), ([98] : Str), ([98, 46, 122] : Str), ([97, 98] : Str)]).map AV.str) rfl rfl rfl rfl rfl rfl <| bndE h fun v15 e3 h => t_call0 rfl (Stream_Some_c e3) (CoL.refl _) (.cons .p1 .nil) rfl rfl <| rM rfl rfl <| bndE h fun v16 e4 h => t_call0 rfl (Stream_RightValue_c e4) (CoL.refl _) (.cons .p0 .nil) rfl rfl <| ARun.qv (n_build rfl rfl rfl rfl rfl) rfl <| n_buildSliceL (xs := ([(⟨v15.1, v16.1⟩ : PropS)]).map PropS.av) rfl rfl rfl rfl rfl rfl <| bndE h fun l17 e5 h => t_append (g := PropS.av) rfl rfl rfl rfl rfl rfl rfl rfl (.list _) e5 (fun _ => .p1) rfl fun b18 => rA rfl rfl <| rN <| tSR <| rM rfl rfl <| bndE h fun v19 e6 h => t_call0 rfl (slices_SortFunc_Prop_Prop_c (fun e => propOrder_c (GI := strongT) (Option.some.inj e)) (lenOk_f e6)) (CoL.refl _) (.cons .p1 .nil) rfl rfl <| ARun.ghost <| ImpX.eqs (s := 4) (av' := .sl 5 b18 0 v19.length) rfl (congrArg (AV.sl 5 b18 0) (lenOk_l e6)) <| ImpX.here <| ARun.ghost <| ImpX.eqs (s := 18) (av' := .sl 5 b18 0 v19.length) rfl (congrArg (AV.sl 5 b18 0) (lenOk_l e6)) <| ImpX.here <| ARun.ghost <| ImpX.eqs (s := 19) (av' := .sl 5 b18 0 v19.length) rfl (congrArg (AV.sl 5 b18 0) (lenOk_l e6)) <| ImpX.here <| rN <| tSR <| rM rfl rfl <| bndE h fun v20 e7 h => r_callpB rfl (Q_PropsFault_c e7) (.cons (CoB.arrT .p0) .nil) rfl rfl <| ARun.qv (q_eql rfl rfl) rfl <| rN <| ATodo.cut (fun σ' => ∃ (b21 : Bk) (l22 : List PropS), Stream_RightProps_j1 n11 v16 l22 = some z1 ∧ σ' = ⟨27, [(0, .ptr b_0 0), (3, .sl 5 b21 0 l22.length), (6, I v1.1), (7, I n11)], [(b_0, .cells [.list 1 (v16.2.L.map I), I v16.2.at_]), (b21, .arr 5 (l22.map PropS.av))]⟩) ?_ ?_
      · refine ATodo.cond_d rfl (fun hc => ?_) (fun hc => ?_)
        · exact have h := iteT hc h; tR <| rM rfl rfl <| rA rfl rfl <| rN <| ATodo.stop <| ImpX.lq [1, 0] ⟨b18, v19, h, rfl⟩ rfl rfl
        · exact have h := iteF hc h; tK <| ATodo.stop <| ImpX.lq [1, 1] ⟨b9, l10, h, rfl⟩ rfl rfl
      · rintro σ' ⟨b21, l22, h, rfl⟩
        unfold Stream_RightProps_j1 at h
        refine ATodo.blk <| tR <| ARun.qv (q_addw rfl rfl) rfl <| rM rfl rfl <| rN <| ATodo.stop <| ?_
        obtain rfl := Option.some.inj h
        exact hJ1 _ _ rfl <| ImpX.lq [0, 0] ⟨b21, rfl⟩ rfl rfl
    · refine have h := iteF hc h; ATodo.exit rfl <| have h := outL h hA1; tSR <| rM rfl rfl <| rA rfl rfl <| rN <| ATodo.ret <| ?_
      obtain rfl := Option.some.inj h
      exact ImpX.here ⟨_, .cons (.tmp _ _ rfl) .nil, _, .cons .p0 (.cons .p0 .nil), ⟨b9, rfl, rfl⟩⟩

set_option maxHeartbeats 4000000 in
theorem Stream_PropName_c {b_0 : Bk} {p0x0 : Fleetmake_Stream} {r : Str × Fleetmake_Stream} (h : Stream_PropName p0x0 = some r) : ACall Tryz.prog 18 [.ptr b_0 0] [(b_0, .cells [.list 1 (p0x0.L.map I), I p0x0.at_])] (T0 ([(b_0, .cells [.list 1 (r.2.L.map I), I r.2.at_])]) (.str r.1)) := by
  unfold Stream_PropName at h
  refine ACall.lessH ?_
  refine ACall.bodyN Tryz.func18 rfl Tryz.ntmps18 Tryz.results18 rfl rfl ?_
  refine tSR <| rA rfl rfl <| rN <| tS <| tSR <| rM rfl rfl <| bndE h fun v1 e1 h => t_call0 rfl (Stream_Flip_c e1) (CoL.refl _) (.cons .p0 .nil) rfl rfl <| rN <| ATodo.cond rfl (fun hc => ?_) (fun hc => ?_)
  · refine have h := iteT hc h; tSR <| rM rfl rfl <| bndE h fun v2 e2 h => r_callp rfl (strings_Repeat_c e2) (CoL.refl _) rfl <| n_buildSliceL (xs := ([([] : Str), ([65] : Str), ([97, 46] : Str), ([46, 97] : Str), ([97, 46, 46, 98] : Str), ([97, 46, 98, 46, 99, 46, 100, 46, 101, 46, 102, 46, 103, 46, 104, 46, 105] : Str), ([97, 32, 98] : Str), v2]).map AV.str) rfl rfl rfl rfl rfl rfl <| bndE h fun v3 e3 h => t_call0 rfl (Stream_Some_c e3) (CoL.refl _) (.cons .p0 .nil) rfl rfl <| rA rfl rfl <| rN <| ATodo.ret <| ?_
    obtain rfl := Option.some.inj h
    exact ImpX.here ⟨_, .cons (.tmp _ _ rfl) .nil, _, .cons .p0 .nil, ⟨rfl, rfl⟩⟩
  · refine have h := iteFb hc h; tK <| tSR <| rM rfl rfl <| n_buildSliceL (xs := ([([97] : Str), ([97] : Str), ([97, 46, 120] : Str), ([97, 46, 120] : Str), ([97, 46, 121] : Str), ([97, 46, 120, 46, 112] : Str), ([98] : Str), ([98, 46, 122] : Str), ([97, 98] : Str), ([97, 45, 49] : Str)]).map AV.str) rfl rfl rfl rfl rfl rfl <| bndE h fun v4 e4 h => t_call0 rfl (Stream_Some_c e4) (CoL.refl _) (.cons .p0 .nil) rfl rfl <| rA rfl rfl <| rN <| ATodo.ret <| ?_
    obtain rfl := Option.some.inj h
    exact ImpX.here ⟨_, .cons (.tmp _ _ rfl) .nil, _, .cons .p0 .nil, ⟨rfl, rfl⟩⟩

set_option maxHeartbeats 4000000 in
theorem Stream_Odd_c [GI : GTab] {b_0 : Bk} {p0x0 : Fleetmake_Stream} {p1x0 : Int} {p2x0 : Int} {r : Int × Fleetmake_Stream} (h : Stream_Odd p0x0 p1x0 p2x0 = some r) : ACall Tryz.prog 90 [.ptr b_0 0, I p1x0, I p2x0] [(b_0, .cells [.list 1 (p0x0.L.map I), I p0x0.at_])] (T0 ([(b_0, .cells [.list 1 (r.2.L.map I), I r.2.at_])]) (I r.1)) := by
  unfold Stream_Odd at h
  refine ACall.lessH ?_
  refine ACall.bodyN Tryz.func90 rfl Tryz.ntmps90 Tryz.results90 rfl rfl ?_
  refine tSR <| rA rfl rfl <| rN <| tS <| tSR <| rM rfl rfl <| bndE h fun v1 e1 h => t_call0 rfl (Stream_Flip_c e1) (CoL.refl _) (.cons .p0 .nil) rfl rfl <| rN <| ATodo.cond rfl (fun hc => ?_) (fun hc => ?_)
  · refine have h := iteT hc h; tSR <| rM rfl rfl <| rM rfl rfl <| ARun.qv (q_subw rfl rfl) rfl <| rM rfl rfl <| ARun.qv (q_addw rfl rfl) rfl <| rM rfl rfl <| rM rfl rfl <| n_buildSliceL (xs := ([w64 (p1x0 - (1 : Int)), w64 (p2x0 + (1 : Int)), p1x0, p2x0, (-1099511627776 : Int), (1099511627776 : Int)]).map I) rfl rfl rfl rfl rfl rfl <| bndE h fun v2 e2 h => t_call0 rfl (Stream_Pick_c e2) (CoL.refl _) (.cons .p0 .nil) rfl rfl <| rA rfl rfl <| rN <| ATodo.ret <| ?_
    obtain rfl := Option.some.inj h
    exact ImpX.here ⟨_, .cons (.tmp _ _ rfl) .nil, _, .cons .p0 .nil, ⟨rfl, rfl⟩⟩
  · refine have h := iteFb hc h; tK <| tSR <| rM rfl rfl <| rM rfl rfl <| rM rfl rfl <| bndE h fun v3 e3 h => t_call0 rfl (Stream_Range_c e3) (CoL.refl _) (.cons .p0 .nil) rfl rfl <| rA rfl rfl <| rN <| ATodo.ret <| ?_
    obtain rfl := Option.some.inj h
    exact ImpX.here ⟨_, .cons (.tmp _ _ rfl) .nil, _, .cons .p0 .nil, ⟨rfl, rfl⟩⟩

set_option maxHeartbeats 4000000 in
theorem Stream_Value_c {b_0 : Bk} {p0x0 : Fleetmake_Stream} {r : ValueS × Fleetmake_Stream} (h : Stream_Value p0x0 = some r) : ACall Tryz.prog 43 [.ptr b_0 0] [(b_0, .cells [.list 1 (p0x0.L.map I), I p0x0.at_])] (T0 ([(b_0, .cells [.list 1 (r.2.L.map I), I r.2.at_])]) (.agg [I r.1.Kind, .bool r.1.Flag, I r.1.Number, .str r.1.Words])) := by
  unfold Stream_Value at h
  refine ACall.lessH ?_
  refine ACall.bodyN Tryz.func43 rfl Tryz.ntmps43 Tryz.results43 rfl rfl ?_
  refine tSR <| n_alloc rfl rfl rfl rfl fun b1 => rN <| tSR <| rM rfl rfl <| bndE h fun v2 e1 h => t_call0 rfl (Stream_RightValue_c e1) (CoL.refl _) (.cons .p1 .nil) rfl rfl <| n_alloc rfl rfl rfl rfl fun b3 => n_store_ptr rfl rfl rfl rfl .p0 rfl rfl <| rN <| tS <| tSR <| rM rfl rfl <| bndE h fun v4 e2 h => t_call0 rfl (Stream_Flip_c e2) (CoL.refl _) (.cons .p1 .nil) rfl rfl <| rN <| ATodo.cond rfl (fun hc => ?_) (fun hc => ?_)
  · refine have h := iteT hc h; tSR <| ARun.qv (n_build rfl rfl rfl rfl rfl) rfl <| n_store_ptr rfl rfl rfl rfl .p2 rfl rfl <| rN <| ATodo.ret <| ?_
    obtain rfl := Option.some.inj h
    exact ImpX.here ⟨_, .cons (.all _ _ _ _ _ _ rfl .p2 TUnder.h TInfo.h rfl rfl) .nil, _, .cons .p0 .nil, ⟨rfl, rfl⟩⟩
  · refine have h := iteFb hc h; tK <| tS <| tSR <| rM rfl rfl <| bndE h fun v5 e3 h => t_call0 rfl (Stream_Flip_c e3) (CoL.refl _) (.cons .p0 .nil) rfl rfl <| rN <| ATodo.cut (fun σ' => ∃ (l6 : List Int) (n7 : Int) (n8 : Int) (c9 : Bool) (n10 : Int) (q11 : Str), Stream_Value_j1 l6 n7 n8 c9 n10 q11 = some r ∧ σ' = ⟨39, [(2, .ptr b1 0), (3, .ptr b3 0)], [(b_0, .cells [.list 1 (l6.map I), I n7]), (b1, .cells [I (0 : Int), .bool false, I (0 : Int), .str []]), (b3, .cells [I n8, .bool c9, I n10, .str q11])]⟩) ?_ ?_
    · refine ATodo.cond rfl (fun hc => ?_) (fun hc => ?_)
      · refine have h := iteT hc h; tSR <| rM rfl rfl <| bndE h fun v12 e4 h => t_call0 rfl (Stream_Next_c e4) (CoL.refl _) (.cons .p0 .nil) rfl rfl <| rN <| ATodo.block <| tSR <| ARun.qv (q_eql rfl rfl) rfl <| rA rfl rfl <| rN <| ATodo.cut (fun σ' => ∃ (l13 : List Int) (n14 : Int) (n15 : Int) (c16 : Bool) (n17 : Int) (q18 : Str), Stream_Value_j2 l13 n14 n15 c16 n17 q18 = some r ∧ σ' = ⟨39, [(2, .ptr b1 0), (3, .ptr b3 0)], [(b_0, .cells [.list 1 (l13.map I), I n14]), (b1, .cells [I (0 : Int), .bool false, I (0 : Int), .str []]), (b3, .cells [I n15, .bool c16, I n17, .str q18])]⟩) ?_ ?_
        · refine ATodo.cond_d rfl (fun hc => ?_) (fun hc => ?_)
          · exact have h := iteT hc h; tR <| rM rfl rfl <| n_buildSliceL (xs := ([(-1 : Int), (4 : Int), (0 : Int)]).map I) rfl rfl rfl rfl rfl rfl <| bndE h fun v19 e5 h => t_call0 rfl (Stream_Pick_c e5) (CoL.refl _) (.cons .p0 .nil) rfl rfl <| rF rfl rfl rfl <| n_store_ptr rfl rfl rfl rfl .p1 rfl rfl <| rN <| ATodo.stop <| ImpX.lq [0, 1, 0] ⟨v19.2.L, v19.2.at_, v19.1, v2.1.Flag, v2.1.Number, v2.1.Words, h, rfl⟩ rfl rfl
          · refine have h := iteF hc h; tSR <| ARun.qv (q_eql rfl rfl) rfl <| rA rfl rfl <| rN <| ATodo.cut (fun σ' => ∃ (l20 : List Int) (n21 : Int) (n22 : Int) (c23 : Bool) (n24 : Int) (q25 : Str), Stream_Value_j3 l20 n21 n22 c23 n24 q25 = some r ∧ σ' = ⟨39, [(2, .ptr b1 0), (3, .ptr b3 0)], [(b_0, .cells [.list 1 (l20.map I), I n21]), (b1, .cells [I (0 : Int), .bool false, I (0 : Int), .str []]), (b3, .cells [I n22, .bool c23, I n24, .str q25])]⟩) ?_ ?_
            · refine ATodo.cond_d rfl (fun hc => ?_) (fun hc => ?_)
              · exact have h := iteT hc h; tR <| rF rfl rfl rfl <| rL rfl rfl .p1 rfl rfl <| ARun.qv (q_not rfl) rfl <| rF rfl rfl rfl <| n_store_ptr rfl rfl rfl rfl .p1 rfl rfl <| rN <| ATodo.stop <| ImpX.lq [0, 1, 0] ⟨v12.2.L, v12.2.at_, v2.1.Kind, !v2.1.Flag, v2.1.Number, v2.1.Words, h, rfl⟩ rfl rfl
              · refine have h := iteF hc h; tSR <| ARun.qv (q_eql rfl rfl) rfl <| rA rfl rfl <| rN <| ATodo.cut (fun σ' => ∃ (l26 : List Int) (n27 : Int) (n28 : Int) (c29 : Bool) (n30 : Int) (q31 : Str), Stream_Value_j4 l26 n27 n28 c29 n30 q31 = some r ∧ σ' = ⟨39, [(2, .ptr b1 0), (3, .ptr b3 0)], [(b_0, .cells [.list 1 (l26.map I), I n27]), (b1, .cells [I (0 : Int), .bool false, I (0 : Int), .str []]), (b3, .cells [I n28, .bool c29, I n30, .str q31])]⟩) ?_ ?_
                · refine ATodo.cond_d rfl (fun hc => ?_) (fun hc => ?_)
                  · exact have h := iteT hc h; tR <| rM rfl rfl <| bndE h fun v32 e6 h => t_call0 rfl (Stream_Odd_c e6) (CoL.refl _) (.cons .p0 .nil) rfl rfl <| rF rfl rfl rfl <| n_store_ptr rfl rfl rfl rfl .p1 rfl rfl <| rN <| ATodo.stop <| ImpX.lq [0, 1, 0] ⟨v32.2.L, v32.2.at_, v2.1.Kind, v2.1.Flag, v32.1, v2.1.Words, h, rfl⟩ rfl rfl
                  · refine have h := iteF hc h; tSR <| ARun.qv (q_eql rfl rfl) rfl <| rA rfl rfl <| rN <| ATodo.cut (fun σ' => ∃ (l33 : List Int) (n34 : Int) (n35 : Int) (c36 : Bool) (n37 : Int) (q38 : Str), Stream_Value_j5 l33 n34 n35 c36 n37 q38 = some r ∧ σ' = ⟨39, [(2, .ptr b1 0), (3, .ptr b3 0)], [(b_0, .cells [.list 1 (l33.map I), I n34]), (b1, .cells [I (0 : Int), .bool false, I (0 : Int), .str []]), (b3, .cells [I n35, .bool c36, I n37, .str q38])]⟩) ?_ ?_
                    · refine ATodo.cond_d rfl (fun hc => ?_) (fun hc => ?_)
                      · exact have h := iteT hc h; tR <| rM rfl rfl <| bndE h fun v39 e7 h => r_callp rfl (strings_Repeat_c e7) (CoL.refl _) rfl <| n_buildSliceL (xs := ([([10] : Str), ([127] : Str), ([255] : Str), v39]).map AV.str) rfl rfl rfl rfl rfl rfl <| bndE h fun v40 e8 h => t_call0 rfl (Stream_Some_c e8) (CoL.refl _) (.cons .p0 .nil) rfl rfl <| ARun.qv (n_build rfl rfl rfl rfl rfl) rfl <| n_store_ptr rfl rfl rfl rfl .p1 rfl rfl <| rN <| ATodo.stop <| ImpX.lq [0, 1, 0] ⟨v40.2.L, v40.2.at_, (3 : Int), false, (0 : Int), v40.1, h, rfl⟩ rfl rfl
                      · exact have h := iteF hc h; tR <| rF rfl rfl rfl <| n_store_ptr rfl rfl rfl rfl .p1 rfl rfl <| rN <| ATodo.stop <| ImpX.lq [0, 1, 0] ⟨v12.2.L, v12.2.at_, v2.1.Kind, v2.1.Flag, v2.1.Number, ([122] : Str), h, rfl⟩ rfl rfl
                    · rintro σ' ⟨l33, n34, n35, c36, n37, q38, h, rfl⟩
                      unfold Stream_Value_j5 at h
                      exact ATodo.stop <| ImpX.lq [0, 0, 0] ⟨l33, n34, n35, c36, n37, q38, h, rfl⟩ rfl rfl
                · rintro σ' ⟨l26, n27, n28, c29, n30, q31, h, rfl⟩
                  unfold Stream_Value_j4 at h
                  exact ATodo.stop <| ImpX.lq [0, 0, 0] ⟨l26, n27, n28, c29, n30, q31, h, rfl⟩ rfl rfl
            · rintro σ' ⟨l20, n21, n22, c23, n24, q25, h, rfl⟩
              unfold Stream_Value_j3 at h
              exact ATodo.stop <| ImpX.lq [0, 0, 0] ⟨l20, n21, n22, c23, n24, q25, h, rfl⟩ rfl rfl
        · rintro σ' ⟨l13, n14, n15, c16, n17, q18, h, rfl⟩
          unfold Stream_Value_j2 at h
          exact ATodo.blk <| ATodo.stop <| ImpX.lq [0, 0, 0] ⟨l13, n14, n15, c16, n17, q18, h, rfl⟩ rfl rfl
      · exact have h := iteFb hc h; tK <| ATodo.stop <| ImpX.lq [0, 1, 0] ⟨v5.2.L, v5.2.at_, v2.1.Kind, v2.1.Flag, v2.1.Number, v2.1.Words, h, rfl⟩ rfl rfl
    · rintro σ' ⟨l6, n7, n8, c9, n10, q11, h, rfl⟩
      unfold Stream_Value_j1 at h
      refine tSR <| ARun.qv (q_load_ptr_all rfl rfl .p2 rfl) rfl <| n_store_ptr rfl rfl rfl rfl .p1 rfl rfl <| rN <| ATodo.ret <| ?_
      obtain rfl := Option.some.inj h
      exact ImpX.here ⟨_, .cons (.all _ _ _ _ _ _ rfl .p1 TUnder.h TInfo.h rfl rfl) .nil, _, .cons .p0 .nil, ⟨rfl, rfl⟩⟩

set_option maxHeartbeats 4000000 in
theorem Stream_Props_c {b_0 : Bk} {p0x0 : Fleetmake_Stream} {r : (List PropS) × Fleetmake_Stream} (h : Stream_Props p0x0 = some r) : ACall Tryz.prog 7 [.ptr b_0 0] [(b_0, .cells [.list 1 (p0x0.L.map I), I p0x0.at_])] (T0 ([(b_0, .cells [.list 1 (r.2.L.map I), I r.2.at_])]) (.list 5 (r.1.map PropS.av))) := by
  unfold Stream_Props at h
  refine ACall.lessH ?_
  refine ACall.bodyN Tryz.func7 rfl Tryz.ntmps7 Tryz.results7 rfl rfl ?_
  refine tSR <| rA rfl rfl <| rN <| tSR <| rM rfl rfl <| bndE h fun v1 e1 h => t_call1 rfl (Stream_RightProps_c e1) (CoL.refl _) (.cons .p0 .nil) (fun _ => rfl) rfl fun b2 => rA rfl rfl <| rN <| tS <| tSR <| rM rfl rfl <| bndE h fun v3 e2 h => t_call0 rfl (Stream_Flip_c e2) (CoL.refl _) (.cons .p0 .nil) rfl rfl <| rN <| ATodo.cut (fun σ' => ∃ (b6 : Bk) (l4 : List Int) (n5 : Int) (l7 : List PropS), Stream_Props_j1 l4 n5 l7 = some r ∧ σ' = ⟨21, [(3, .sl 5 b6 0 l7.length)], [(b_0, .cells [.list 1 (l4.map I), I n5]), (b6, .arr 5 (l7.map PropS.av))]⟩) ?_ ?_
  · refine ATodo.cond rfl (fun hc => ?_) (fun hc => ?_)
    · refine have h := iteT hc h; tSR <| rM rfl rfl <| rM rfl rfl <| bndE h fun v8 e3 h => t_call0 rfl (Stream_PropName_c e3) (CoL.refl _) (.cons .p0 .nil) rfl rfl <| rM rfl rfl <| bndE h fun v9 e4 h => t_call0 rfl (Stream_Value_c e4) (CoL.refl _) (.cons .p0 .nil) rfl rfl <| ARun.qv (n_build rfl rfl rfl rfl rfl) rfl <| n_buildSliceL (xs := ([(⟨v8.1, v9.1⟩ : PropS)]).map PropS.av) rfl rfl rfl rfl rfl rfl <| bndE h fun l10 e5 h => t_append (g := PropS.av) rfl rfl rfl rfl rfl rfl rfl rfl (.list _) e5 (fun _ => .p1) rfl fun b11 => rA rfl rfl <| rN <| tSR <| rM rfl rfl <| bndE h fun v12 e6 h => t_call0 rfl (Stream_Flip_c e6) (CoL.refl _) (.cons .p0 .nil) rfl rfl <| rN <| ATodo.cut (fun σ' => ∃ (l13 : List PropS), Stream_Props_j2 v12 l13 = some r ∧ σ' = ⟨21, [(3, .sl 5 b11 0 l13.length)], [(b_0, .cells [.list 1 (v12.2.L.map I), I v12.2.at_]), (b11, .arr 5 (l13.map PropS.av))]⟩) ?_ ?_
      · refine ATodo.cond rfl (fun hc => ?_) (fun hc => ?_)
        · exact have h := iteT hc h; tR <| rM rfl rfl <| bndE h fun v14 e7 h => t_call0 rfl (slices_SortFunc_Prop_Prop_c (fun e => propOrder_c (GI := strongT) (Option.some.inj e)) (lenOk_f e7)) (CoL.refl _) (.cons .p1 .nil) rfl rfl <| ARun.ghost <| ImpX.eqs (s := 3) (av' := .sl 5 b11 0 v14.length) rfl (congrArg (AV.sl 5 b11 0) (lenOk_l e7)) <| ImpX.here <| ARun.ghost <| ImpX.eqs (s := 15) (av' := .sl 5 b11 0 v14.length) rfl (congrArg (AV.sl 5 b11 0) (lenOk_l e7)) <| ImpX.here <| ARun.ghost <| ImpX.eqs (s := 18) (av' := .sl 5 b11 0 v14.length) rfl (congrArg (AV.sl 5 b11 0) (lenOk_l e7)) <| ImpX.here <| rN <| ATodo.stop <| ImpX.lq [1, 0] ⟨v14, h, rfl⟩ rfl rfl
        · exact have h := iteFb hc h; tK <| ATodo.stop <| ImpX.lq [0, 0] ⟨l10, h, rfl⟩ rfl rfl
      · rintro σ' ⟨l13, h, rfl⟩
        unfold Stream_Props_j2 at h
        exact ATodo.stop <| ImpX.lq [0, 0] ⟨b11, v12.2.L, v12.2.at_, l13, h, rfl⟩ rfl rfl
    · exact have h := iteFb hc h; tK <| ATodo.stop <| ImpX.lq [0, 0] ⟨b2, v3.2.L, v3.2.at_, v1.1, h, rfl⟩ rfl rfl
  · rintro σ' ⟨b6, l4, n5, l7, h, rfl⟩
    unfold Stream_Props_j1 at h
    refine tSR <| rM rfl rfl <| rA rfl rfl <| rN <| ATodo.ret <| ?_
    obtain rfl := Option.some.inj h
    exact ImpX.freeze .p1 <| ImpX.co (s := 2) rfl (Co.froT .p1) <| ImpX.here ⟨_, .cons (.tmp _ _ rfl) .nil, _, .cons .p0 .nil, ⟨rfl, rfl⟩⟩

set_option maxHeartbeats 4000000 in
theorem slices_Sort_string_string_k : Sort1 Tryz.prog 99 (fun l => Value.string ⟨l.toArray⟩) srtS := ⟨fun blk off cap zs w hH hb hs => Tryz.slices_Sort_string blk off cap zs w hH hb hs, fun p cap w => Tryz.slices_Sort_string_none p cap w⟩
theorem slices_Sort_string_string_c [GI : GTab] {b_0 : Bk} {p0x0 : List Str} {r : (List Str)} (h : slices_Sort_string_string p0x0 = some r) : ACall Tryz.prog 99 [.sl 1 b_0 0 p0x0.length] [(b_0, .arr 1 (p0x0.map AV.str))] (T0 [(b_0, .arr 1 (r.map AV.str))] (.tup [])) :=
  sort1_acall slices_Sort_string_string_k (g := AV.str) (fun h => h.str_inv) (fun w S x => .str _) (fun _ => rfl) (fun xs => List.length_mergeSort _) (fun _ => rfl) h

set_option maxHeartbeats 4000000 in
theorem slices_Compact_string_string_c [GI : GTab] {b_0 : Bk} {p0x0 : List Str} {r : (List Str)} (h : slices_Compact_string_string p0x0 = some r) : ACall Tryz.prog 100 [.sl 1 b_0 0 p0x0.length] [(b_0, .arr 1 (p0x0.map AV.str))] (T1 (fun d_0 => [(d_0, .arr 1 (r.map AV.str))]) (fun d_0 => .sl 1 d_0 0 r.length)) := by
  unfold slices_Compact_string_string at h
  refine ACall.lessH ?_
  refine ACall.bodyN Tryz.func100 rfl Tryz.ntmps100 Tryz.results100 rfl rfl ?_
  refine tSR <| rA rfl rfl <| rN <| tS <| tSR <| rM rfl rfl <| ARun.qv (t_len_sl rfl) rfl <| ARun.qv (q_lss rfl rfl) rfl <| rN <| ATodo.cond_d rfl (fun hc => ?_) (fun hc => ?_)
  · refine have h := iteT hc h; tSR <| rM rfl rfl <| rA rfl rfl <| rN <| ATodo.ret <| ?_
    obtain rfl := Option.some.inj h
    exact ImpX.here ⟨_, .cons (.tmp _ _ rfl) .nil, _, .cons .p0 .nil, ⟨b_0, rfl, rfl⟩⟩
  · refine have h := iteF hc h; tK <| tS <| tSR <| rA rfl rfl <| rN <| ATodo.block <| ATodo.loopI (fun x : Int => slices_Compact_string_string_b1 p0x0 x) (fun x σ' => σ' = ⟨61, [(0, .sl 1 b_0 0 p0x0.length), (3, I x)], [(b_0, .arr 1 (p0x0.map AV.str))]⟩) h ?_ ?_
    · exact ImpX.lq [0] rfl rfl rfl
    · intro n2 z1 σ' J1 hmk h hJ1 hA1
      obtain rfl := hmk
      replace h : slices_Compact_string_string_b1 p0x0 n2 = some z1 := h
      unfold slices_Compact_string_string_b1 at h
      refine tS <| tSR <| rM rfl rfl <| rM rfl rfl <| ARun.qv (t_len_sl rfl) rfl <| ARun.qv (q_lss rfl rfl) rfl <| rN <| ATodo.cond_d rfl (fun hc => ?_) (fun hc => ?_)
      · refine have h := iteT hc h; tK <| tS <| ATodo.block <| tS <| ATodo.regionM (id := 6) (A := [0, 0, 3, 7, 0, 0, 32, 112, 240, 511]) 10 mixed rfl (by kernel_rfl) (by kernel_rfl) <| AM.qv (q_move rfl) rfl <| AM.qv (q_move rfl) rfl <| bndE h fun v3 e1 h => AM.qv (t_index_sl rfl rfl rfl e1) rfl <| AM.qv (t_load_aptr (g := AV.str) rfl rfl (.inl .p0) e1 rfl) rfl <| AM.qv (q_move rfl) rfl <| AM.qv (q_move rfl) rfl <| AM.qv (q_subw rfl rfl) rfl <| bndE h fun v4 e2 h => AM.qv (t_index_sl rfl rfl rfl e2) rfl <| AM.qv (t_load_aptr (g := AV.str) rfl rfl (.inl .p0) e2 rfl) rfl <| AM.qv (q_seq rfl rfl) rfl <| AM.nil <| rN <| ATodo.cond_d rfl (fun hc => ?_) (fun hc => ?_)
        · refine have h := iteT hc h; tSR <| rM rfl rfl <| rM rfl rfl <| bndE h fun l5 e3 h => ARun.qv (t_slice_sl rfl rfl (.some _ _ _ rfl) .none rfl rfl e3) rfl <| rA rfl rfl <| rN <| tS <| tSR <| rA rfl rfl <| rN <| ATodo.block <| ATodo.loopI (fun x : (List Str) × Int × Int => slices_Compact_string_string_b2 n2 l5 x.1 x.2.1 x.2.2) (fun x σ' => σ' = ⟨61, [(0, .sl 1 b_0 0 x.1.length), (3, I x.2.1), (4, .sl 1 b_0 n2.toNat l5.length), (5, I x.2.2)], [(b_0, .arr 1 (x.1.map AV.str))]⟩) h ?_ ?_
          · exact ImpX.lq [0] rfl rfl rfl
          · intro x z2 σ' J2 hmk h hJ2 hA2
            obtain ⟨l9, n10, n11⟩ := x
            obtain rfl := hmk
            replace h : slices_Compact_string_string_b2 n2 l5 l9 n10 n11 = some z2 := h
            unfold slices_Compact_string_string_b2 at h
            refine tS <| tSR <| rM rfl rfl <| rM rfl rfl <| ARun.qv (t_len_sub rfl) rfl <| ARun.qv (q_lss rfl rfl) rfl <| rN <| ATodo.cond_d rfl (fun hc => ?_) (fun hc => ?_)
            · refine have h := iteT hc h; tK <| tS <| ATodo.block <| tS <| ATodo.regionM (id := 11) (A := [0, 0, 3, 7, 0, 0, 32, 112, 240, 511]) 10 mixed rfl (by kernel_rfl) (by kernel_rfl) <| AM.qv (q_move rfl) rfl <| AM.qv (q_move rfl) rfl <| bndE h fun v12 e4 h => AM.qv (t_index_sub (L := n2) rfl rfl rfl e4) rfl <| AM.qv (t_load_aptr (g := AV.str) rfl rfl (.inl .p0) (idxS_some e4).2 rfl) rfl <| AM.qv (q_move rfl) rfl <| AM.qv (q_move rfl) rfl <| AM.qv (q_subw rfl rfl) rfl <| bndE h fun v13 e5 h => AM.qv (t_index_sub (L := n2) rfl rfl rfl e5) rfl <| AM.qv (t_load_aptr (g := AV.str) rfl rfl (.inl .p0) (idxS_some e5).2 rfl) rfl <| AM.qv (q_sne rfl rfl) rfl <| AM.nil <| rN <| ATodo.cut (fun σ' => ∃ (l14 : List Str) (n15 : Int), slices_Compact_string_string_j1 n11 l14 n15 = some z2 ∧ σ' = ⟨61, [(0, .sl 1 b_0 0 l14.length), (3, I n15), (4, .sl 1 b_0 n2.toNat l5.length), (5, I n11)], [(b_0, .arr 1 (l14.map AV.str))]⟩) ?_ ?_
              · refine ATodo.cond_d rfl (fun hc => ?_) (fun hc => ?_)
                · exact have h := iteT hc h; tSR <| rM rfl rfl <| rM rfl rfl <| rM rfl rfl <| rM rfl rfl <| bndE h fun v16 e6 h => ARun.qv (t_index_sub (L := n2) rfl rfl rfl e6) rfl <| ARun.qv (t_load_aptr (g := AV.str) rfl rfl (.inl .p0) (idxS_some e6).2 rfl) rfl <| bndE h fun v17 e7 h => ARun.qv (t_index_sl rfl rfl rfl e7) rfl <| t_store_aptr1 (g := AV.str) (el' := v16) rfl rfl rfl rfl e7 rfl .p0 rfl <| ARun.ghost <| ImpX.eqs (s := 0) (av' := .sl 1 b_0 0 (l9.set n10.toNat v16).length) rfl (by rw [List.length_set]) <| ImpX.here <| ARun.ghost <| ImpX.eqs (s := 45) (av' := .sl 1 b_0 0 (l9.set n10.toNat v16).length) rfl (by rw [List.length_set]) <| ImpX.here <| rN <| tR <| rM rfl rfl <| ARun.qv (q_addw rfl rfl) rfl <| rA rfl rfl <| rN <| ATodo.stop <| ImpX.lq [0] ⟨l9.set n10.toNat v16, w64 (n10 + (1 : Int)), h, rfl⟩ rfl rfl
                · exact have h := iteF hc h; tK <| ATodo.stop <| ImpX.lq [0] ⟨l9, n10, h, rfl⟩ rfl rfl
              · rintro σ' ⟨l14, n15, h, rfl⟩
                unfold slices_Compact_string_string_j1 at h
                refine ATodo.blk <| tR <| rM rfl rfl <| ARun.qv (q_addw rfl rfl) rfl <| rA rfl rfl <| rN <| ATodo.stop <| ?_
                obtain rfl := Option.some.inj h
                exact hJ2 _ _ rfl <| ImpX.lq [0] rfl rfl rfl
            · refine have h := iteF hc h; ATodo.exit rfl <| have h := outL h hA2; ?_
              unfold slices_Compact_string_string_k2 at h
              refine tSR <| rM rfl rfl <| rM rfl rfl <| bndE h fun l18 e8 h => ARun.qv (t_slice_sl rfl rfl (.some _ _ _ rfl) .none rfl rfl e8) rfl <| t_clear (g := AV.str) (Z := []) (L := n10) rfl rfl rfl rfl rfl rfl e8 .p0 <| ARun.ghost <| ImpX.eqs (s := 0) (av' := .sl 1 b_0 0 (clr l9 n10 l18.length []).length) rfl (congrArg (AV.sl 1 b_0 0) (clr_len e8)) <| ImpX.here <| ARun.ghost <| ImpX.eqs (s := 54) (av' := .sl 1 b_0 0 (clr l9 n10 l18.length []).length) rfl (congrArg (AV.sl 1 b_0 0) (clr_len e8)) <| ImpX.here <| rN <| tSR <| rM rfl rfl <| rM rfl rfl <| bndE h fun l19 e9 h => ARun.qv (t_slice_sl rfl rfl .none (.some _ _ _ rfl) rfl rfl e9) rfl <| rA rfl rfl <| ARun.ghost <| ImpX.takeT e9 .p0 <| ImpX.here <| rN <| ATodo.ret <| have h := outL h hA1; ?_
              obtain rfl := Option.some.inj h
              exact ImpX.here ⟨_, .cons (.tmp _ _ rfl) .nil, _, .cons .p0 .nil, ⟨b_0, rfl, rfl⟩⟩
        · refine have h := iteF hc h; tK <| ATodo.blk <| tR <| rM rfl rfl <| ARun.qv (q_addw rfl rfl) rfl <| rA rfl rfl <| rN <| ATodo.stop <| ?_
          obtain rfl := Option.some.inj h
          exact hJ1 _ _ rfl <| ImpX.lq [0] rfl rfl rfl
      · refine have h := iteF hc h; ATodo.exit rfl <| have h := outL h hA1; tSR <| rM rfl rfl <| rA rfl rfl <| rN <| ATodo.ret <| ?_
        obtain rfl := Option.some.inj h
        exact ImpX.here ⟨_, .cons (.tmp _ _ rfl) .nil, _, .cons .p0 .nil, ⟨b_0, rfl, rfl⟩⟩

set_option maxHeartbeats 4000000 in
theorem Q_namesOf_c [GI : GTab] {p0x0 : List (List PropS)} {r : (List Str)} (h : Q_namesOf p0x0 = some r) : ACall Tryz.prog 55 [.list 1 (p0x0.map (encL 5 PropS.av))] [] (T1 (fun d_0 => [(d_0, .arr 1 (r.map AV.str))]) (fun d_0 => .sl 1 d_0 0 r.length)) := by
  unfold Q_namesOf at h
  refine ACall.lessH ?_
  refine ACall.bodyN Tryz.func55 rfl Tryz.ntmps55 Tryz.results55 rfl rfl ?_
  refine tSR <| rA rfl rfl <| rN <| tSR <| rA rfl rfl <| rN <| tS <| tSR <| rM rfl rfl <| ARun.qv (t_len rfl) rfl <| rM rfl rfl <| rN <| ATodo.block <| ATodo.loopI (fun x : (List Str) × Int => Q_namesOf_b1 p0x0 x.1 x.2) (fun x σ' => ∃ (b4 : Bk), σ' = ⟨31, [(3, .sl 1 b4 0 x.1.length), (8, .list 1 (p0x0.map (encL 5 PropS.av))), (9, I (p0x0.length : Int)), (10, I x.2)], [(b4, .arr 1 (x.1.map AV.str))]⟩) h ?_ ?_
  · exact ImpX.arr (s := 3) 1 rfl fun b7 => ImpX.lq [0] ⟨b7, rfl⟩ rfl rfl
  · intro x z1 σ' J1 hmk h hJ1 hA1
    obtain ⟨l5, n6⟩ := x
    obtain ⟨b4, rfl⟩ := hmk
    replace h : Q_namesOf_b1 p0x0 l5 n6 = some z1 := h
    unfold Q_namesOf_b1 at h
    refine tSR <| ARun.qv (q_lss rfl rfl) rfl <| rN <| tS <| ATodo.cond_d rfl (fun hc => ?_) (fun hc => ?_)
    · refine have h := iteT hc h; tK <| tS <| ATodo.block <| tSR <| bndE h fun v8 e1 h => ARun.qv (t_index rfl rfl rfl e1 rfl rfl) rfl <| ARun.qv (q_load_rptr rfl rfl rfl) rfl <| rA rfl rfl <| rN <| tSR <| rM rfl rfl <| ARun.qv (t_len rfl) rfl <| rM rfl rfl <| rN <| ATodo.block <| ATodo.loopI (fun x : (List Str) × Int => Q_namesOf_b2 n6 v8 x.1 x.2) (fun x σ' => ∃ (b12 : Bk), σ' = ⟨31, [(3, .sl 1 b12 0 x.1.length), (8, .list 1 (p0x0.map (encL 5 PropS.av))), (9, I (p0x0.length : Int)), (10, I n6), (14, .list 5 (v8.map PropS.av)), (15, I (v8.length : Int)), (16, I x.2)], [(b12, .arr 1 (x.1.map AV.str))]⟩) h ?_ ?_
      · exact ImpX.lq [0] ⟨b4, rfl⟩ rfl rfl
      · intro x z2 σ' J2 hmk h hJ2 hA2
        obtain ⟨l13, n14⟩ := x
        obtain ⟨b12, rfl⟩ := hmk
        replace h : Q_namesOf_b2 n6 v8 l13 n14 = some z2 := h
        unfold Q_namesOf_b2 at h
        refine tSR <| ARun.qv (q_lss rfl rfl) rfl <| rN <| tS <| ATodo.cond_d rfl (fun hc => ?_) (fun hc => ?_)
        · refine have h := iteT hc h; tK <| tS <| ATodo.block <| tSR <| bndE h fun v15 e2 h => ARun.qv (t_index rfl rfl rfl e2 rfl rfl) rfl <| ARun.qv (q_load_rptr_agg rfl rfl rfl) rfl <| n_alloc rfl rfl rfl rfl fun b16 => n_store_ptr rfl rfl rfl rfl .p0 rfl rfl <| rN <| tR <| rM rfl rfl <| rF rfl rfl rfl <| rL rfl rfl .p0 rfl rfl <| n_buildSliceL (xs := ([v15.Name] : List Str).map AV.str) rfl rfl rfl rfl rfl rfl <| bndE h fun l17 e3 h => t_append (g := AV.str) rfl rfl rfl rfl rfl rfl rfl rfl (.list _) e3 (fun _ => .p1) rfl fun b18 => rA rfl rfl <| rN <| ATodo.blk <| tR <| ARun.qv (q_addw rfl rfl) rfl <| rM rfl rfl <| rN <| ATodo.stop <| ?_
          obtain rfl := Option.some.inj h
          exact hJ2 _ _ rfl <| ImpX.lq [1] ⟨b18, rfl⟩ rfl rfl
        · refine have h := iteF hc h; ATodo.exit rfl <| have h := outL h hA2; ATodo.blk <| tR <| ARun.qv (q_addw rfl rfl) rfl <| rM rfl rfl <| rN <| ATodo.stop <| ?_
          obtain rfl := Option.some.inj h
          exact hJ1 _ _ rfl <| ImpX.lq [0] ⟨b12, rfl⟩ rfl rfl
    · refine have h := iteF hc h; ATodo.exit rfl <| have h := outL h hA1; ?_
      unfold Q_namesOf_k1 at h
      refine tSR <| rM rfl rfl <| bndE h fun v19 e4 h => t_call0 rfl (slices_Sort_string_string_c (lenOk_f e4)) (CoL.refl _) (.cons .p0 .nil) rfl rfl <| ARun.ghost <| ImpX.eqs (s := 3) (av' := .sl 1 b4 0 v19.length) rfl (congrArg (AV.sl 1 b4 0) (lenOk_l e4)) <| ImpX.here <| ARun.ghost <| ImpX.eqs (s := 27) (av' := .sl 1 b4 0 v19.length) rfl (congrArg (AV.sl 1 b4 0) (lenOk_l e4)) <| ImpX.here <| rN <| tSR <| rM rfl rfl <| bndE h fun v20 e5 h => t_call1 rfl (slices_Compact_string_string_c e5) (CoL.refl _) (.cons .p0 .nil) (fun _ => rfl) rfl fun b21 => rA rfl rfl <| rN <| ATodo.ret <| ?_
      obtain rfl := Option.some.inj h
      exact ImpX.here ⟨_, .cons (.tmp _ _ rfl) .nil, _, .cons .p0 .nil, ⟨b21, rfl, rfl⟩⟩

set_option maxHeartbeats 4000000 in
theorem Q_ValueOf_c [GI : GTab] {p0x0 : List PropS} {p1x0 : Str} {r : ValueS} (h : Q_ValueOf p0x0 p1x0 = some r) : Pu Tryz.prog 24 [.list 5 (p0x0.map PropS.av), .str p1x0] (.agg [I r.Kind, .bool r.Flag, I r.Number, .str r.Words]) := by
  unfold Q_ValueOf at h
  refine ACall.bodyN Tryz.func24 rfl Tryz.ntmps24 Tryz.results24 rfl rfl ?_
  refine tSR <| n_alloc rfl rfl rfl rfl fun b1 => rN <| tS <| tSR <| rM rfl rfl <| ARun.qv (t_len rfl) rfl <| rM rfl rfl <| rN <| ATodo.block <| ATodo.loopI (fun x : Int => Q_ValueOf_b1 p0x0 p1x0 x) (fun x σ' => σ' = ⟨21, [(1, .str p1x0), (4, .ptr b1 0), (7, .list 5 (p0x0.map PropS.av)), (8, I (p0x0.length : Int)), (9, I x)], [(b1, .cells [I (0 : Int), .bool false, I (0 : Int), .str []])]⟩) h ?_ ?_
  · exact ImpX.lq [0] rfl rfl rfl
  · intro n3 z1 σ' J1 hmk h hJ1 hA1
    obtain rfl := hmk
    replace h : Q_ValueOf_b1 p0x0 p1x0 n3 = some z1 := h
    unfold Q_ValueOf_b1 at h
    refine tSR <| ARun.qv (q_lss rfl rfl) rfl <| rN <| tS <| ATodo.cond_d rfl (fun hc => ?_) (fun hc => ?_)
    · refine have h := iteT hc h; tK <| tS <| ATodo.block <| tSR <| bndE h fun v4 e1 h => ARun.qv (t_index rfl rfl rfl e1 rfl rfl) rfl <| ARun.qv (q_load_rptr_agg rfl rfl rfl) rfl <| n_alloc rfl rfl rfl rfl fun b5 => n_store_ptr rfl rfl rfl rfl .p0 rfl rfl <| rN <| tSR <| rF rfl rfl rfl <| rL rfl rfl .p0 rfl rfl <| rM rfl rfl <| ARun.qv (q_seq rfl rfl) rfl <| rN <| ATodo.cond_d rfl (fun hc => ?_) (fun hc => ?_)
      · refine have h := iteT hc h; tSR <| rF rfl rfl rfl <| ARun.qv (n_load_ptr_part rfl rfl .p0 rfl rfl) rfl <| n_store_ptr rfl rfl rfl rfl .p1 rfl rfl <| rN <| ATodo.ret <| have h := outL h hA1; ?_
        obtain rfl := Option.some.inj h
        exact ImpX.here ⟨_, .cons (.all _ _ _ _ _ _ rfl .p1 TUnder.h TInfo.h rfl rfl) .nil, rfl⟩
      · refine have h := iteF hc h; tK <| ATodo.blk <| tR <| ARun.qv (q_addw rfl rfl) rfl <| rM rfl rfl <| rN <| ATodo.stop <| ?_
        obtain rfl := Option.some.inj h
        exact hJ1 _ _ rfl <| ImpX.lq [1] rfl rfl rfl
    · refine have h := iteF hc h; ATodo.exit rfl <| have h := outL h hA1; tSR <| ARun.qv (n_build rfl rfl rfl rfl rfl) rfl <| n_store_ptr rfl rfl rfl rfl .p0 rfl rfl <| rN <| ATodo.ret <| ?_
      obtain rfl := Option.some.inj h
      exact ImpX.here ⟨_, .cons (.all _ _ _ _ _ _ rfl .p0 TUnder.h TInfo.h rfl rfl) .nil, rfl⟩

set_option maxHeartbeats 4000000 in
theorem Q_DifferOf_c [GI : GTab] {p0x0 : List PropS} {p1x0 : List PropS} {r : (List Change)} (h : Q_DifferOf p0x0 p1x0 = some r) : ACall Tryz.prog 31 [.list 5 (p0x0.map PropS.av), .list 5 (p1x0.map PropS.av)] [] (T1 (fun d_0 => [(d_0, .arr 9 (r.map Change.av))]) (fun d_0 => .sl 9 d_0 0 r.length)) := by
  unfold Q_DifferOf at h
  refine ACall.lessH ?_
  refine ACall.bodyN Tryz.func31 rfl Tryz.ntmps31 Tryz.results31 rfl rfl ?_
  refine tSR <| rA rfl rfl <| rN <| tSR <| rA rfl rfl <| rN <| tS <| tSR <| rM rfl rfl <| rM rfl rfl <| n_buildSliceL (xs := ([p0x0, p1x0] : List (List PropS)).map (encL 5 PropS.av)) rfl rfl rfl rfl rfl rfl <| bndE h fun v1 e1 h => t_call1 rfl (Q_namesOf_c e1) (CoL.refl _) .nil (fun _ => rfl) rfl fun b2 => ARun.qv (t_len_sl rfl) rfl <| rM rfl rfl <| rN <| ATodo.block <| ATodo.loopI (fun x : (List Change) × Int => Q_DifferOf_b1 p0x0 p1x0 v1 x.1 x.2) (fun x σ' => ∃ (b6 : Bk), σ' = ⟨37, [(0, .list 5 (p0x0.map PropS.av)), (1, .list 5 (p1x0.map PropS.av)), (5, .sl 9 b6 0 x.1.length), (13, .sl 1 b2 0 v1.length), (14, I (v1.length : Int)), (15, I x.2)], [(b6, .arr 9 (x.1.map Change.av)), (b2, .arr 1 (v1.map AV.str))]⟩) h ?_ ?_
  · exact ImpX.arr (s := 5) 9 rfl fun b9 => ImpX.lq [0, 0] ⟨b9, rfl⟩ rfl rfl
  · intro x z1 σ' J1 hmk h hJ1 hA1
    obtain ⟨l7, n8⟩ := x
    obtain ⟨b6, rfl⟩ := hmk
    replace h : Q_DifferOf_b1 p0x0 p1x0 v1 l7 n8 = some z1 := h
    unfold Q_DifferOf_b1 at h
    refine tSR <| ARun.qv (q_lss rfl rfl) rfl <| rN <| tS <| ATodo.cond_d rfl (fun hc => ?_) (fun hc => ?_)
    · refine have h := iteT hc h; tK <| tS <| ATodo.block <| tSR <| bndE h fun v10 e2 h => ARun.qv (t_index_sl rfl rfl rfl e2) rfl <| ARun.qv (t_load_aptr (g := AV.str) rfl rfl (.inl .p1) e2 rfl) rfl <| rA rfl rfl <| rN <| tSR <| rM rfl rfl <| rM rfl rfl <| bndE h fun v11 e3 h => r_callp rfl (Q_ValueOf_c e3) (CoL.refl _) rfl <| rM rfl rfl <| rM rfl rfl <| bndE h fun v12 e4 h => r_callp rfl (Q_ValueOf_c e4) (CoL.refl _) rfl <| n_alloc rfl rfl rfl rfl fun b13 => n_alloc rfl rfl rfl rfl fun b14 => n_store_ptr rfl rfl rfl rfl .p1 rfl rfl <| n_store_ptr rfl rfl rfl rfl .p0 rfl rfl <| rN <| tSR <| ARun.qv (q_load_ptr_all rfl rfl .p1 rfl) rfl <| ARun.qv (q_load_ptr_all rfl rfl .p0 rfl) rfl <| ARun.qv (t_tne (g := ValueS.av) (X := v11) (Y := v12) rfl rfl rfl rfl rfl) rfl <| rN <| ATodo.cut (fun σ' => ∃ (b15 : Bk) (l16 : List Change), Q_DifferOf_j1 n8 l16 = some z1 ∧ σ' = ⟨37, [(0, .list 5 (p0x0.map PropS.av)), (1, .list 5 (p1x0.map PropS.av)), (5, .sl 9 b15 0 l16.length), (13, .sl 1 b2 0 v1.length), (14, I (v1.length : Int)), (15, I n8)], [(b15, .arr 9 (l16.map Change.av)), (b2, .arr 1 (v1.map AV.str))]⟩) ?_ ?_
      · refine ATodo.cond_d rfl (fun hc => ?_) (fun hc => ?_)
        · exact have h := iteT hc h; tR <| rM rfl rfl <| rM rfl rfl <| ARun.qv (q_load_ptr_all rfl rfl .p1 rfl) rfl <| ARun.qv (q_load_ptr_all rfl rfl .p0 rfl) rfl <| ARun.qv (n_build rfl rfl rfl rfl rfl) rfl <| n_buildSliceL (xs := ([(⟨v10, v11, v12⟩ : Change)]).map Change.av) rfl rfl rfl rfl rfl rfl <| bndE h fun l17 e5 h => t_append (g := Change.av) rfl rfl rfl rfl rfl rfl rfl rfl (.list _) e5 (fun _ => .p2) rfl fun b18 => rA rfl rfl <| rN <| ATodo.stop <| ImpX.lq [2, 2] ⟨b18, l17, h, rfl⟩ rfl rfl
        · exact have h := iteF hc h; tK <| ATodo.stop <| ImpX.lq [2, 2] ⟨b6, l7, h, rfl⟩ rfl rfl
      · rintro σ' ⟨b15, l16, h, rfl⟩
        unfold Q_DifferOf_j1 at h
        refine ATodo.blk <| tR <| ARun.qv (q_addw rfl rfl) rfl <| rM rfl rfl <| rN <| ATodo.stop <| ?_
        obtain rfl := Option.some.inj h
        exact hJ1 _ _ rfl <| ImpX.lq [0, 0] ⟨b15, rfl⟩ rfl rfl
    · refine have h := iteF hc h; ATodo.exit rfl <| have h := outL h hA1; tSR <| rM rfl rfl <| rA rfl rfl <| rN <| ATodo.ret <| ?_
      obtain rfl := Option.some.inj h
      exact ImpX.here ⟨_, .cons (.tmp _ _ rfl) .nil, _, .cons .p0 .nil, ⟨b6, rfl, rfl⟩⟩

set_option maxHeartbeats 4000000 in
theorem Stream_Changes_c {b_0 : Bk} {p0x0 : Fleetmake_Stream} {p1x0 : List PropS} {r : (List Change) × Fleetmake_Stream} (h : Stream_Changes p0x0 p1x0 = some r) : ACall Tryz.prog 9 [.ptr b_0 0, .list 5 (p1x0.map PropS.av)] [(b_0, .cells [.list 1 (p0x0.L.map I), I p0x0.at_])] (T1 (fun d_0 => [(b_0, .cells [.list 1 (r.2.L.map I), I r.2.at_]), (d_0, .arr 9 (r.1.map Change.av))]) (fun d_0 => .sl 9 d_0 0 r.1.length)) := by
  unfold Stream_Changes at h
  refine ACall.lessH ?_
  refine ACall.bodyN Tryz.func9 rfl Tryz.ntmps9 Tryz.results9 rfl rfl ?_
  refine tSR <| rA rfl rfl <| rN <| tSR <| rM rfl rfl <| rM rfl rfl <| bndE h fun v1 e1 h => t_call1 rfl (Stream_RightProps_c e1) (CoL.refl _) (.cons .p0 .nil) (fun _ => rfl) rfl fun b2 => bndE h fun v3 e2 h => t_callL1 rfl (Q_DifferOf_c e2) .nil (.cons (.co (.refl _)) (.cons (CoB.arrT .p1) .nil)) (fun _ => rfl) (fun _ => rfl) (fun _ => (.cons (NoS.arrT (fun _ => rfl)) .nil)) rfl fun b4 => rA rfl rfl <| rN <| tS <| tS <| ATodo.cut (fun σ' => ∃ (l5 : List Int) (n6 : Int) (c7 : Bool), Stream_Changes_j1 v3 l5 n6 c7 = some r ∧ σ' = ⟨55, [(0, .ptr b_0 0), (5, .sl 9 b4 0 v3.length), (17, .bool c7)], [(b_0, .cells [.list 1 (l5.map I), I n6]), (b4, .arr 9 (v3.map Change.av))]⟩) ?_ ?_
  · refine tR <| rM rfl rfl <| ARun.qv (t_len_sl rfl) rfl <| ARun.qv (q_gtr rfl rfl) rfl <| rM rfl rfl <| ARun.guard_dt rfl rfl rfl (fun hc => ?_) (fun hc => ?_)
    · exact have h := iteT hc h; rM rfl rfl <| rY rfl rfl rfl <| bndE h fun v8 e3 h => t_call0 rfl (Stream_Flip_c e3) (CoL.refl _) (.cons .p1 .nil) rfl rfl <| rT rfl rfl rfl <| rN <| ATodo.stop <| ImpX.lq [0, 0] ⟨v8.2.L, v8.2.at_, v8.1, h, rfl⟩ rfl rfl
    · exact have h := iteF hc h; rG rfl rfl rfl rfl <| rE rfl rfl rfl <| rN <| ATodo.stop <| ImpX.lq [1, 0] ⟨v1.2.L, v1.2.at_, false, h, rfl⟩ rfl rfl
  · rintro σ' ⟨l5, n6, c7, h, rfl⟩
    unfold Stream_Changes_j1 at h
    refine ATodo.cut (fun σ' => ∃ (l9 : List Int) (n10 : Int) (l11 : List Change), Stream_Changes_j2 l9 n10 l11 = some r ∧ σ' = ⟨55, [(5, .sl 9 b4 0 l11.length)], [(b_0, .cells [.list 1 (l9.map I), I n10]), (b4, .arr 9 (l11.map Change.av))]⟩) ?_ ?_
    · refine ATodo.cond rfl (fun hc => ?_) (fun hc => ?_)
      · refine have h := iteT hc h; tSR <| rM rfl rfl <| rM rfl rfl <| rM rfl rfl <| ARun.qv (t_len_sl rfl) rfl <| bndE h fun v12 e4 h => t_call0 rfl (Stream_Next_c e4) (CoL.refl _) (.cons .p0 .nil) rfl rfl <| bndE h fun v13 e5 h => ARun.qv (t_index_sl rfl rfl rfl e5) rfl <| rA rfl rfl <| rN <| tSR <| rM rfl rfl <| bndE h fun v14 e6 h => t_call0 rfl (Stream_Next_c e6) (CoL.refl _) (.cons .p0 .nil) rfl rfl <| rN <| ATodo.block <| tSR <| ARun.qv (q_eql rfl rfl) rfl <| rA rfl rfl <| rN <| ATodo.cut (fun σ' => ∃ (l15 : List Int) (n16 : Int) (l17 : List Change), Stream_Changes_j3 l15 n16 l17 = some r ∧ σ' = ⟨55, [(5, .sl 9 b4 0 l17.length)], [(b_0, .cells [.list 1 (l15.map I), I n16]), (b4, .arr 9 (l17.map Change.av))]⟩) ?_ ?_
        · refine ATodo.cond_d rfl (fun hc => ?_) (fun hc => ?_)
          · exact have h := iteT hc h; tR <| rM rfl rfl <| rM rfl rfl <| bndE h fun v18 e7 h => t_call0 rfl (Stream_PropName_c e7) (CoL.refl _) (.cons .p0 .nil) rfl rfl <| ARun.qv (q_nilCheck_aptr rfl) rfl <| ARun.qv (t_field_aptr rfl rfl) rfl <| t_store_aptr1 (g := Change.av) (el' := (⟨v18.1, v13.From, v13.To⟩ : Change)) rfl rfl rfl rfl e5 rfl .p1 rfl <| ARun.ghost <| ImpX.eqs (s := 5) (av' := .sl 9 b4 0 (v3.set v12.1.toNat (⟨v18.1, v13.From, v13.To⟩ : Change)).length) rfl (by rw [List.length_set]) <| ImpX.here <| ARun.ghost <| ImpX.eqs (s := 18) (av' := .sl 9 b4 0 (v3.set v12.1.toNat (⟨v18.1, v13.From, v13.To⟩ : Change)).length) rfl (by rw [List.length_set]) <| ImpX.here <| ARun.ghost <| ImpX.eqs (s := 20) (av' := .sl 9 b4 0 (v3.set v12.1.toNat (⟨v18.1, v13.From, v13.To⟩ : Change)).length) rfl (by rw [List.length_set]) <| ImpX.here <| rN <| ATodo.stop <| ImpX.lq [0, 0] ⟨v18.2.L, v18.2.at_, v3.set v12.1.toNat (⟨v18.1, v13.From, v13.To⟩ : Change), h, rfl⟩ rfl rfl
          · refine have h := iteF hc h; tSR <| ARun.qv (q_eql rfl rfl) rfl <| rA rfl rfl <| rN <| ATodo.cut (fun σ' => ∃ (l19 : List Int) (n20 : Int) (l21 : List Change), Stream_Changes_j4 l19 n20 l21 = some r ∧ σ' = ⟨55, [(5, .sl 9 b4 0 l21.length)], [(b_0, .cells [.list 1 (l19.map I), I n20]), (b4, .arr 9 (l21.map Change.av))]⟩) ?_ ?_
            · refine ATodo.cond_d rfl (fun hc => ?_) (fun hc => ?_)
              · exact have h := iteT hc h; tR <| rM rfl rfl <| rM rfl rfl <| bndE h fun v22 e8 h => t_call0 rfl (Stream_Value_c e8) (CoL.refl _) (.cons .p0 .nil) rfl rfl <| ARun.qv (q_nilCheck_aptr rfl) rfl <| ARun.qv (t_field_aptr rfl rfl) rfl <| t_store_aptr1 (g := Change.av) (el' := (⟨v13.Name, v22.1, v13.To⟩ : Change)) rfl rfl rfl rfl e5 rfl .p1 rfl <| ARun.ghost <| ImpX.eqs (s := 5) (av' := .sl 9 b4 0 (v3.set v12.1.toNat (⟨v13.Name, v22.1, v13.To⟩ : Change)).length) rfl (by rw [List.length_set]) <| ImpX.here <| ARun.ghost <| ImpX.eqs (s := 18) (av' := .sl 9 b4 0 (v3.set v12.1.toNat (⟨v13.Name, v22.1, v13.To⟩ : Change)).length) rfl (by rw [List.length_set]) <| ImpX.here <| ARun.ghost <| ImpX.eqs (s := 20) (av' := .sl 9 b4 0 (v3.set v12.1.toNat (⟨v13.Name, v22.1, v13.To⟩ : Change)).length) rfl (by rw [List.length_set]) <| ImpX.here <| rN <| ATodo.stop <| ImpX.lq [0, 0] ⟨v22.2.L, v22.2.at_, v3.set v12.1.toNat (⟨v13.Name, v22.1, v13.To⟩ : Change), h, rfl⟩ rfl rfl
              · refine have h := iteF hc h; tSR <| ARun.qv (q_eql rfl rfl) rfl <| rA rfl rfl <| rN <| ATodo.cut (fun σ' => ∃ (l23 : List Int) (n24 : Int) (l25 : List Change), Stream_Changes_j5 l23 n24 l25 = some r ∧ σ' = ⟨55, [(5, .sl 9 b4 0 l25.length)], [(b_0, .cells [.list 1 (l23.map I), I n24]), (b4, .arr 9 (l25.map Change.av))]⟩) ?_ ?_
                · refine ATodo.cond_d rfl (fun hc => ?_) (fun hc => ?_)
                  · exact have h := iteT hc h; tR <| rM rfl rfl <| rM rfl rfl <| bndE h fun v26 e9 h => t_call0 rfl (Stream_Value_c e9) (CoL.refl _) (.cons .p0 .nil) rfl rfl <| ARun.qv (q_nilCheck_aptr rfl) rfl <| ARun.qv (t_field_aptr rfl rfl) rfl <| t_store_aptr1 (g := Change.av) (el' := (⟨v13.Name, v13.From, v26.1⟩ : Change)) rfl rfl rfl rfl e5 rfl .p1 rfl <| ARun.ghost <| ImpX.eqs (s := 5) (av' := .sl 9 b4 0 (v3.set v12.1.toNat (⟨v13.Name, v13.From, v26.1⟩ : Change)).length) rfl (by rw [List.length_set]) <| ImpX.here <| ARun.ghost <| ImpX.eqs (s := 18) (av' := .sl 9 b4 0 (v3.set v12.1.toNat (⟨v13.Name, v13.From, v26.1⟩ : Change)).length) rfl (by rw [List.length_set]) <| ImpX.here <| ARun.ghost <| ImpX.eqs (s := 20) (av' := .sl 9 b4 0 (v3.set v12.1.toNat (⟨v13.Name, v13.From, v26.1⟩ : Change)).length) rfl (by rw [List.length_set]) <| ImpX.here <| rN <| ATodo.stop <| ImpX.lq [0, 0] ⟨v26.2.L, v26.2.at_, v3.set v12.1.toNat (⟨v13.Name, v13.From, v26.1⟩ : Change), h, rfl⟩ rfl rfl
                  · exact have h := iteF hc h; tR <| rM rfl rfl <| rM rfl rfl <| ARun.qv (q_nilCheck_aptr rfl) rfl <| ARun.qv (t_field_aptr rfl rfl) rfl <| ARun.qv (t_load_aptr_part (g := Change.av) rfl rfl (.inl .p1) e5 rfl rfl) rfl <| ARun.qv (q_nilCheck_aptr rfl) rfl <| ARun.qv (t_field_aptr rfl rfl) rfl <| t_store_aptr1 (g := Change.av) (el' := (⟨v13.Name, v13.To, v13.To⟩ : Change)) rfl rfl rfl rfl e5 rfl .p1 rfl <| ARun.ghost <| ImpX.eqs (s := 5) (av' := .sl 9 b4 0 (v3.set v12.1.toNat (⟨v13.Name, v13.To, v13.To⟩ : Change)).length) rfl (by rw [List.length_set]) <| ImpX.here <| ARun.ghost <| ImpX.eqs (s := 18) (av' := .sl 9 b4 0 (v3.set v12.1.toNat (⟨v13.Name, v13.To, v13.To⟩ : Change)).length) rfl (by rw [List.length_set]) <| ImpX.here <| ARun.ghost <| ImpX.eqs (s := 20) (av' := .sl 9 b4 0 (v3.set v12.1.toNat (⟨v13.Name, v13.To, v13.To⟩ : Change)).length) rfl (by rw [List.length_set]) <| ImpX.here <| rN <| ATodo.stop <| ImpX.lq [0, 0] ⟨v14.2.L, v14.2.at_, v3.set v12.1.toNat (⟨v13.Name, v13.To, v13.To⟩ : Change), h, rfl⟩ rfl rfl
                · rintro σ' ⟨l23, n24, l25, h, rfl⟩
                  unfold Stream_Changes_j5 at h
                  exact ATodo.stop <| ImpX.lq [0, 0] ⟨l23, n24, l25, h, rfl⟩ rfl rfl
            · rintro σ' ⟨l19, n20, l21, h, rfl⟩
              unfold Stream_Changes_j4 at h
              exact ATodo.stop <| ImpX.lq [0, 0] ⟨l19, n20, l21, h, rfl⟩ rfl rfl
        · rintro σ' ⟨l15, n16, l17, h, rfl⟩
          unfold Stream_Changes_j3 at h
          exact ATodo.blk <| ATodo.stop <| ImpX.lq [0, 0] ⟨l15, n16, l17, h, rfl⟩ rfl rfl
      · exact have h := iteFb hc h; tK <| ATodo.stop <| ImpX.lq [0, 0] ⟨l5, n6, v3, h, rfl⟩ rfl rfl
    · rintro σ' ⟨l9, n10, l11, h, rfl⟩
      unfold Stream_Changes_j2 at h
      refine tSR <| rM rfl rfl <| rA rfl rfl <| rN <| ATodo.ret <| ?_
      obtain rfl := Option.some.inj h
      exact ImpX.here ⟨_, .cons (.tmp _ _ rfl) .nil, _, .cons .p0 (.cons .p0 .nil), ⟨b4, rfl, rfl⟩⟩

set_option maxHeartbeats 4000000 in
theorem Q_fromValues_1x_c [GI : GTab] {p0x0 : PropS} {p1x0 : PropS} {r : Int} (h : Q_fromValues_1x p0x0 p1x0 = r) : Pu Tryz.prog 93 [.agg [.str p0x0.Name, I p0x0.Value.Kind, .bool p0x0.Value.Flag, I p0x0.Value.Number, .str p0x0.Value.Words], .agg [.str p1x0.Name, I p1x0.Value.Kind, .bool p1x0.Value.Flag, I p1x0.Value.Number, .str p1x0.Value.Words]] (I r) := by
  unfold Q_fromValues_1x at h
  refine ACall.bodyN Tryz.func93 rfl Tryz.ntmps93 Tryz.results93 rfl rfl ?_
  refine tSR <| n_box rfl rfl rfl rfl fun b1 => n_box rfl rfl rfl rfl fun b2 => rA rfl rfl <| rN <| tSR <| rF rfl rfl rfl <| rL rfl rfl .p1 rfl rfl <| rF rfl rfl rfl <| rL rfl rfl .p0 rfl rfl <| r_callp rfl (strings_Compare_c rfl) (CoL.refl _) rfl <| rA rfl rfl <| rN <| ATodo.ret <| ?_
  obtain rfl := h
  exact ImpX.here ⟨_, .cons (.tmp _ _ rfl) .nil, rfl⟩

set_option maxHeartbeats 4000000 in
theorem Q_fromValues_c {b_0 : Bk} {p0x0 : List (Str × ValueS)} {r : (List PropS) × Int} (h : Q_fromValues p0x0 = some r) : ACall Tryz.prog 46 [.mref b_0] [(b_0, .mp (p0x0.map (fun e => (AV.str e.1, ValueS.av e.2))))] (T1 (fun d_0 => [(b_0, .mp (p0x0.map (fun e => (AV.str e.1, ValueS.av e.2)))), (d_0, .arr 5 (r.1.map PropS.av))]) (fun d_0 => .tup [.sl 5 d_0 0 r.1.length, I r.2])) := by
  unfold Q_fromValues at h
  refine ACall.lessH ?_
  refine ACall.bodyN Tryz.func46 rfl Tryz.ntmps46 Tryz.results46 rfl rfl ?_
  refine tSR <| rA rfl rfl <| rA rfl rfl <| rN <| tSR <| rA rfl rfl <| rN <| tS <| tSR <| rM rfl rfl <| t_range (M := p0x0) (enc := (fun e => (AV.str e.1, ValueS.av e.2))) rfl (fun _ _ => .p0) rfl fun b1 Le1 ce1 hLe1 hIe1 => rN <| ATodo.block <| ATodo.loopMap (fun e (x : (List PropS)) => Q_fromValues_b1 e x) (fun x : (List PropS) => Q_fromValues_f1 x) (fun R x σ' => ∃ (b4 : Bk) (s1m : List Nat), MIter Le1 ce1 s1m (R.map (fun e => (AV.str e.1, ValueS.av e.2))) ∧ σ' = ⟨32, [(4, .sl 5 b4 0 x.length), (9, .ptr b1 0)], [(b_0, .mpb Le1 ce1), (b1, .mit b_0 ce1 s1m), (b4, .arr 5 (x.map PropS.av))]⟩) h ?_ ?_
  · exact ImpX.arr (s := 4) 5 rfl fun b6 => ImpX.lq [2, 1, 0] ⟨b6, [], hIe1, rfl⟩ rfl rfl
  · intro R1 l5 σ' J1 hmk hH1 hK1
    obtain ⟨b4, s1m, hI1m, rfl⟩ := hmk
    refine tSR <| t_next rfl hI1m .p0 (fun _ => .p1) rfl (fun hN => ?_) (fun v1m R' sv1m hP hlen hIv1m hCv1m => ?_)
    · have h := nilL hH1 hN
      replace h : Q_fromValues_f1 l5 = _ := h
      unfold Q_fromValues_f1 at h
      refine ARun.ghost <| ImpX.mpDone hLe1 .p0 <| ImpX.here <| rX rfl rfl rfl <| rN <| tS <| ATodo.cond_f rfl <| ATodo.exit rfl <| tSR <| rM rfl rfl <| bndE h fun v7 e2 h => t_call0 rfl (slices_SortFunc_Prop_Prop_c (fun e => Q_fromValues_1x_c (GI := strongT) (Option.some.inj e)) (lenOk_f e2)) (CoL.refl _) (.cons .p2 .nil) rfl rfl <| ARun.ghost <| ImpX.eqs (s := 4) (av' := .sl 5 b4 0 v7.length) rfl (congrArg (AV.sl 5 b4 0) (lenOk_l e2)) <| ImpX.here <| ARun.ghost <| ImpX.eqs (s := 24) (av' := .sl 5 b4 0 v7.length) rfl (congrArg (AV.sl 5 b4 0) (lenOk_l e2)) <| ImpX.here <| rN <| tS <| tSR <| rM rfl rfl <| bndE h fun v8 e3 h => r_callpB rfl (Q_PropsFault_c e3) (.cons (CoB.arrT .p0) .nil) rfl rfl <| rA rfl rfl <| rN <| tSR <| rM rfl rfl <| ARun.qv (q_neq rfl rfl) rfl <| rN <| ATodo.cond_d rfl (fun hc => ?_) (fun hc => ?_)
      · refine have h := iteT hc h; tSR <| rM rfl rfl <| rA rfl rfl <| rA rfl rfl <| rN <| ATodo.ret <| ?_
        obtain rfl := Option.some.inj h
        exact ImpX.arr (s := 2) 5 rfl fun b9 => ImpX.here ⟨_, .cons (.tmp _ _ rfl) (.cons (.tmp _ _ rfl) .nil), _, .cons .p2 (.cons .p0 .nil), ⟨b9, rfl, rfl⟩⟩
      · refine have h := iteF hc h; tK <| tSR <| rM rfl rfl <| rA rfl rfl <| rA rfl rfl <| rN <| ATodo.ret <| ?_
        obtain rfl := Option.some.inj h
        exact ImpX.here ⟨_, .cons (.tmp _ _ rfl) (.cons (.tmp _ _ rfl) .nil), _, .cons .p1 (.cons .p0 .nil), ⟨b4, rfl, rfl⟩⟩
    · obtain ⟨z1, h, hN1, hA1⟩ := stepL hH1 hP
      replace h : Q_fromValues_b1 v1m l5 = some z1 := h
      unfold Q_fromValues_b1 at h
      have hJ1 := fun y σ' (e : z1 = .inl y) hi => hK1 R' y σ' hlen (hN1 y e) hi
      clear hN1 hP hK1 hH1
      refine rX rfl rfl rfl <| rN <| tS <| ATodo.cond_t rfl <| tK <| ATodo.block <| tSR <| ARun.qv (t_entry rfl .p1 .p0 hCv1m rfl rfl) rfl <| rX rfl rfl rfl <| rX rfl rfl rfl <| n_alloc rfl rfl rfl rfl fun b10 => rA rfl rfl <| n_store_ptr rfl rfl rfl rfl .p0 rfl rfl <| rN <| tSR <| rF rfl rfl rfl <| rL rfl rfl .p0 rfl rfl <| ARun.qv (q_neq rfl rfl) rfl <| rN <| ATodo.cut (fun σ' => ∃ (b11 : Bk) (l12 : List PropS), Q_fromValues_j1 l12 = some z1 ∧ σ' = ⟨32, [(4, .sl 5 b11 0 l12.length), (9, .ptr b1 0)], [(b_0, .mpb Le1 ce1), (b11, .arr 5 (l12.map PropS.av)), (b1, .mit b_0 ce1 sv1m)]⟩) ?_ ?_
      · refine ATodo.cond_d rfl (fun hc => ?_) (fun hc => ?_)
        · exact have h := iteT hc h; tR <| rM rfl rfl <| rM rfl rfl <| ARun.qv (q_load_ptr_all rfl rfl .p0 rfl) rfl <| ARun.qv (n_build rfl rfl rfl rfl rfl) rfl <| n_buildSliceL (xs := ([(⟨v1m.1, v1m.2⟩ : PropS)]).map PropS.av) rfl rfl rfl rfl rfl rfl <| bndE h fun l13 e4 h => t_append (g := PropS.av) rfl rfl rfl rfl rfl rfl rfl rfl (.list _) e4 (fun _ => .p3) rfl fun b14 => rA rfl rfl <| rN <| ATodo.stop <| ImpX.lq [1, 2, 1] ⟨b14, l13, h, rfl⟩ rfl rfl
        · exact have h := iteF hc h; tK <| ATodo.stop <| ImpX.lq [1, 2, 1] ⟨b4, l5, h, rfl⟩ rfl rfl
      · rintro σ' ⟨b11, l12, h, rfl⟩
        unfold Q_fromValues_j1 at h
        refine ATodo.blk <| ATodo.stop <| ?_
        obtain rfl := Option.some.inj h
        exact hJ1 _ _ rfl <| ImpX.lq [0, 1, 0] ⟨b11, sv1m, hIv1m, rfl⟩ rfl rfl

set_option maxHeartbeats 4000000 in
theorem Q_ApplyOf_c {p0x0 : List PropS} {p1x0 : List Change} {r : (List PropS) × Int} (h : Q_ApplyOf p0x0 p1x0 = some r) : ACall Tryz.prog 8 [.list 5 (p0x0.map PropS.av), .list 9 (p1x0.map Change.av)] [] (T1 (fun d_0 => [(d_0, .arr 5 (r.1.map PropS.av))]) (fun d_0 => .tup [.sl 5 d_0 0 r.1.length, I r.2])) := by
  unfold Q_ApplyOf at h
  refine ACall.lessH ?_
  refine ACall.bodyN Tryz.func8 rfl Tryz.ntmps8 Tryz.results8 rfl rfl ?_
  refine tSR <| rA rfl rfl <| rA rfl rfl <| rN <| tSR <| t_makeMap rfl fun b1 => rA rfl rfl <| rN <| tS <| tSR <| rM rfl rfl <| ARun.qv (t_len rfl) rfl <| rM rfl rfl <| rN <| ATodo.block <| ATodo.loopI (fun x : (List (Str × ValueS)) × Int => Q_ApplyOf_b1 p0x0 p1x0 x.1 x.2) (fun x σ' => σ' = ⟨47, [(1, .list 9 (p1x0.map Change.av)), (6, .mref b1), (12, .list 5 (p0x0.map PropS.av)), (13, I (p0x0.length : Int)), (14, I x.2)], [(b1, .mp (x.1.map (fun e => (AV.str e.1, ValueS.av e.2))))]⟩) h ?_ ?_
  · exact ImpX.lq [0] rfl rfl rfl
  · intro x z1 σ' J1 hmk h hJ1 hA1
    obtain ⟨l4, n5⟩ := x
    obtain rfl := hmk
    replace h : Q_ApplyOf_b1 p0x0 p1x0 l4 n5 = some z1 := h
    unfold Q_ApplyOf_b1 at h
    refine tSR <| ARun.qv (q_lss rfl rfl) rfl <| rN <| tS <| ATodo.cond_d rfl (fun hc => ?_) (fun hc => ?_)
    · refine have h := iteT hc h; tK <| tS <| ATodo.block <| tSR <| bndE h fun v6 e1 h => ARun.qv (t_index rfl rfl rfl e1 rfl rfl) rfl <| ARun.qv (q_load_rptr_agg rfl rfl rfl) rfl <| n_alloc rfl rfl rfl rfl fun b7 => n_store_ptr rfl rfl rfl rfl .p0 rfl rfl <| rN <| tR <| rM rfl rfl <| rF rfl rfl rfl <| rL rfl rfl .p0 rfl rfl <| rF rfl rfl rfl <| ARun.qv (n_load_ptr_part rfl rfl .p0 rfl rfl) rfl <| t_mapUpdate (gk := AV.str) (gv := ValueS.av) (M := l4) (key := v6.Name) (v := v6.Value) rfl rfl rfl rfl .p1 <| rN <| ATodo.blk <| tR <| ARun.qv (q_addw rfl rfl) rfl <| rM rfl rfl <| rN <| ATodo.stop <| ?_
      obtain rfl := Option.some.inj h
      exact hJ1 _ _ rfl <| ImpX.lq [1] rfl rfl rfl
    · refine have h := iteF hc h; ATodo.exit rfl <| have h := outL h hA1; tS <| tSR <| rM rfl rfl <| ARun.qv (t_len rfl) rfl <| rM rfl rfl <| rN <| ATodo.block <| ATodo.loopI (fun x : (List (Str × ValueS)) × Int => Q_ApplyOf_b2 p1x0 x.1 x.2) (fun x σ' => σ' = ⟨47, [(6, .mref b1), (24, .list 9 (p1x0.map Change.av)), (25, I (p1x0.length : Int)), (26, I x.2)], [(b1, .mp (x.1.map (fun e => (AV.str e.1, ValueS.av e.2))))]⟩) h ?_ ?_
      · exact ImpX.lq [0] rfl rfl rfl
      · intro x z2 σ' J2 hmk h hJ2 hA2
        obtain ⟨l10, n11⟩ := x
        obtain rfl := hmk
        replace h : Q_ApplyOf_b2 p1x0 l10 n11 = some z2 := h
        unfold Q_ApplyOf_b2 at h
        refine tSR <| ARun.qv (q_lss rfl rfl) rfl <| rN <| tS <| ATodo.cond_d rfl (fun hc => ?_) (fun hc => ?_)
        · refine have h := iteT hc h; tK <| tS <| ATodo.block <| tSR <| bndE h fun v12 e2 h => ARun.qv (t_index rfl rfl rfl e2 rfl rfl) rfl <| ARun.qv (q_load_rptr_agg rfl rfl rfl) rfl <| n_alloc rfl rfl rfl rfl fun b13 => n_store_ptr rfl rfl rfl rfl .p0 rfl rfl <| rN <| tS <| tSR <| rM rfl rfl <| rF rfl rfl rfl <| rL rfl rfl .p0 rfl rfl <| bndE h fun v14 e3 h => ARun.qv (t_lookup (gk := AV.str) (gv := ValueS.av) (M := l10) (key := v12.Name) (Z := (⟨(0 : Int), false, (0 : Int), []⟩ : ValueS)) rfl rfl .p1 rfl rfl rfl e3 rfl) rfl <| rF rfl rfl rfl <| ARun.qv (n_load_ptr_part rfl rfl .p0 rfl rfl) rfl <| ARun.qv (t_tne (g := ValueS.av) (X := v14) (Y := v12.From) rfl rfl rfl rfl rfl) rfl <| rN <| ATodo.cond_d rfl (fun hc => ?_) (fun hc => ?_)
          · refine have h := iteT hc h; tSR <| rA rfl rfl <| rA rfl rfl <| rN <| ATodo.ret <| have h := outL h hA2; ?_
            obtain rfl := Option.some.inj h
            exact ImpX.arr (s := 4) 5 rfl fun b15 => ImpX.here ⟨_, .cons (.tmp _ _ rfl) (.cons (.tmp _ _ rfl) .nil), _, .cons .p0 .nil, ⟨b15, rfl, rfl⟩⟩
          · refine have h := iteF hc h; tK <| tR <| rM rfl rfl <| rF rfl rfl rfl <| rL rfl rfl .p0 rfl rfl <| rF rfl rfl rfl <| ARun.qv (n_load_ptr_part rfl rfl .p0 rfl rfl) rfl <| t_mapUpdate (gk := AV.str) (gv := ValueS.av) (M := l10) (key := v12.Name) (v := v12.To) rfl rfl rfl rfl .p1 <| rN <| ATodo.blk <| tR <| ARun.qv (q_addw rfl rfl) rfl <| rM rfl rfl <| rN <| ATodo.stop <| ?_
            obtain rfl := Option.some.inj h
            exact hJ2 _ _ rfl <| ImpX.lq [1] rfl rfl rfl
        · refine have h := iteF hc h; ATodo.exit rfl <| have h := outL h hA2; ?_
          unfold Q_ApplyOf_k1 at h
          refine tSR <| rM rfl rfl <| bndE h fun v16 e4 h => t_call1 rfl (Q_fromValues_c e4) (CoL.refl _) (.cons .p0 .nil) (fun _ => rfl) rfl fun b17 => rX rfl rfl rfl <| rX rfl rfl rfl <| rA rfl rfl <| rA rfl rfl <| rN <| ATodo.ret <| ?_
          obtain rfl := Option.some.inj h
          exact ImpX.here ⟨_, .cons (.tmp _ _ rfl) (.cons (.tmp _ _ rfl) .nil), _, .cons .p1 .nil, ⟨b17, rfl, rfl⟩⟩

set_option maxHeartbeats 4000000 in
theorem base_Key_c [GI : GTab] {p0x0 : Str} {r : Bool} (h : base_Key p0x0 = some r) : Pu Tryz.prog 146 [.str p0x0] (.bool r) := by
  unfold base_Key at h
  refine ACall.bodyN Tryz.func146 rfl Tryz.ntmps146 Tryz.results146 rfl rfl ?_
  refine tSR <| rA rfl rfl <| rN <| tS <| tS <| ATodo.cut (fun σ' => ∃ (c1 : Bool), base_Key_j1 p0x0 c1 = some r ∧ σ' = ⟨54, [(0, .str p0x0), (21, .bool c1)], []⟩) ?_ ?_
  · refine tR <| rM rfl rfl <| ARun.qv (q_seq rfl rfl) rfl <| rM rfl rfl <| ARun.guard_df rfl rfl rfl (fun hc => ?_) (fun hc => ?_)
    · refine have h := iteF hc h; rM rfl rfl <| rY rfl rfl rfl <| ARun.qv (q_len_str rfl) rfl <| rY rfl rfl rfl <| ARun.qv (q_gtr rfl rfl) rfl <| rE rfl rfl rfl <| rM rfl rfl <| ARun.guard_df rfl rfl rfl (fun hc => ?_) (fun hc => ?_)
      · refine have h := iteF hc h; rM rfl rfl <| rY rfl rfl rfl <| bndE h fun c2 e1 h => ARun.qv (t_index_str rfl rfl e1) rfl <| rY rfl rfl rfl <| ARun.qv (q_lss rfl rfl) rfl <| rE rfl rfl rfl <| rM rfl rfl <| ARun.guard_df rfl rfl rfl (fun hc => ?_) (fun hc => ?_)
        · exact have h := iteF hc h; rM rfl rfl <| rY rfl rfl rfl <| bndE h fun c3 e2 h => ARun.qv (t_index_str rfl rfl e2) rfl <| rY rfl rfl rfl <| ARun.qv (q_gtr rfl rfl) rfl <| rE rfl rfl rfl <| rN <| ATodo.stop <| ImpX.lq [] ⟨decide ((122 : Int) < (c3.toNat : Int)), h, rfl⟩ rfl rfl
        · exact have h := iteT hc h; rG rfl rfl rfl rfl <| rG rfl rfl rfl rfl <| rT rfl rfl rfl <| rN <| ATodo.stop <| ImpX.lq [] ⟨true, h, rfl⟩ rfl rfl
      · exact have h := iteT hc h; rG rfl rfl rfl rfl <| rG rfl rfl rfl rfl <| rT rfl rfl rfl <| rM rfl rfl <| rG rfl rfl rfl rfl <| rG rfl rfl rfl rfl <| rG rfl rfl rfl rfl <| rT rfl rfl rfl <| rN <| ATodo.stop <| ImpX.lq [] ⟨true, h, rfl⟩ rfl rfl
    · exact have h := iteT hc h; rG rfl rfl rfl rfl <| rG rfl rfl rfl rfl <| rT rfl rfl rfl <| rM rfl rfl <| rG rfl rfl rfl rfl <| rG rfl rfl rfl rfl <| rG rfl rfl rfl rfl <| rT rfl rfl rfl <| rM rfl rfl <| rG rfl rfl rfl rfl <| rG rfl rfl rfl rfl <| rG rfl rfl rfl rfl <| rT rfl rfl rfl <| rN <| ATodo.stop <| ImpX.lq [] ⟨true, h, rfl⟩ rfl rfl
  · rintro σ' ⟨c1, h, rfl⟩
    unfold base_Key_j1 at h
    refine ATodo.cond rfl (fun hc => ?_) (fun hc => ?_)
    · refine have h := iteT hc h; tSR <| rA rfl rfl <| rN <| ATodo.ret <| ?_
      obtain rfl := Option.some.inj h
      exact ImpX.here ⟨_, .cons (.tmp _ _ rfl) .nil, rfl⟩
    · refine have h := iteFb hc h; tK <| tS <| tSR <| rM rfl rfl <| ARun.qv (q_len_str rfl) rfl <| rM rfl rfl <| rN <| ATodo.block <| ATodo.loopI (fun x : Int => base_Key_b1 p0x0 x) (fun x σ' => σ' = ⟨54, [(0, .str p0x0), (23, I (p0x0.length : Int)), (24, I x)], []⟩) h ?_ ?_
      · exact ImpX.lq [] rfl rfl rfl
      · intro n5 z1 σ' J1 hmk h hJ1 hA1
        obtain rfl := hmk
        replace h : base_Key_b1 p0x0 n5 = some z1 := h
        unfold base_Key_b1 at h
        refine tSR <| ARun.qv (q_lss rfl rfl) rfl <| rN <| tS <| ATodo.cond_d rfl (fun hc => ?_) (fun hc => ?_)
        · refine have h := iteT hc h; tK <| tS <| ATodo.block <| tSR <| rM rfl rfl <| rA rfl rfl <| rN <| tSR <| rM rfl rfl <| rM rfl rfl <| bndE h fun c6 e3 h => ARun.qv (t_index_str rfl rfl e3) rfl <| rA rfl rfl <| rN <| tS <| ATodo.cut (fun σ' => ∃ (c7 : Bool), base_Key_j2 n5 c7 = some z1 ∧ σ' = ⟨54, [(0, .str p0x0), (23, I (p0x0.length : Int)), (24, I n5), (52, .bool c7)], []⟩) ?_ ?_
          · refine tR <| rM rfl rfl <| ARun.qv (q_geq rfl rfl) rfl <| rM rfl rfl <| ARun.guard_dt rfl rfl rfl (fun hc => ?_) (fun hc => ?_)
            · rw [if_pos hc] at h
              refine rM rfl rfl <| rY rfl rfl rfl <| ARun.qv (q_leq rfl rfl) rfl <| rT rfl rfl rfl <| rM rfl rfl <| ARun.guard_df rfl rfl rfl (fun hc => ?_) (fun hc => ?_)
              · rw [if_neg hc] at h
                refine rM rfl rfl <| rY rfl rfl rfl <| ARun.qv (q_geq rfl rfl) rfl <| rY rfl rfl rfl <| rM rfl rfl <| ARun.guard_dt rfl rfl rfl (fun hc => ?_) (fun hc => ?_)
                · rw [if_pos hc] at h
                  refine rM rfl rfl <| rY rfl rfl rfl <| ARun.qv (q_leq rfl rfl) rfl <| rY rfl rfl rfl <| rT rfl rfl rfl <| rE rfl rfl rfl <| rM rfl rfl <| ARun.guard_df rfl rfl rfl (fun hc => ?_) (fun hc => ?_)
                  · rw [if_neg hc] at h
                    refine rM rfl rfl <| rY rfl rfl rfl <| ARun.qv (q_eql rfl rfl) rfl <| rE rfl rfl rfl <| rM rfl rfl <| ARun.guard_df rfl rfl rfl (fun hc => ?_) (fun hc => ?_)
                    · rw [if_neg hc] at h
                      exact rM rfl rfl <| rY rfl rfl rfl <| ARun.qv (q_eql rfl rfl) rfl <| rE rfl rfl rfl <| ARun.qv (q_not_d rfl) rfl <| rN <| ATodo.stop <| ImpX.lq [] ⟨decide (¬ ((c6.toNat : Int) = (95 : Int))), h, rfl⟩ rfl rfl
                    · rw [if_pos hc] at h
                      exact rG rfl rfl rfl rfl <| rT rfl rfl rfl <| ARun.qv (q_not rfl) rfl <| rN <| ATodo.stop <| ImpX.lq [] ⟨!true, h, rfl⟩ rfl rfl
                  · rw [if_pos hc] at h
                    exact rG rfl rfl rfl rfl <| rT rfl rfl rfl <| rM rfl rfl <| rG rfl rfl rfl rfl <| rG rfl rfl rfl rfl <| rT rfl rfl rfl <| ARun.qv (q_not rfl) rfl <| rN <| ATodo.stop <| ImpX.lq [] ⟨!true, h, rfl⟩ rfl rfl
                · rw [if_neg hc] at h
                  refine rG rfl rfl rfl rfl <| rY rfl rfl rfl <| rE rfl rfl rfl <| rE rfl rfl rfl <| rM rfl rfl <| rY rfl rfl rfl <| rM rfl rfl <| rY rfl rfl rfl <| ARun.qv (q_eql rfl rfl) rfl <| rE rfl rfl rfl <| rM rfl rfl <| ARun.guard_df rfl rfl rfl (fun hc => ?_) (fun hc => ?_)
                  · rw [if_neg hc] at h
                    exact rM rfl rfl <| rY rfl rfl rfl <| ARun.qv (q_eql rfl rfl) rfl <| rE rfl rfl rfl <| ARun.qv (q_not_d rfl) rfl <| rN <| ATodo.stop <| ImpX.lq [] ⟨decide (¬ ((c6.toNat : Int) = (95 : Int))), h, rfl⟩ rfl rfl
                  · rw [if_pos hc] at h
                    exact rG rfl rfl rfl rfl <| rT rfl rfl rfl <| ARun.qv (q_not rfl) rfl <| rN <| ATodo.stop <| ImpX.lq [] ⟨!true, h, rfl⟩ rfl rfl
              · rw [if_pos hc] at h
                exact rG rfl rfl rfl rfl <| rG rfl rfl rfl rfl <| ARun.guard_und rfl rfl rfl <| ARun.guard_und rfl rfl rfl <| rG rfl rfl rfl rfl <| rT rfl rfl rfl <| rM rfl rfl <| rG rfl rfl rfl rfl <| rG rfl rfl rfl rfl <| rT rfl rfl rfl <| rM rfl rfl <| rG rfl rfl rfl rfl <| rG rfl rfl rfl rfl <| rT rfl rfl rfl <| ARun.qv (q_not rfl) rfl <| rN <| ATodo.stop <| ImpX.lq [] ⟨!true, h, rfl⟩ rfl rfl
            · rw [if_neg hc] at h
              refine rG rfl rfl rfl rfl <| rE rfl rfl rfl <| rM rfl rfl <| rY rfl rfl rfl <| rM rfl rfl <| rY rfl rfl rfl <| ARun.qv (q_geq rfl rfl) rfl <| rY rfl rfl rfl <| rM rfl rfl <| ARun.guard_dt rfl rfl rfl (fun hc => ?_) (fun hc => ?_)
              · rw [if_pos hc] at h
                refine rM rfl rfl <| rY rfl rfl rfl <| ARun.qv (q_leq rfl rfl) rfl <| rY rfl rfl rfl <| rT rfl rfl rfl <| rE rfl rfl rfl <| rM rfl rfl <| ARun.guard_df rfl rfl rfl (fun hc => ?_) (fun hc => ?_)
                · rw [if_neg hc] at h
                  refine rM rfl rfl <| rY rfl rfl rfl <| ARun.qv (q_eql rfl rfl) rfl <| rE rfl rfl rfl <| rM rfl rfl <| ARun.guard_df rfl rfl rfl (fun hc => ?_) (fun hc => ?_)
                  · rw [if_neg hc] at h
                    exact rM rfl rfl <| rY rfl rfl rfl <| ARun.qv (q_eql rfl rfl) rfl <| rE rfl rfl rfl <| ARun.qv (q_not_d rfl) rfl <| rN <| ATodo.stop <| ImpX.lq [] ⟨decide (¬ ((c6.toNat : Int) = (95 : Int))), h, rfl⟩ rfl rfl
                  · rw [if_pos hc] at h
                    exact rG rfl rfl rfl rfl <| rT rfl rfl rfl <| ARun.qv (q_not rfl) rfl <| rN <| ATodo.stop <| ImpX.lq [] ⟨!true, h, rfl⟩ rfl rfl
                · rw [if_pos hc] at h
                  exact rG rfl rfl rfl rfl <| rT rfl rfl rfl <| rM rfl rfl <| rG rfl rfl rfl rfl <| rG rfl rfl rfl rfl <| rT rfl rfl rfl <| ARun.qv (q_not rfl) rfl <| rN <| ATodo.stop <| ImpX.lq [] ⟨!true, h, rfl⟩ rfl rfl
              · rw [if_neg hc] at h
                refine rG rfl rfl rfl rfl <| rY rfl rfl rfl <| rE rfl rfl rfl <| rE rfl rfl rfl <| rM rfl rfl <| rY rfl rfl rfl <| rM rfl rfl <| rY rfl rfl rfl <| ARun.qv (q_eql rfl rfl) rfl <| rE rfl rfl rfl <| rM rfl rfl <| ARun.guard_df rfl rfl rfl (fun hc => ?_) (fun hc => ?_)
                · rw [if_neg hc] at h
                  exact rM rfl rfl <| rY rfl rfl rfl <| ARun.qv (q_eql rfl rfl) rfl <| rE rfl rfl rfl <| ARun.qv (q_not_d rfl) rfl <| rN <| ATodo.stop <| ImpX.lq [] ⟨decide (¬ ((c6.toNat : Int) = (95 : Int))), h, rfl⟩ rfl rfl
                · rw [if_pos hc] at h
                  exact rG rfl rfl rfl rfl <| rT rfl rfl rfl <| ARun.qv (q_not rfl) rfl <| rN <| ATodo.stop <| ImpX.lq [] ⟨!true, h, rfl⟩ rfl rfl
          · rintro σ' ⟨c7, h, rfl⟩
            unfold base_Key_j2 at h
            refine ATodo.cond rfl (fun hc => ?_) (fun hc => ?_)
            · refine have h := iteT hc h; tSR <| rA rfl rfl <| rN <| ATodo.ret <| have h := outL h hA1; ?_
              obtain rfl := Option.some.inj h
              exact ImpX.here ⟨_, .cons (.tmp _ _ rfl) .nil, rfl⟩
            · refine have h := iteFb hc h; tK <| ATodo.blk <| tR <| ARun.qv (q_addw rfl rfl) rfl <| rM rfl rfl <| rN <| ATodo.stop <| ?_
              obtain rfl := Option.some.inj h
              exact hJ1 _ _ rfl <| ImpX.lq [] rfl rfl rfl
        · refine have h := iteF hc h; ATodo.exit rfl <| have h := outL h hA1; tSR <| rA rfl rfl <| rN <| ATodo.ret <| ?_
          obtain rfl := Option.some.inj h
          exact ImpX.here ⟨_, .cons (.tmp _ _ rfl) .nil, rfl⟩

set_option maxHeartbeats 4000000 in
theorem base_Dotted_c {p0x0 : Str} {p1x0 : Int} {r : Bool} (h : base_Dotted p0x0 p1x0 = some r) : Pu Tryz.prog 106 [.str p0x0, I p1x0] (.bool r) := by
  unfold base_Dotted at h
  refine ACall.bodyN Tryz.func106 rfl Tryz.ntmps106 Tryz.results106 rfl rfl ?_
  refine tSR <| rA rfl rfl <| rN <| tS <| tSR <| rA rfl rfl <| rN <| ATodo.block <| ATodo.loopI (fun x : Str × Int => base_Dotted_b1 p1x0 x.1 x.2) (fun x σ' => σ' = ⟨26, [(0, .str x.1), (1, I p1x0), (5, I x.2)], []⟩) h ?_ ?_
  · exact ImpX.lq [] rfl rfl rfl
  · intro x z1 σ' J1 hmk h hJ1 hA1
    obtain ⟨q3, n4⟩ := x
    obtain rfl := hmk
    replace h : base_Dotted_b1 p1x0 q3 n4 = some z1 := h
    unfold base_Dotted_b1 at h
    refine tS <| tSR <| rM rfl rfl <| rM rfl rfl <| ARun.qv (q_lss rfl rfl) rfl <| rN <| ATodo.cond_d rfl (fun hc => ?_) (fun hc => ?_)
    · refine have h := iteT hc h; tK <| tS <| ATodo.block <| tSR <| rM rfl rfl <| bndE h fun v5 e1 h => r_callp rfl (strings_Cut_c e1) (CoL.refl _) rfl <| rM rfl rfl <| rX rfl rfl rfl <| rX rfl rfl rfl <| rX rfl rfl rfl <| rA rfl rfl <| rA rfl rfl <| rA rfl rfl <| rN <| tS <| tSR <| rM rfl rfl <| bndE h fun v6 e2 h => r_callp rfl (base_Key_c e2) (CoL.refl _) rfl <| ARun.qv (q_not rfl) rfl <| rN <| ATodo.cond rfl (fun hc => ?_) (fun hc => ?_)
      · refine have h := iteT hc h; tSR <| rA rfl rfl <| rN <| ATodo.ret <| have h := outL h hA1; ?_
        obtain rfl := Option.some.inj h
        exact ImpX.here ⟨_, .cons (.tmp _ _ rfl) .nil, rfl⟩
      · refine have h := iteFb hc h; tK <| tS <| tSR <| rM rfl rfl <| ARun.qv (q_not rfl) rfl <| rN <| ATodo.cond rfl (fun hc => ?_) (fun hc => ?_)
        · refine have h := iteT hc h; tSR <| rA rfl rfl <| rN <| ATodo.ret <| have h := outL h hA1; ?_
          obtain rfl := Option.some.inj h
          exact ImpX.here ⟨_, .cons (.tmp _ _ rfl) .nil, rfl⟩
        · refine have h := iteFb hc h; tK <| tR <| rM rfl rfl <| rA rfl rfl <| rN <| ATodo.blk <| tR <| rM rfl rfl <| ARun.qv (q_addw rfl rfl) rfl <| rA rfl rfl <| rN <| ATodo.stop <| ?_
          obtain rfl := Option.some.inj h
          exact hJ1 _ _ rfl <| ImpX.lq [] rfl rfl rfl
    · refine have h := iteF hc h; ATodo.exit rfl <| have h := outL h hA1; tSR <| rA rfl rfl <| rN <| ATodo.ret <| ?_
      obtain rfl := Option.some.inj h
      exact ImpX.here ⟨_, .cons (.tmp _ _ rfl) .nil, rfl⟩

set_option maxHeartbeats 4000000 in
theorem twin_isName_c {p0x0 : Str} {r : Bool} (h : twin_isName p0x0 = some r) : Pu Tryz.prog 58 [.str p0x0] (.bool r) := by
  unfold twin_isName at h
  refine ACall.bodyN Tryz.func58 rfl Tryz.ntmps58 Tryz.results58 rfl rfl ?_
  refine tSR <| rA rfl rfl <| rN <| tSR <| rM rfl rfl <| bndE h fun v1 e1 h => r_callp rfl (base_Dotted_c e1) (CoL.refl _) rfl <| rA rfl rfl <| rN <| ATodo.ret <| ?_
  obtain rfl := Option.some.inj h
  exact ImpX.here ⟨_, .cons (.tmp _ _ rfl) .nil, rfl⟩

set_option maxHeartbeats 4000000 in
theorem base_Out_c [GI : GTab] {p0x0 : Int} {p1x0 : Int} {p2x0 : Int} {r : Bool} (h : base_Out p0x0 p1x0 p2x0 = r) : Pu Tryz.prog 79 [I p0x0, I p1x0, I p2x0] (.bool r) := by
  unfold base_Out at h
  refine ACall.bodyN Tryz.func79 rfl Tryz.ntmps79 Tryz.results79 rfl rfl ?_
  refine tSR <| rA rfl rfl <| rN <| tS <| ATodo.cut (fun σ' => ∃ (c1 : Bool), base_Out_j1 c1 = r ∧ σ' = ⟨15, [(6, .bool c1)], []⟩) ?_ ?_
  · refine tR <| rM rfl rfl <| rM rfl rfl <| ARun.qv (q_lss rfl rfl) rfl <| rM rfl rfl <| ARun.guard_df rfl rfl rfl (fun hc => ?_) (fun hc => ?_)
    · rw [orFd hc] at h
      exact rM rfl rfl <| rY rfl rfl rfl <| rM rfl rfl <| rY rfl rfl rfl <| ARun.qv (q_gtr rfl rfl) rfl <| rE rfl rfl rfl <| rA rfl rfl <| rN <| ATodo.stop <| ImpX.lq [] ⟨decide (p2x0 < p0x0), h, rfl⟩ rfl rfl
    · rw [orTd hc] at h
      exact rG rfl rfl rfl rfl <| rG rfl rfl rfl rfl <| rT rfl rfl rfl <| rA rfl rfl <| rN <| ATodo.stop <| ImpX.lq [] ⟨true, h, rfl⟩ rfl rfl
  · rintro σ' ⟨c1, h, rfl⟩
    unfold base_Out_j1 at h
    refine ATodo.ret <| ?_
    obtain rfl := h
    exact ImpX.here ⟨_, .cons (.tmp _ _ rfl) .nil, rfl⟩

set_option maxHeartbeats 4000000 in
theorem base_Unmarked_c {p0x0 : Str} {r : Bool} (h : base_Unmarked p0x0 = some r) : Pu Tryz.prog 107 [.str p0x0] (.bool r) := by
  unfold base_Unmarked at h
  refine ACall.bodyN Tryz.func107 rfl Tryz.ntmps107 Tryz.results107 rfl rfl ?_
  refine tSR <| rA rfl rfl <| rN <| tS <| tSR <| rM rfl rfl <| ARun.qv (q_len_str rfl) rfl <| rM rfl rfl <| rN <| ATodo.block <| ATodo.loopI (fun x : Int => base_Unmarked_b1 p0x0 x) (fun x σ' => σ' = ⟨22, [(0, .str p0x0), (5, I (p0x0.length : Int)), (6, I x)], []⟩) h ?_ ?_
  · exact ImpX.lq [] rfl rfl rfl
  · intro n2 z1 σ' J1 hmk h hJ1 hA1
    obtain rfl := hmk
    replace h : base_Unmarked_b1 p0x0 n2 = some z1 := h
    unfold base_Unmarked_b1 at h
    refine tSR <| ARun.qv (q_lss rfl rfl) rfl <| rN <| tS <| ATodo.cond_d rfl (fun hc => ?_) (fun hc => ?_)
    · refine have h := iteT hc h; tK <| tS <| ATodo.block <| tSR <| rM rfl rfl <| rA rfl rfl <| rN <| tS <| ATodo.cut (fun σ' => ∃ (c3 : Bool), base_Unmarked_j1 n2 c3 = some z1 ∧ σ' = ⟨22, [(0, .str p0x0), (5, I (p0x0.length : Int)), (6, I n2), (18, .bool c3)], []⟩) ?_ ?_
      · refine tR <| rM rfl rfl <| rM rfl rfl <| bndE h fun c4 e1 h => ARun.qv (t_index_str rfl rfl e1) rfl <| ARun.qv (q_lss rfl rfl) rfl <| rM rfl rfl <| ARun.guard_df rfl rfl rfl (fun hc => ?_) (fun hc => ?_)
        · exact have h := iteF hc h; rM rfl rfl <| rY rfl rfl rfl <| rM rfl rfl <| rY rfl rfl rfl <| bndE h fun c5 e2 h => ARun.qv (t_index_str rfl rfl e2) rfl <| rY rfl rfl rfl <| ARun.qv (q_eql rfl rfl) rfl <| rE rfl rfl rfl <| rN <| ATodo.stop <| ImpX.lq [] ⟨decide ((c5.toNat : Int) = (127 : Int)), h, rfl⟩ rfl rfl
        · exact have h := iteT hc h; rG rfl rfl rfl rfl <| rG rfl rfl rfl rfl <| rG rfl rfl rfl rfl <| rT rfl rfl rfl <| rN <| ATodo.stop <| ImpX.lq [] ⟨true, h, rfl⟩ rfl rfl
      · rintro σ' ⟨c3, h, rfl⟩
        unfold base_Unmarked_j1 at h
        refine ATodo.cond rfl (fun hc => ?_) (fun hc => ?_)
        · refine have h := iteT hc h; tSR <| rA rfl rfl <| rN <| ATodo.ret <| have h := outL h hA1; ?_
          obtain rfl := Option.some.inj h
          exact ImpX.here ⟨_, .cons (.tmp _ _ rfl) .nil, rfl⟩
        · refine have h := iteFb hc h; tK <| ATodo.blk <| tR <| ARun.qv (q_addw rfl rfl) rfl <| rM rfl rfl <| rN <| ATodo.stop <| ?_
          obtain rfl := Option.some.inj h
          exact hJ1 _ _ rfl <| ImpX.lq [] rfl rfl rfl
    · refine have h := iteF hc h; ATodo.exit rfl <| have h := outL h hA1; ?_
      unfold base_Unmarked_k2 at h
      refine tSR <| rM rfl rfl <| bndE h fun v6 e3 h => r_callp rfl (utf8_ValidString_c e3) (CoL.refl _) rfl <| rA rfl rfl <| rN <| ATodo.ret <| ?_
      obtain rfl := Option.some.inj h
      exact ImpX.here ⟨_, .cons (.tmp _ _ rfl) .nil, rfl⟩

set_option maxHeartbeats 4000000 in
theorem twin_valueFault_c {p0x0 : ValueS} {r : Int} (h : twin_valueFault p0x0 = some r) : Pu Tryz.prog 60 [.agg [I p0x0.Kind, .bool p0x0.Flag, I p0x0.Number, .str p0x0.Words]] (I r) := by
  unfold twin_valueFault at h
  refine ACall.bodyN Tryz.func60 rfl Tryz.ntmps60 Tryz.results60 rfl rfl ?_
  refine tSR <| n_box rfl rfl rfl rfl fun b1 => rA rfl rfl <| rN <| tSR <| rF rfl rfl rfl <| rL rfl rfl .p0 rfl rfl <| ARun.qv (n_build rfl rfl rfl rfl rfl) rfl <| n_alloc rfl rfl rfl rfl fun b2 => n_store_ptr rfl rfl rfl rfl .p0 rfl rfl <| rN <| tS <| tSR <| rF rfl rfl rfl <| rL rfl rfl .p1 rfl rfl <| rN <| ATodo.block <| tSR <| ARun.qv (q_eql rfl rfl) rfl <| rA rfl rfl <| rN <| ATodo.cut (fun σ' => ∃ (c3 : Bool) (n4 : Int) (q5 : Str), twin_valueFault_j1 p0x0 c3 n4 q5 = some r ∧ σ' = ⟨44, [(1, .ptr b1 0), (3, .ptr b2 0)], [(b1, .cells [I p0x0.Kind, .bool p0x0.Flag, I p0x0.Number, .str p0x0.Words]), (b2, .cells [I p0x0.Kind, .bool c3, I n4, .str q5])]⟩) ?_ ?_
  · refine ATodo.cond_d rfl (fun hc => ?_) (fun hc => ?_)
    · exact have h := iteT hc h; tK <| ATodo.stop <| ImpX.lq [1, 0] ⟨false, (0 : Int), [], h, rfl⟩ rfl rfl
    · refine have h := iteF hc h; tSR <| ARun.qv (q_eql rfl rfl) rfl <| rA rfl rfl <| rN <| ATodo.cut (fun σ' => ∃ (c6 : Bool) (n7 : Int) (q8 : Str), twin_valueFault_j2 p0x0 c6 n7 q8 = some r ∧ σ' = ⟨44, [(1, .ptr b1 0), (3, .ptr b2 0)], [(b1, .cells [I p0x0.Kind, .bool p0x0.Flag, I p0x0.Number, .str p0x0.Words]), (b2, .cells [I p0x0.Kind, .bool c6, I n7, .str q8])]⟩) ?_ ?_
      · refine ATodo.cond_d rfl (fun hc => ?_) (fun hc => ?_)
        · exact have h := iteT hc h; tR <| rF rfl rfl rfl <| rL rfl rfl .p1 rfl rfl <| rF rfl rfl rfl <| n_store_ptr rfl rfl rfl rfl .p0 rfl rfl <| rN <| ATodo.stop <| ImpX.lq [1, 0] ⟨p0x0.Flag, (0 : Int), [], h, rfl⟩ rfl rfl
        · refine have h := iteF hc h; tSR <| ARun.qv (q_eql rfl rfl) rfl <| rA rfl rfl <| rN <| ATodo.cut (fun σ' => ∃ (n9 : Int) (q10 : Str), twin_valueFault_j3 p0x0 n9 q10 = some r ∧ σ' = ⟨44, [(1, .ptr b1 0), (3, .ptr b2 0)], [(b1, .cells [I p0x0.Kind, .bool p0x0.Flag, I p0x0.Number, .str p0x0.Words]), (b2, .cells [I p0x0.Kind, .bool false, I n9, .str q10])]⟩) ?_ ?_
          · refine ATodo.cond_d rfl (fun hc => ?_) (fun hc => ?_)
            · exact have h := iteT hc h; tR <| rF rfl rfl rfl <| rL rfl rfl .p1 rfl rfl <| rF rfl rfl rfl <| n_store_ptr rfl rfl rfl rfl .p0 rfl rfl <| rN <| ATodo.stop <| ImpX.lq [1, 0] ⟨p0x0.Number, [], h, rfl⟩ rfl rfl
            · refine have h := iteF hc h; tSR <| ARun.qv (q_eql rfl rfl) rfl <| rA rfl rfl <| rN <| ATodo.cond_d rfl (fun hc => ?_) (fun hc => ?_)
              · exact have h := iteT hc h; tR <| rF rfl rfl rfl <| rL rfl rfl .p1 rfl rfl <| rF rfl rfl rfl <| n_store_ptr rfl rfl rfl rfl .p0 rfl rfl <| rN <| ATodo.stop <| ImpX.lq [1, 0] ⟨(0 : Int), p0x0.Words, h, rfl⟩ rfl rfl
              · refine have h := iteF hc h; tSR <| rA rfl rfl <| rN <| ATodo.ret <| ?_
                obtain rfl := Option.some.inj h
                exact ImpX.here ⟨_, .cons (.tmp _ _ rfl) .nil, rfl⟩
          · rintro σ' ⟨n9, q10, h, rfl⟩
            unfold twin_valueFault_j3 at h
            exact ATodo.stop <| ImpX.lq [0, 0] ⟨false, n9, q10, h, rfl⟩ rfl rfl
      · rintro σ' ⟨c6, n7, q8, h, rfl⟩
        unfold twin_valueFault_j2 at h
        exact ATodo.stop <| ImpX.lq [0, 0] ⟨c6, n7, q8, h, rfl⟩ rfl rfl
  · rintro σ' ⟨c3, n4, q5, h, rfl⟩
    unfold twin_valueFault_j1 at h
    refine ATodo.blk <| tS <| ATodo.block <| tSR <| ARun.qv (q_load_ptr_all rfl rfl .p0 rfl) rfl <| ARun.qv (q_load_ptr_all rfl rfl .p1 rfl) rfl <| ARun.qv (t_tne (g := ValueS.av) (X := p0x0) (Y := (⟨p0x0.Kind, c3, n4, q5⟩ : ValueS)) rfl rfl rfl rfl rfl) rfl <| rA rfl rfl <| rN <| ATodo.cond_d rfl (fun hc => ?_) (fun hc => ?_)
    · refine have h := iteT hc h; tSR <| rA rfl rfl <| rN <| ATodo.ret <| ?_
      obtain rfl := Option.some.inj h
      exact ImpX.here ⟨_, .cons (.tmp _ _ rfl) .nil, rfl⟩
    · refine have h := iteF hc h; tSR <| rF rfl rfl rfl <| rL rfl rfl .p0 rfl rfl <| r_callp rfl (base_Out_c rfl) (CoL.refl _) rfl <| rA rfl rfl <| rN <| ATodo.cond rfl (fun hc => ?_) (fun hc => ?_)
      · refine have h := iteT hc h; tSR <| rA rfl rfl <| rN <| ATodo.ret <| ?_
        obtain rfl := Option.some.inj h
        exact ImpX.here ⟨_, .cons (.tmp _ _ rfl) .nil, rfl⟩
      · refine have h := iteFb hc h; tSR <| rF rfl rfl rfl <| rL rfl rfl .p0 rfl rfl <| ARun.qv (q_len_str rfl) rfl <| ARun.qv (q_gtr rfl rfl) rfl <| rA rfl rfl <| rN <| ATodo.cond_d rfl (fun hc => ?_) (fun hc => ?_)
        · refine have h := iteT hc h; tSR <| rA rfl rfl <| rN <| ATodo.ret <| ?_
          obtain rfl := Option.some.inj h
          exact ImpX.here ⟨_, .cons (.tmp _ _ rfl) .nil, rfl⟩
        · refine have h := iteF hc h; tSR <| rF rfl rfl rfl <| rL rfl rfl .p0 rfl rfl <| bndE h fun v11 e1 h => r_callp rfl (base_Unmarked_c e1) (CoL.refl _) rfl <| ARun.qv (q_not rfl) rfl <| rA rfl rfl <| rN <| ATodo.cond rfl (fun hc => ?_) (fun hc => ?_)
          · refine have h := iteT hc h; tSR <| rA rfl rfl <| rN <| ATodo.ret <| ?_
            obtain rfl := Option.some.inj h
            exact ImpX.here ⟨_, .cons (.tmp _ _ rfl) .nil, rfl⟩
          · refine have h := iteFb hc h; tK <| ATodo.blk <| tSR <| rA rfl rfl <| rN <| ATodo.ret <| ?_
            obtain rfl := Option.some.inj h
            exact ImpX.here ⟨_, .cons (.tmp _ _ rfl) .nil, rfl⟩

set_option maxHeartbeats 4000000 in
theorem twin_find_1x_c [GI : GTab] {p0x0 : PropS} {p1x0 : Str} {r : Int} (h : twin_find_1x p0x0 p1x0 = r) : Pu Tryz.prog 109 [.agg [.str p0x0.Name, I p0x0.Value.Kind, .bool p0x0.Value.Flag, I p0x0.Value.Number, .str p0x0.Value.Words], .str p1x0] (I r) := by
  unfold twin_find_1x at h
  refine ACall.bodyN Tryz.func109 rfl Tryz.ntmps109 Tryz.results109 rfl rfl ?_
  refine tSR <| n_box rfl rfl rfl rfl fun b1 => rA rfl rfl <| rN <| tSR <| rF rfl rfl rfl <| rL rfl rfl .p0 rfl rfl <| rM rfl rfl <| r_callp rfl (strings_Compare_c rfl) (CoL.refl _) rfl <| rA rfl rfl <| rN <| ATodo.ret <| ?_
  obtain rfl := h
  exact ImpX.here ⟨_, .cons (.tmp _ _ rfl) .nil, rfl⟩

set_option maxHeartbeats 4000000 in
theorem slices_BinarySearchFunc_Prop_Prop_string_c [GI : GTab] {p0x0 : List PropS} {p1x0 : Str} {fnc : PropS → Str → Option Int} {fnc_F : FuncId} [IsFn Tryz.prog fnc_F] {fnc_C : List AV} (fnc_h : ∀ {y0 y1 : _} {u : Int}, fnc y0 y1 = some u → Pu Tryz.prog fnc_F (.agg [.str y0.Name, I y0.Value.Kind, .bool y0.Value.Flag, I y0.Value.Number, .str y0.Value.Words] :: .str y1 ::  fnc_C) (I u)) {r : Int × Bool} (h : slices_BinarySearchFunc_Prop_Prop_string p0x0 p1x0 fnc = some r) : Pu Tryz.prog 108 [.list 5 (p0x0.map PropS.av), .str p1x0, .func (.func fnc_F) fnc_C] (.tup [I r.1, .bool r.2]) := by
  unfold slices_BinarySearchFunc_Prop_Prop_string at h
  refine ACall.bodyN Tryz.func108 rfl Tryz.ntmps108 Tryz.results108 rfl rfl ?_
  refine tSR <| rA rfl rfl <| rA rfl rfl <| rN <| tSR <| rM rfl rfl <| ARun.qv (t_len rfl) rfl <| rA rfl rfl <| rN <| tSR <| rM rfl rfl <| rA rfl rfl <| rA rfl rfl <| rN <| tS <| ATodo.block <| ATodo.loopI (fun x : Int × Int => slices_BinarySearchFunc_Prop_Prop_string_b1 p0x0 p1x0 fnc x.1 x.2) (fun x σ' => σ' = ⟨49, [(0, .list 5 (p0x0.map PropS.av)), (1, .str p1x0), (2, .func (.func fnc_F) fnc_C), (8, I (p0x0.length : Int)), (9, I x.1), (10, I x.2)], []⟩) h ?_ ?_
  · exact ImpX.lq [] rfl rfl rfl
  · intro x z1 σ' J1 hmk h hJ1 hA1
    obtain ⟨n3, n4⟩ := x
    obtain rfl := hmk
    replace h : slices_BinarySearchFunc_Prop_Prop_string_b1 p0x0 p1x0 fnc n3 n4 = some z1 := h
    unfold slices_BinarySearchFunc_Prop_Prop_string_b1 at h
    refine tS <| tSR <| rM rfl rfl <| rM rfl rfl <| ARun.qv (q_lss rfl rfl) rfl <| rN <| ATodo.cond_d rfl (fun hc => ?_) (fun hc => ?_)
    · refine have h := iteT hc h; tK <| ATodo.block <| tSR <| rM rfl rfl <| rM rfl rfl <| ARun.qv (q_addw rfl rfl) rfl <| ARun.qv (q_conv_int rfl) rfl <| ARun.qv (t_shr rfl rfl (by decide)) rfl <| ARun.qv (q_conv_int rfl) rfl <| rA rfl rfl <| rN <| tSR <| rM rfl rfl <| rM rfl rfl <| rM rfl rfl <| bndE h fun v5 e1 h => ARun.qv (t_index rfl rfl rfl e1 rfl rfl) rfl <| ARun.qv (q_load_rptr_agg rfl rfl rfl) rfl <| rM rfl rfl <| bndE h fun v6 e2 h => r_callvp rfl rfl (fnc_h e2) (CoL.refl _) rfl <| ARun.qv (q_lss rfl rfl) rfl <| rN <| ATodo.cut (fun σ' => ∃ (n7 : Int) (n8 : Int), slices_BinarySearchFunc_Prop_Prop_string_j1 n7 n8 = some z1 ∧ σ' = ⟨49, [(0, .list 5 (p0x0.map PropS.av)), (1, .str p1x0), (2, .func (.func fnc_F) fnc_C), (8, I (p0x0.length : Int)), (9, I n7), (10, I n8)], []⟩) ?_ ?_
      · refine ATodo.cond_d rfl (fun hc => ?_) (fun hc => ?_)
        · exact have h := iteT hc h; tR <| rM rfl rfl <| ARun.qv (q_addw rfl rfl) rfl <| rA rfl rfl <| rN <| ATodo.stop <| ImpX.lq [] ⟨w64 ((w64 (shrI .u64 (IntKind.u64.wrap (w64 (n3 + n4))) (1 : Int))) + (1 : Int)), n4, h, rfl⟩ rfl rfl
        · exact have h := iteF hc h; tR <| rM rfl rfl <| rA rfl rfl <| rN <| ATodo.stop <| ImpX.lq [] ⟨n3, w64 (shrI .u64 (IntKind.u64.wrap (w64 (n3 + n4))) (1 : Int)), h, rfl⟩ rfl rfl
      · rintro σ' ⟨n7, n8, h, rfl⟩
        unfold slices_BinarySearchFunc_Prop_Prop_string_j1 at h
        refine ATodo.blk <| ATodo.stop <| ?_
        obtain rfl := Option.some.inj h
        exact hJ1 _ _ rfl <| ImpX.lq [] rfl rfl rfl
    · refine have h := iteF hc h; ATodo.exit rfl <| have h := outL h hA1; ?_
      unfold slices_BinarySearchFunc_Prop_Prop_string_k3 at h
      refine tS <| ATodo.cut (fun σ' => ∃ (c9 : Bool), slices_BinarySearchFunc_Prop_Prop_string_j2 n3 c9 = some r ∧ σ' = ⟨49, [(6, I n3), (7, .bool c9)], []⟩) ?_ ?_
      · refine tR <| rM rfl rfl <| rM rfl rfl <| rM rfl rfl <| ARun.qv (q_lss rfl rfl) rfl <| rM rfl rfl <| ARun.guard_dt rfl rfl rfl (fun hc => ?_) (fun hc => ?_)
        · exact have h := iteT hc h; rM rfl rfl <| rY rfl rfl rfl <| rM rfl rfl <| rY rfl rfl rfl <| rM rfl rfl <| rY rfl rfl rfl <| bndE h fun v10 e3 h => ARun.qv (t_index rfl rfl rfl e3 rfl rfl) rfl <| rY rfl rfl rfl <| ARun.qv (q_load_rptr_agg rfl rfl rfl) rfl <| rY rfl rfl rfl <| rM rfl rfl <| rY rfl rfl rfl <| bndE h fun v11 e4 h => r_callvp rfl rfl (fnc_h e4) (CoL.refl _) rfl <| rY rfl rfl rfl <| ARun.qv (q_eql rfl rfl) rfl <| rT rfl rfl rfl <| rA rfl rfl <| rA rfl rfl <| rN <| ATodo.stop <| ImpX.lq [] ⟨decide (v11 = (0 : Int)), h, rfl⟩ rfl rfl
        · exact have h := iteF hc h; rG rfl rfl rfl rfl <| rG rfl rfl rfl rfl <| rG rfl rfl rfl rfl <| rG rfl rfl rfl rfl <| rG rfl rfl rfl rfl <| rG rfl rfl rfl rfl <| rG rfl rfl rfl rfl <| rE rfl rfl rfl <| rA rfl rfl <| rA rfl rfl <| rN <| ATodo.stop <| ImpX.lq [] ⟨false, h, rfl⟩ rfl rfl
      · rintro σ' ⟨c9, h, rfl⟩
        unfold slices_BinarySearchFunc_Prop_Prop_string_j2 at h
        refine ATodo.ret <| ?_
        obtain rfl := Option.some.inj h
        exact ImpX.here ⟨_, .cons (.tmp _ _ rfl) (.cons (.tmp _ _ rfl) .nil), rfl⟩

set_option maxHeartbeats 4000000 in
theorem twin_find_c [GI : GTab] {p0x0 : List PropS} {p1x0 : Str} {r : Int} (h : twin_find p0x0 p1x0 = some r) : Pu Tryz.prog 63 [.list 5 (p0x0.map PropS.av), .str p1x0] (I r) := by
  unfold twin_find at h
  refine ACall.bodyN Tryz.func63 rfl Tryz.ntmps63 Tryz.results63 rfl rfl ?_
  refine tSR <| rA rfl rfl <| rN <| tSR <| rM rfl rfl <| rM rfl rfl <| bndE h fun v1 e1 h => r_callpB rfl (slices_BinarySearchFunc_Prop_Prop_string_c (fun e => twin_find_1x_c (Option.some.inj e)) e1) (.cons (.co (.refl _)) (.cons (.co (.refl _)) (.cons (.funcL _ _ _ .nil) .nil))) rfl rfl <| rM rfl rfl <| rX rfl rfl rfl <| rX rfl rfl rfl <| rA rfl rfl <| rA rfl rfl <| rN <| tS <| tSR <| rM rfl rfl <| ARun.qv (q_not rfl) rfl <| rN <| ATodo.cond rfl (fun hc => ?_) (fun hc => ?_)
  · refine have h := iteT hc h; tSR <| rA rfl rfl <| rN <| ATodo.ret <| ?_
    obtain rfl := Option.some.inj h
    exact ImpX.here ⟨_, .cons (.tmp _ _ rfl) .nil, rfl⟩
  · refine have h := iteFb hc h; tK <| tSR <| rM rfl rfl <| rA rfl rfl <| rN <| ATodo.ret <| ?_
    obtain rfl := Option.some.inj h
    exact ImpX.here ⟨_, .cons (.tmp _ _ rfl) .nil, rfl⟩

set_option maxHeartbeats 4000000 in
theorem twin_CheckProps_1x_c [GI : GTab] {p0x0 : Str} {p1x0 : List PropS} {r : Bool} (h : twin_CheckProps_1x p0x0 p1x0 = some r) : Pu Tryz.prog 62 [.str p0x0, .rptr [.list 5 (p1x0.map PropS.av)]] (.bool r) := by
  unfold twin_CheckProps_1x at h
  refine ACall.bodyN Tryz.func62 rfl Tryz.ntmps62 Tryz.results62 rfl rfl ?_
  refine tSR <| rA rfl rfl <| rN <| tSR <| ARun.qv (q_load_rptr rfl rfl rfl) rfl <| rM rfl rfl <| bndE h fun v1 e1 h => r_callp rfl (twin_find_c e1) (CoL.refl _) rfl <| ARun.qv (q_geq rfl rfl) rfl <| rA rfl rfl <| rN <| ATodo.ret <| ?_
  obtain rfl := Option.some.inj h
  exact ImpX.here ⟨_, .cons (.tmp _ _ rfl) .nil, rfl⟩

set_option maxHeartbeats 4000000 in
theorem twin_above_c [GI : GTab] {p0x0 : Str} {fnb : Str → Option Bool} {fnb_F : FuncId} [IsFn Tryz.prog fnb_F] {fnb_C : List AV} (fnb_h : ∀ {y0 : _} {u : Bool}, fnb y0 = some u → Pu Tryz.prog fnb_F (.str y0 ::  fnb_C) (.bool u)) {r : Bool} (h : twin_above p0x0 fnb = some r) : Pu Tryz.prog 61 [.str p0x0, .func (.func fnb_F) fnb_C] (.bool r) := by
  unfold twin_above at h
  refine ACall.bodyN Tryz.func61 rfl Tryz.ntmps61 Tryz.results61 rfl rfl ?_
  refine tSR <| rA rfl rfl <| rN <| tS <| tSR <| rM rfl rfl <| ARun.qv (q_len_str rfl) rfl <| rM rfl rfl <| rN <| ATodo.block <| ATodo.loopI (fun x : Int => twin_above_b1 p0x0 fnb x) (fun x σ' => σ' = ⟨23, [(0, .str p0x0), (1, .func (.func fnb_F) fnb_C), (7, I (p0x0.length : Int)), (8, I x)], []⟩) h ?_ ?_
  · exact ImpX.lq [] rfl rfl rfl
  · intro n2 z1 σ' J1 hmk h hJ1 hA1
    obtain rfl := hmk
    replace h : twin_above_b1 p0x0 fnb n2 = some z1 := h
    unfold twin_above_b1 at h
    refine tSR <| ARun.qv (q_lss rfl rfl) rfl <| rN <| tS <| ATodo.cond_d rfl (fun hc => ?_) (fun hc => ?_)
    · refine have h := iteT hc h; tK <| tS <| ATodo.block <| tSR <| rM rfl rfl <| rA rfl rfl <| rN <| tS <| ATodo.cut (fun σ' => ∃ (c3 : Bool), twin_above_j1 n2 c3 = some z1 ∧ σ' = ⟨23, [(0, .str p0x0), (1, .func (.func fnb_F) fnb_C), (7, I (p0x0.length : Int)), (8, I n2), (21, .bool c3)], []⟩) ?_ ?_
      · refine tR <| rM rfl rfl <| rM rfl rfl <| bndE h fun c4 e1 h => ARun.qv (t_index_str rfl rfl e1) rfl <| ARun.qv (q_eql rfl rfl) rfl <| rM rfl rfl <| ARun.guard_dt rfl rfl rfl (fun hc => ?_) (fun hc => ?_)
        · exact have h := iteT hc h; rM rfl rfl <| rY rfl rfl rfl <| rM rfl rfl <| rY rfl rfl rfl <| rM rfl rfl <| rY rfl rfl rfl <| bndE h fun l5 e2 h => ARun.qv (t_slice_str rfl .none (.some _ _ _ rfl) rfl rfl e2) rfl <| rY rfl rfl rfl <| bndE h fun v6 e3 h => r_callvp rfl rfl (fnb_h e3) (CoL.refl _) rfl <| rT rfl rfl rfl <| rN <| ATodo.stop <| ImpX.lq [] ⟨v6, h, rfl⟩ rfl rfl
        · exact have h := iteF hc h; rG rfl rfl rfl rfl <| rG rfl rfl rfl rfl <| rG rfl rfl rfl rfl <| rG rfl rfl rfl rfl <| rE rfl rfl rfl <| rN <| ATodo.stop <| ImpX.lq [] ⟨false, h, rfl⟩ rfl rfl
      · rintro σ' ⟨c3, h, rfl⟩
        unfold twin_above_j1 at h
        refine ATodo.cond rfl (fun hc => ?_) (fun hc => ?_)
        · refine have h := iteT hc h; tSR <| rA rfl rfl <| rN <| ATodo.ret <| have h := outL h hA1; ?_
          obtain rfl := Option.some.inj h
          exact ImpX.here ⟨_, .cons (.tmp _ _ rfl) .nil, rfl⟩
        · refine have h := iteFb hc h; tK <| ATodo.blk <| tR <| ARun.qv (q_addw rfl rfl) rfl <| rM rfl rfl <| rN <| ATodo.stop <| ?_
          obtain rfl := Option.some.inj h
          exact hJ1 _ _ rfl <| ImpX.lq [] rfl rfl rfl
    · refine have h := iteF hc h; ATodo.exit rfl <| have h := outL h hA1; tSR <| rA rfl rfl <| rN <| ATodo.ret <| ?_
      obtain rfl := Option.some.inj h
      exact ImpX.here ⟨_, .cons (.tmp _ _ rfl) .nil, rfl⟩

set_option maxHeartbeats 4000000 in
theorem twin_CheckProps_c {p0x0 : List PropS} {r : Int} (h : twin_CheckProps p0x0 = some r) : Pu Tryz.prog 21 [.list 5 (p0x0.map PropS.av)] (I r) := by
  unfold twin_CheckProps at h
  refine ACall.bodyN Tryz.func21 rfl Tryz.ntmps21 Tryz.results21 rfl rfl ?_
  refine tSR <| n_box rfl rfl rfl rfl fun b1 => rA rfl rfl <| rN <| tS <| tSR <| rL rfl rfl .p0 rfl rfl <| ARun.qv (t_len rfl) rfl <| ARun.qv (q_gtr rfl rfl) rfl <| rN <| ATodo.cond_d rfl (fun hc => ?_) (fun hc => ?_)
  · refine have h := iteT hc h; tSR <| rA rfl rfl <| rN <| ATodo.ret <| ?_
    obtain rfl := Option.some.inj h
    exact ImpX.here ⟨_, .cons (.tmp _ _ rfl) .nil, rfl⟩
  · refine have h := iteF hc h; tK <| tS <| tSR <| rL rfl rfl .p0 rfl rfl <| ARun.qv (t_len rfl) rfl <| rM rfl rfl <| rN <| ATodo.block <| ATodo.loopI (fun x : Int => twin_CheckProps_b1 p0x0 x) (fun x σ' => σ' = ⟨57, [(1, .ptr b1 0), (11, .list 5 (p0x0.map PropS.av)), (12, I (p0x0.length : Int)), (13, I x)], [(b1, .cells [.list 5 (p0x0.map PropS.av)])]⟩) h ?_ ?_
    · exact ImpX.lq [0] rfl rfl rfl
    · intro n3 z1 σ' J1 hmk h hJ1 hA1
      obtain rfl := hmk
      replace h : twin_CheckProps_b1 p0x0 n3 = some z1 := h
      unfold twin_CheckProps_b1 at h
      refine tSR <| ARun.qv (q_lss rfl rfl) rfl <| rN <| tS <| ATodo.cond_d rfl (fun hc => ?_) (fun hc => ?_)
      · refine have h := iteT hc h; tK <| tS <| ATodo.block <| tSR <| rM rfl rfl <| bndE h fun v4 e1 h => ARun.qv (t_index rfl rfl rfl e1 rfl rfl) rfl <| ARun.qv (q_load_rptr_agg rfl rfl rfl) rfl <| n_alloc rfl rfl rfl rfl fun b5 => rA rfl rfl <| n_store_ptr rfl rfl rfl rfl .p0 rfl rfl <| rN <| tS <| tSR <| rF rfl rfl rfl <| rL rfl rfl .p0 rfl rfl <| bndE h fun v6 e2 h => r_callp rfl (twin_isName_c e2) (CoL.refl _) rfl <| ARun.qv (q_not rfl) rfl <| rN <| ATodo.cond rfl (fun hc => ?_) (fun hc => ?_)
        · refine have h := iteT hc h; tSR <| rA rfl rfl <| rN <| ATodo.ret <| have h := outL h hA1; ?_
          obtain rfl := Option.some.inj h
          exact ImpX.here ⟨_, .cons (.tmp _ _ rfl) .nil, rfl⟩
        · refine have h := iteFb hc h; tK <| tS <| tSR <| rF rfl rfl rfl <| ARun.qv (n_load_ptr_part rfl rfl .p0 rfl rfl) rfl <| bndE h fun v7 e3 h => r_callp rfl (twin_valueFault_c e3) (CoL.refl _) rfl <| rA rfl rfl <| rN <| tSR <| rM rfl rfl <| ARun.qv (q_neq rfl rfl) rfl <| rN <| ATodo.cond_d rfl (fun hc => ?_) (fun hc => ?_)
          · refine have h := iteT hc h; tSR <| rM rfl rfl <| rA rfl rfl <| rN <| ATodo.ret <| have h := outL h hA1; ?_
            obtain rfl := Option.some.inj h
            exact ImpX.here ⟨_, .cons (.tmp _ _ rfl) .nil, rfl⟩
          · refine have h := iteF hc h; tK <| tS <| tSR <| rF rfl rfl rfl <| rF rfl rfl rfl <| rL rfl rfl .p0 rfl rfl <| ARun.qv (q_eql rfl rfl) rfl <| rN <| ATodo.cond_d rfl (fun hc => ?_) (fun hc => ?_)
            · refine have h := iteT hc h; tSR <| rA rfl rfl <| rN <| ATodo.ret <| have h := outL h hA1; ?_
              obtain rfl := Option.some.inj h
              exact ImpX.here ⟨_, .cons (.tmp _ _ rfl) .nil, rfl⟩
            · refine have h := iteF hc h; tK <| tS <| ATodo.cut (fun σ' => ∃ (c8 : Bool), twin_CheckProps_j1 n3 c8 = some z1 ∧ σ' = ⟨57, [(1, .ptr b1 0), (11, .list 5 (p0x0.map PropS.av)), (12, I (p0x0.length : Int)), (13, I n3), (44, .bool c8)], [(b1, .cells [.list 5 (p0x0.map PropS.av)])]⟩) ?_ ?_
              · refine ATodo.regionM (id := 13) (A := [0, 1, 3, 7, 15, 7, 7, 71, 231, 487, 999, 2047, 4095]) 13 mixed rfl (by kernel_rfl) (by kernel_rfl) <| AM.qv (q_move rfl) rfl <| AM.qv (q_gtr rfl rfl) rfl <| AM.qv (q_move rfl) rfl <| AM.guard_dt rfl rfl rfl (fun hc => ?_) (fun hc => ?_)
                · exact have h := iteT hc h; AM.qv (n_field_ptr rfl rfl) rfl <| AM.guard_yes rfl rfl rfl <| AM.qv (q_load_ptr rfl rfl .p0 rfl) rfl <| AM.guard_yes rfl rfl rfl <| AM.qv (q_load_ptr rfl rfl .p1 rfl) rfl <| AM.guard_yes rfl rfl rfl <| AM.qv (q_move rfl) rfl <| AM.guard_yes rfl rfl rfl <| AM.qv (q_subw rfl rfl) rfl <| AM.guard_yes rfl rfl rfl <| bndE h fun v9 e4 h => AM.qv (t_index rfl rfl rfl e4 rfl rfl) rfl <| AM.guard_yes rfl rfl rfl <| AM.qv (n_field_rptr rfl rfl) rfl <| AM.guard_yes rfl rfl rfl <| AM.qv (q_load_rptr rfl rfl rfl) rfl <| AM.guard_yes rfl rfl rfl <| AM.qv (t_sleq rfl rfl) rfl <| AM.qv (q_pick_t rfl rfl) rfl <| AM.nil <| rN <| ATodo.stop <| ImpX.lq [1] ⟨Op.bytesLess v4.Name v9.Name || v4.Name == v9.Name, h, rfl⟩ rfl rfl
                · exact have h := iteF hc h; AM.guard_no rfl rfl rfl rfl <| AM.guard_no rfl rfl rfl rfl <| AM.guard_no rfl rfl rfl rfl <| AM.guard_no rfl rfl rfl rfl <| AM.guard_no rfl rfl rfl rfl <| AM.guard_no rfl rfl rfl rfl <| AM.guard_no rfl rfl rfl rfl <| AM.guard_no rfl rfl rfl rfl <| AM.qv (q_pick_f rfl rfl) rfl <| AM.nil <| rN <| ATodo.stop <| ImpX.lq [1] ⟨false, h, rfl⟩ rfl rfl
              · rintro σ' ⟨c8, h, rfl⟩
                unfold twin_CheckProps_j1 at h
                refine ATodo.cond rfl (fun hc => ?_) (fun hc => ?_)
                · refine have h := iteT hc h; tSR <| rA rfl rfl <| rN <| ATodo.ret <| have h := outL h hA1; ?_
                  obtain rfl := Option.some.inj h
                  exact ImpX.here ⟨_, .cons (.tmp _ _ rfl) .nil, rfl⟩
                · refine have h := iteFb hc h; tK <| ATodo.blk <| tR <| ARun.qv (q_addw rfl rfl) rfl <| rM rfl rfl <| rN <| ATodo.stop <| ?_
                  obtain rfl := Option.some.inj h
                  exact hJ1 _ _ rfl <| ImpX.lq [0] rfl rfl rfl
      · refine have h := iteF hc h; ATodo.exit rfl <| have h := outL h hA1; tS <| tSR <| rL rfl rfl .p0 rfl rfl <| ARun.qv (t_len rfl) rfl <| rM rfl rfl <| rN <| ATodo.block <| ATodo.loopI (fun x : Int => twin_CheckProps_b2 p0x0 x) (fun x σ' => σ' = ⟨57, [(1, .ptr b1 0), (46, .list 5 (p0x0.map PropS.av)), (47, I (p0x0.length : Int)), (48, I x)], [(b1, .cells [.list 5 (p0x0.map PropS.av)])]⟩) h ?_ ?_
        · exact ImpX.lq [0] rfl rfl rfl
        · intro n11 z2 σ' J2 hmk h hJ2 hA2
          obtain rfl := hmk
          replace h : twin_CheckProps_b2 p0x0 n11 = some z2 := h
          unfold twin_CheckProps_b2 at h
          refine tSR <| ARun.qv (q_lss rfl rfl) rfl <| rN <| tS <| ATodo.cond_d rfl (fun hc => ?_) (fun hc => ?_)
          · refine have h := iteT hc h; tK <| tS <| ATodo.block <| tSR <| bndE h fun v12 e5 h => ARun.qv (t_index rfl rfl rfl e5 rfl rfl) rfl <| ARun.qv (q_load_rptr_agg rfl rfl rfl) rfl <| n_alloc rfl rfl rfl rfl fun b13 => n_store_ptr rfl rfl rfl rfl .p0 rfl rfl <| rN <| tSR <| rF rfl rfl rfl <| rL rfl rfl .p0 rfl rfl <| ARun.qv (q_makeFunc rfl) rfl <| bndE h fun v14 e6 h => r_callpB rfl (twin_above_c (fun e => twin_CheckProps_1x_c e) e6) (.cons (.co (.refl _)) (.cons (.funcL _ _ _ (.cons (.boxL _ _ _ .p1 (.cons (.co (.refl _)) .nil)) .nil)) .nil)) rfl rfl <| rN <| ATodo.cond rfl (fun hc => ?_) (fun hc => ?_)
            · refine have h := iteT hc h; tSR <| rA rfl rfl <| rN <| ATodo.ret <| have h := outL h hA2; ?_
              obtain rfl := Option.some.inj h
              exact ImpX.here ⟨_, .cons (.tmp _ _ rfl) .nil, rfl⟩
            · refine have h := iteFb hc h; tK <| ATodo.blk <| tR <| ARun.qv (q_addw rfl rfl) rfl <| rM rfl rfl <| rN <| ATodo.stop <| ?_
              obtain rfl := Option.some.inj h
              exact hJ2 _ _ rfl <| ImpX.lq [1] rfl rfl rfl
          · refine have h := iteF hc h; ATodo.exit rfl <| have h := outL h hA2; tSR <| rA rfl rfl <| rN <| ATodo.ret <| ?_
            obtain rfl := Option.some.inj h
            exact ImpX.here ⟨_, .cons (.tmp _ _ rfl) .nil, rfl⟩

set_option maxHeartbeats 4000000 in
theorem base_First_c [GI : GTab] {p0x0 : List Int} {r : Int} (h : base_First p0x0 = some r) : Pu Tryz.prog 52 [.list 1 (p0x0.map I)] (I r) := by
  unfold base_First at h
  refine ACall.bodyN Tryz.func52 rfl Tryz.ntmps52 Tryz.results52 rfl rfl ?_
  refine tSR <| rA rfl rfl <| rN <| tS <| tSR <| rM rfl rfl <| ARun.qv (t_len rfl) rfl <| rM rfl rfl <| rN <| ATodo.block <| ATodo.loopI (fun x : Int => base_First_b1 p0x0 x) (fun x σ' => σ' = ⟨15, [(5, .list 1 (p0x0.map I)), (6, I (p0x0.length : Int)), (7, I x)], []⟩) h ?_ ?_
  · exact ImpX.lq [] rfl rfl rfl
  · intro n2 z1 σ' J1 hmk h hJ1 hA1
    obtain rfl := hmk
    replace h : base_First_b1 p0x0 n2 = some z1 := h
    unfold base_First_b1 at h
    refine tSR <| ARun.qv (q_lss rfl rfl) rfl <| rN <| tS <| ATodo.cond_d rfl (fun hc => ?_) (fun hc => ?_)
    · refine have h := iteT hc h; tK <| tS <| ATodo.block <| tSR <| bndE h fun v3 e1 h => ARun.qv (t_index rfl rfl rfl e1 rfl rfl) rfl <| ARun.qv (q_load_rptr rfl rfl rfl) rfl <| rA rfl rfl <| rN <| tSR <| rM rfl rfl <| ARun.qv (q_neq rfl rfl) rfl <| rN <| ATodo.cond_d rfl (fun hc => ?_) (fun hc => ?_)
      · refine have h := iteT hc h; tSR <| rM rfl rfl <| rA rfl rfl <| rN <| ATodo.ret <| have h := outL h hA1; ?_
        obtain rfl := Option.some.inj h
        exact ImpX.here ⟨_, .cons (.tmp _ _ rfl) .nil, rfl⟩
      · refine have h := iteF hc h; tK <| ATodo.blk <| tR <| ARun.qv (q_addw rfl rfl) rfl <| rM rfl rfl <| rN <| ATodo.stop <| ?_
        obtain rfl := Option.some.inj h
        exact hJ1 _ _ rfl <| ImpX.lq [] rfl rfl rfl
    · refine have h := iteF hc h; ATodo.exit rfl <| have h := outL h hA1; tSR <| rA rfl rfl <| rN <| ATodo.ret <| ?_
      obtain rfl := Option.some.inj h
      exact ImpX.here ⟨_, .cons (.tmp _ _ rfl) .nil, rfl⟩

set_option maxHeartbeats 4000000 in
theorem twin_names_c [GI : GTab] {p0x0 : List (List PropS)} {r : (List Str)} (h : twin_names p0x0 = some r) : ACall Tryz.prog 53 [.list 1 (p0x0.map (encL 5 PropS.av))] [] (T1 (fun d_0 => [(d_0, .arr 1 (r.map AV.str))]) (fun d_0 => .sl 1 d_0 0 r.length)) := by
  unfold twin_names at h
  refine ACall.lessH ?_
  refine ACall.bodyN Tryz.func53 rfl Tryz.ntmps53 Tryz.results53 rfl rfl ?_
  refine tSR <| rA rfl rfl <| rN <| tSR <| rA rfl rfl <| rN <| tS <| tSR <| rM rfl rfl <| ARun.qv (t_len rfl) rfl <| rM rfl rfl <| rN <| ATodo.block <| ATodo.loopI (fun x : (List Str) × Int => twin_names_b1 p0x0 x.1 x.2) (fun x σ' => ∃ (b4 : Bk), σ' = ⟨31, [(3, .sl 1 b4 0 x.1.length), (8, .list 1 (p0x0.map (encL 5 PropS.av))), (9, I (p0x0.length : Int)), (10, I x.2)], [(b4, .arr 1 (x.1.map AV.str))]⟩) h ?_ ?_
  · exact ImpX.arr (s := 3) 1 rfl fun b7 => ImpX.lq [0] ⟨b7, rfl⟩ rfl rfl
  · intro x z1 σ' J1 hmk h hJ1 hA1
    obtain ⟨l5, n6⟩ := x
    obtain ⟨b4, rfl⟩ := hmk
    replace h : twin_names_b1 p0x0 l5 n6 = some z1 := h
    unfold twin_names_b1 at h
    refine tSR <| ARun.qv (q_lss rfl rfl) rfl <| rN <| tS <| ATodo.cond_d rfl (fun hc => ?_) (fun hc => ?_)
    · refine have h := iteT hc h; tK <| tS <| ATodo.block <| tSR <| bndE h fun v8 e1 h => ARun.qv (t_index rfl rfl rfl e1 rfl rfl) rfl <| ARun.qv (q_load_rptr rfl rfl rfl) rfl <| rA rfl rfl <| rN <| tSR <| rM rfl rfl <| ARun.qv (t_len rfl) rfl <| rM rfl rfl <| rN <| ATodo.block <| ATodo.loopI (fun x : (List Str) × Int => twin_names_b2 n6 v8 x.1 x.2) (fun x σ' => ∃ (b12 : Bk), σ' = ⟨31, [(3, .sl 1 b12 0 x.1.length), (8, .list 1 (p0x0.map (encL 5 PropS.av))), (9, I (p0x0.length : Int)), (10, I n6), (14, .list 5 (v8.map PropS.av)), (15, I (v8.length : Int)), (16, I x.2)], [(b12, .arr 1 (x.1.map AV.str))]⟩) h ?_ ?_
      · exact ImpX.lq [0] ⟨b4, rfl⟩ rfl rfl
      · intro x z2 σ' J2 hmk h hJ2 hA2
        obtain ⟨l13, n14⟩ := x
        obtain ⟨b12, rfl⟩ := hmk
        replace h : twin_names_b2 n6 v8 l13 n14 = some z2 := h
        unfold twin_names_b2 at h
        refine tSR <| ARun.qv (q_lss rfl rfl) rfl <| rN <| tS <| ATodo.cond_d rfl (fun hc => ?_) (fun hc => ?_)
        · refine have h := iteT hc h; tK <| tS <| ATodo.block <| tSR <| bndE h fun v15 e2 h => ARun.qv (t_index rfl rfl rfl e2 rfl rfl) rfl <| ARun.qv (q_load_rptr_agg rfl rfl rfl) rfl <| n_alloc rfl rfl rfl rfl fun b16 => n_store_ptr rfl rfl rfl rfl .p0 rfl rfl <| rN <| tR <| rM rfl rfl <| rF rfl rfl rfl <| rL rfl rfl .p0 rfl rfl <| n_buildSliceL (xs := ([v15.Name] : List Str).map AV.str) rfl rfl rfl rfl rfl rfl <| bndE h fun l17 e3 h => t_append (g := AV.str) rfl rfl rfl rfl rfl rfl rfl rfl (.list _) e3 (fun _ => .p1) rfl fun b18 => rA rfl rfl <| rN <| ATodo.blk <| tR <| ARun.qv (q_addw rfl rfl) rfl <| rM rfl rfl <| rN <| ATodo.stop <| ?_
          obtain rfl := Option.some.inj h
          exact hJ2 _ _ rfl <| ImpX.lq [1] ⟨b18, rfl⟩ rfl rfl
        · refine have h := iteF hc h; ATodo.exit rfl <| have h := outL h hA2; ATodo.blk <| tR <| ARun.qv (q_addw rfl rfl) rfl <| rM rfl rfl <| rN <| ATodo.stop <| ?_
          obtain rfl := Option.some.inj h
          exact hJ1 _ _ rfl <| ImpX.lq [0] ⟨b12, rfl⟩ rfl rfl
    · refine have h := iteF hc h; ATodo.exit rfl <| have h := outL h hA1; ?_
      unfold twin_names_k1 at h
      refine tSR <| rM rfl rfl <| bndE h fun v19 e4 h => t_call0 rfl (slices_Sort_string_string_c (lenOk_f e4)) (CoL.refl _) (.cons .p0 .nil) rfl rfl <| ARun.ghost <| ImpX.eqs (s := 3) (av' := .sl 1 b4 0 v19.length) rfl (congrArg (AV.sl 1 b4 0) (lenOk_l e4)) <| ImpX.here <| ARun.ghost <| ImpX.eqs (s := 27) (av' := .sl 1 b4 0 v19.length) rfl (congrArg (AV.sl 1 b4 0) (lenOk_l e4)) <| ImpX.here <| rN <| tSR <| rM rfl rfl <| bndE h fun v20 e5 h => t_call1 rfl (slices_Compact_string_string_c e5) (CoL.refl _) (.cons .p0 .nil) (fun _ => rfl) rfl fun b21 => rA rfl rfl <| rN <| ATodo.ret <| ?_
      obtain rfl := Option.some.inj h
      exact ImpX.here ⟨_, .cons (.tmp _ _ rfl) .nil, _, .cons .p0 .nil, ⟨b21, rfl, rfl⟩⟩

set_option maxHeartbeats 4000000 in
theorem twin_valueOf_c [GI : GTab] {p0x0 : List PropS} {p1x0 : Str} {r : ValueS} (h : twin_valueOf p0x0 p1x0 = some r) : Pu Tryz.prog 54 [.list 5 (p0x0.map PropS.av), .str p1x0] (.agg [I r.Kind, .bool r.Flag, I r.Number, .str r.Words]) := by
  unfold twin_valueOf at h
  refine ACall.bodyN Tryz.func54 rfl Tryz.ntmps54 Tryz.results54 rfl rfl ?_
  refine tSR <| n_alloc rfl rfl rfl rfl fun b1 => rN <| tS <| tSR <| rM rfl rfl <| rM rfl rfl <| bndE h fun v2 e1 h => r_callp rfl (twin_find_c e1) (CoL.refl _) rfl <| rA rfl rfl <| rN <| tSR <| rM rfl rfl <| ARun.qv (q_geq rfl rfl) rfl <| rN <| ATodo.cond_d rfl (fun hc => ?_) (fun hc => ?_)
  · refine have h := iteT hc h; tSR <| rM rfl rfl <| rM rfl rfl <| bndE h fun v3 e2 h => ARun.qv (t_index rfl rfl rfl e2 rfl rfl) rfl <| ARun.qv (n_field_rptr rfl rfl) rfl <| ARun.qv (q_load_rptr_agg rfl rfl rfl) rfl <| n_store_ptr rfl rfl rfl rfl .p0 rfl rfl <| rN <| ATodo.ret <| ?_
    obtain rfl := Option.some.inj h
    exact ImpX.here ⟨_, .cons (.all _ _ _ _ _ _ rfl .p0 TUnder.h TInfo.h rfl rfl) .nil, rfl⟩
  · refine have h := iteF hc h; tK <| tSR <| ARun.qv (n_build rfl rfl rfl rfl rfl) rfl <| n_store_ptr rfl rfl rfl rfl .p0 rfl rfl <| rN <| ATodo.ret <| ?_
    obtain rfl := Option.some.inj h
    exact ImpX.here ⟨_, .cons (.all _ _ _ _ _ _ rfl .p0 TUnder.h TInfo.h rfl rfl) .nil, rfl⟩

set_option maxHeartbeats 4000000 in
theorem twin_Three_c {p0x0 : List PropS} {p1x0 : List PropS} {p2x0 : List PropS} {r : (List PropS) × (List Clash) × Int} (h : twin_Three p0x0 p1x0 p2x0 = some r) : ACall Tryz.prog 12 [.list 5 (p0x0.map PropS.av), .list 5 (p1x0.map PropS.av), .list 5 (p2x0.map PropS.av)] [] (T2 (fun d_0 d_1 => [(d_0, .arr 5 (r.1.map PropS.av)), (d_1, .arr 13 (r.2.1.map Clash.av))]) (fun d_0 d_1 => .tup [.sl 5 d_0 0 r.1.length, .sl 13 d_1 0 r.2.1.length, I r.2.2])) := by
  unfold twin_Three at h
  refine ACall.lessH ?_
  refine ACall.bodyN Tryz.func12 rfl Tryz.ntmps12 Tryz.results12 rfl rfl ?_
  refine tSR <| rA rfl rfl <| rA rfl rfl <| rA rfl rfl <| rN <| tS <| tSR <| rM rfl rfl <| bndE h fun v1 e1 h => r_callp rfl (twin_CheckProps_c e1) (CoL.refl _) rfl <| rM rfl rfl <| bndE h fun v2 e2 h => r_callp rfl (twin_CheckProps_c e2) (CoL.refl _) rfl <| rM rfl rfl <| bndE h fun v3 e3 h => r_callp rfl (twin_CheckProps_c e3) (CoL.refl _) rfl <| n_buildSliceL (xs := ([v1, v2, v3] : List Int).map I) rfl rfl rfl rfl rfl rfl <| bndE h fun v4 e4 h => r_callp rfl (base_First_c e4) (CoL.refl _) rfl <| rA rfl rfl <| rN <| tSR <| rM rfl rfl <| ARun.qv (q_neq rfl rfl) rfl <| rN <| ATodo.cond_d rfl (fun hc => ?_) (fun hc => ?_)
  · refine have h := iteT hc h; tSR <| rM rfl rfl <| rA rfl rfl <| rA rfl rfl <| rA rfl rfl <| rN <| ATodo.ret <| ?_
    obtain rfl := Option.some.inj h
    exact ImpX.arr (s := 6) 5 rfl fun b5 => ImpX.arr (s := 7) 13 rfl fun b6 => ImpX.here ⟨_, .cons (.tmp _ _ rfl) (.cons (.tmp _ _ rfl) (.cons (.tmp _ _ rfl) .nil)), _, .cons .p1 (.cons .p0 .nil), ⟨b5, b6, rfl, rfl⟩⟩
  · refine have h := iteF hc h; tK <| tSR <| rA rfl rfl <| rN <| tSR <| rA rfl rfl <| rN <| tS <| tSR <| rM rfl rfl <| rM rfl rfl <| rM rfl rfl <| n_buildSliceL (xs := ([p0x0, p1x0, p2x0] : List (List PropS)).map (encL 5 PropS.av)) rfl rfl rfl rfl rfl rfl <| bndE h fun v7 e5 h => t_call1 rfl (twin_names_c e5) (CoL.refl _) .nil (fun _ => rfl) rfl fun b8 => ARun.qv (t_len_sl rfl) rfl <| rM rfl rfl <| rN <| ATodo.block <| ATodo.loopI (fun x : (List PropS) × (List Clash) × Int => twin_Three_b1 p0x0 p1x0 p2x0 v7 x.1 x.2.1 x.2.2) (fun x σ' => ∃ (b14 : Bk) (b16 : Bk), σ' = ⟨90, [(0, .list 5 (p0x0.map PropS.av)), (1, .list 5 (p1x0.map PropS.av)), (2, .list 5 (p2x0.map PropS.av)), (10, .sl 5 b14 0 x.1.length), (11, .sl 13 b16 0 x.2.1.length), (34, .sl 1 b8 0 v7.length), (35, I (v7.length : Int)), (36, I x.2.2)], [(b14, .arr 5 (x.1.map PropS.av)), (b16, .arr 13 (x.2.1.map Clash.av)), (b8, .arr 1 (v7.map AV.str))]⟩) h ?_ ?_
    · exact ImpX.arr (s := 10) 5 rfl fun b19 => ImpX.arr (s := 11) 13 rfl fun b20 => ImpX.lq [1, 0, 0] ⟨b19, b20, rfl⟩ rfl rfl
    · intro x z1 σ' J1 hmk h hJ1 hA1
      obtain ⟨l15, l17, n18⟩ := x
      obtain ⟨b14, b16, rfl⟩ := hmk
      replace h : twin_Three_b1 p0x0 p1x0 p2x0 v7 l15 l17 n18 = some z1 := h
      unfold twin_Three_b1 at h
      refine tSR <| ARun.qv (q_lss rfl rfl) rfl <| rN <| tS <| ATodo.cond_d rfl (fun hc => ?_) (fun hc => ?_)
      · refine have h := iteT hc h; tK <| tS <| ATodo.block <| tSR <| bndE h fun v21 e6 h => ARun.qv (t_index_sl rfl rfl rfl e6) rfl <| ARun.qv (t_load_aptr (g := AV.str) rfl rfl (.inl .p2) e6 rfl) rfl <| rA rfl rfl <| rN <| tSR <| rM rfl rfl <| rM rfl rfl <| bndE h fun v22 e7 h => r_callp rfl (twin_valueOf_c e7) (CoL.refl _) rfl <| rM rfl rfl <| rM rfl rfl <| bndE h fun v23 e8 h => r_callp rfl (twin_valueOf_c e8) (CoL.refl _) rfl <| rM rfl rfl <| rM rfl rfl <| bndE h fun v24 e9 h => r_callp rfl (twin_valueOf_c e9) (CoL.refl _) rfl <| n_alloc rfl rfl rfl rfl fun b25 => n_alloc rfl rfl rfl rfl fun b26 => n_alloc rfl rfl rfl rfl fun b27 => n_store_ptr rfl rfl rfl rfl .p2 rfl rfl <| n_store_ptr rfl rfl rfl rfl .p1 rfl rfl <| n_store_ptr rfl rfl rfl rfl .p0 rfl rfl <| rN <| tSR <| ARun.qv (q_load_ptr_all rfl rfl .p2 rfl) rfl <| n_alloc rfl rfl rfl rfl fun b28 => n_store_ptr rfl rfl rfl rfl .p0 rfl rfl <| rN <| tS <| ATodo.block <| tS <| ATodo.cut (fun σ' => ∃ (c29 : Bool), twin_Three_j1 l15 l17 n18 v21 v22 v23 v24 c29 = some z1 ∧ σ' = ⟨90, [(0, .list 5 (p0x0.map PropS.av)), (1, .list 5 (p1x0.map PropS.av)), (2, .list 5 (p2x0.map PropS.av)), (10, .sl 5 b14 0 l15.length), (11, .sl 13 b16 0 l17.length), (13, .str v21), (14, .ptr b25 0), (15, .ptr b26 0), (16, .ptr b27 0), (17, .ptr b28 0), (34, .sl 1 b8 0 v7.length), (35, I (v7.length : Int)), (36, I n18), (58, .bool c29)], [(b14, .arr 5 (l15.map PropS.av)), (b16, .arr 13 (l17.map Clash.av)), (b25, .cells [I v22.Kind, .bool v22.Flag, I v22.Number, .str v22.Words]), (b26, .cells [I v23.Kind, .bool v23.Flag, I v23.Number, .str v23.Words]), (b27, .cells [I v24.Kind, .bool v24.Flag, I v24.Number, .str v24.Words]), (b28, .cells [I v22.Kind, .bool v22.Flag, I v22.Number, .str v22.Words]), (b8, .arr 1 (v7.map AV.str))]⟩) ?_ ?_
        · refine tR <| ARun.qv (q_load_ptr_all rfl rfl .p2 rfl) rfl <| ARun.qv (q_load_ptr_all rfl rfl .p3 rfl) rfl <| ARun.qv (t_teq (g := ValueS.av) (X := v23) (Y := v22) rfl rfl rfl rfl rfl) rfl <| rM rfl rfl <| ARun.guard_df rfl rfl rfl (fun hc => ?_) (fun hc => ?_)
          · rw [orFd hc] at h
            exact ARun.qv (q_load_ptr_all rfl rfl .p2 rfl) rfl <| rY rfl rfl rfl <| ARun.qv (q_load_ptr_all rfl rfl .p1 rfl) rfl <| rY rfl rfl rfl <| ARun.qv (t_teq (g := ValueS.av) (X := v23) (Y := v24) rfl rfl rfl rfl rfl) rfl <| rE rfl rfl rfl <| rA rfl rfl <| rN <| ATodo.stop <| ImpX.lq [4, 4, 3, 2, 1, 0, 0] ⟨decide (v23 = v24), h, rfl⟩ rfl rfl
          · rw [orTd hc] at h
            exact rG rfl rfl rfl rfl <| rG rfl rfl rfl rfl <| rT rfl rfl rfl <| rA rfl rfl <| rN <| ATodo.stop <| ImpX.lq [4, 4, 3, 2, 1, 0, 0] ⟨true, h, rfl⟩ rfl rfl
        · rintro σ' ⟨c29, h, rfl⟩
          unfold twin_Three_j1 at h
          refine ATodo.cut (fun σ' => ∃ (b30 : Bk) (l31 : List Clash) (n32 : Int) (c33 : Bool) (n34 : Int) (q35 : Str), twin_Three_j2 l15 n18 v21 l31 n32 c33 n34 q35 = some z1 ∧ σ' = ⟨90, [(0, .list 5 (p0x0.map PropS.av)), (1, .list 5 (p1x0.map PropS.av)), (2, .list 5 (p2x0.map PropS.av)), (10, .sl 5 b14 0 l15.length), (11, .sl 13 b30 0 l31.length), (13, .str v21), (17, .ptr b28 0), (34, .sl 1 b8 0 v7.length), (35, I (v7.length : Int)), (36, I n18)], [(b14, .arr 5 (l15.map PropS.av)), (b30, .arr 13 (l31.map Clash.av)), (b28, .cells [I n32, .bool c33, I n34, .str q35]), (b8, .arr 1 (v7.map AV.str))]⟩) ?_ ?_
          · refine ATodo.cond rfl (fun hc => ?_) (fun hc => ?_)
            · exact have h := iteT hc h; tR <| ARun.qv (q_load_ptr_all rfl rfl .p4 rfl) rfl <| n_store_ptr rfl rfl rfl rfl .p5 rfl rfl <| rN <| ATodo.stop <| ImpX.lq [0, 0, 3, 3] ⟨b16, l17, v24.Kind, v24.Flag, v24.Number, v24.Words, h, rfl⟩ rfl rfl
            · refine have h := iteFb hc h; tSR <| ARun.qv (q_load_ptr_all rfl rfl .p4 rfl) rfl <| ARun.qv (q_load_ptr_all rfl rfl .p2 rfl) rfl <| ARun.qv (t_teq (g := ValueS.av) (X := v24) (Y := v22) rfl rfl rfl rfl rfl) rfl <| rA rfl rfl <| rN <| ATodo.cut (fun σ' => ∃ (b36 : Bk) (l37 : List Clash) (n38 : Int) (c39 : Bool) (n40 : Int) (q41 : Str), twin_Three_j3 l15 n18 v21 l37 n38 c39 n40 q41 = some z1 ∧ σ' = ⟨90, [(0, .list 5 (p0x0.map PropS.av)), (1, .list 5 (p1x0.map PropS.av)), (2, .list 5 (p2x0.map PropS.av)), (10, .sl 5 b14 0 l15.length), (11, .sl 13 b36 0 l37.length), (13, .str v21), (17, .ptr b28 0), (34, .sl 1 b8 0 v7.length), (35, I (v7.length : Int)), (36, I n18)], [(b14, .arr 5 (l15.map PropS.av)), (b36, .arr 13 (l37.map Clash.av)), (b28, .cells [I n38, .bool c39, I n40, .str q41]), (b8, .arr 1 (v7.map AV.str))]⟩) ?_ ?_
              · refine ATodo.cond_d rfl (fun hc => ?_) (fun hc => ?_)
                · exact have h := iteT hc h; tR <| ARun.qv (q_load_ptr_all rfl rfl .p3 rfl) rfl <| n_store_ptr rfl rfl rfl rfl .p5 rfl rfl <| rN <| ATodo.stop <| ImpX.lq [0, 0, 3, 3] ⟨b16, l17, v23.Kind, v23.Flag, v23.Number, v23.Words, h, rfl⟩ rfl rfl
                · exact have h := iteF hc h; tR <| rM rfl rfl <| rM rfl rfl <| ARun.qv (q_load_ptr_all rfl rfl .p2 rfl) rfl <| ARun.qv (q_load_ptr_all rfl rfl .p3 rfl) rfl <| ARun.qv (q_load_ptr_all rfl rfl .p4 rfl) rfl <| ARun.qv (n_build rfl rfl rfl rfl rfl) rfl <| n_buildSliceL (xs := ([(⟨v21, v22, v23, v24⟩ : Clash)]).map Clash.av) rfl rfl rfl rfl rfl rfl <| bndE h fun l42 e10 h => t_append (g := Clash.av) rfl rfl rfl rfl rfl rfl rfl rfl (.list _) e10 (fun _ => .p1) rfl fun b43 => rA rfl rfl <| rN <| ATodo.stop <| ImpX.lq [0, 0, 3, 3] ⟨b43, l42, v22.Kind, v22.Flag, v22.Number, v22.Words, h, rfl⟩ rfl rfl
              · rintro σ' ⟨b36, l37, n38, c39, n40, q41, h, rfl⟩
                unfold twin_Three_j3 at h
                exact ATodo.stop <| ImpX.lq [0, 0, 0, 0] ⟨b36, l37, n38, c39, n40, q41, h, rfl⟩ rfl rfl
          · rintro σ' ⟨b30, l31, n32, c33, n34, q35, h, rfl⟩
            unfold twin_Three_j2 at h
            refine ATodo.blk <| tSR <| rF rfl rfl rfl <| rL rfl rfl .p2 rfl rfl <| ARun.qv (q_neq rfl rfl) rfl <| rN <| ATodo.cut (fun σ' => ∃ (b44 : Bk) (l45 : List PropS), twin_Three_j4 n18 l31 l45 = some z1 ∧ σ' = ⟨90, [(0, .list 5 (p0x0.map PropS.av)), (1, .list 5 (p1x0.map PropS.av)), (2, .list 5 (p2x0.map PropS.av)), (10, .sl 5 b44 0 l45.length), (11, .sl 13 b30 0 l31.length), (34, .sl 1 b8 0 v7.length), (35, I (v7.length : Int)), (36, I n18)], [(b44, .arr 5 (l45.map PropS.av)), (b30, .arr 13 (l31.map Clash.av)), (b8, .arr 1 (v7.map AV.str))]⟩) ?_ ?_
            · refine ATodo.cond_d rfl (fun hc => ?_) (fun hc => ?_)
              · exact have h := iteT hc h; tR <| rM rfl rfl <| rM rfl rfl <| ARun.qv (q_load_ptr_all rfl rfl .p2 rfl) rfl <| ARun.qv (n_build rfl rfl rfl rfl rfl) rfl <| n_buildSliceL (xs := ([(⟨v21, (⟨n32, c33, n34, q35⟩ : ValueS)⟩ : PropS)]).map PropS.av) rfl rfl rfl rfl rfl rfl <| bndE h fun l46 e11 h => t_append (g := PropS.av) rfl rfl rfl rfl rfl rfl rfl rfl (.list _) e11 (fun _ => .p0) rfl fun b47 => rA rfl rfl <| rN <| ATodo.stop <| ImpX.lq [0, 0, 1] ⟨b47, l46, h, rfl⟩ rfl rfl
              · exact have h := iteF hc h; tK <| ATodo.stop <| ImpX.lq [0, 0, 1] ⟨b14, l15, h, rfl⟩ rfl rfl
            · rintro σ' ⟨b44, l45, h, rfl⟩
              unfold twin_Three_j4 at h
              refine ATodo.blk <| tR <| ARun.qv (q_addw rfl rfl) rfl <| rM rfl rfl <| rN <| ATodo.stop <| ?_
              obtain rfl := Option.some.inj h
              exact hJ1 _ _ rfl <| ImpX.lq [0, 0, 0] ⟨b44, b30, rfl⟩ rfl rfl
      · refine have h := iteF hc h; ATodo.exit rfl <| have h := outL h hA1; ?_
        unfold twin_Three_k5 at h
        refine tS <| tSR <| rM rfl rfl <| bndE h fun v48 e12 h => r_callpB rfl (twin_CheckProps_c e12) (.cons (CoB.arrT .p0) .nil) rfl rfl <| rA rfl rfl <| rN <| tSR <| rM rfl rfl <| ARun.qv (q_neq rfl rfl) rfl <| rN <| ATodo.cond_d rfl (fun hc => ?_) (fun hc => ?_)
        · refine have h := iteT hc h; tSR <| rM rfl rfl <| rA rfl rfl <| rA rfl rfl <| rA rfl rfl <| rN <| ATodo.ret <| ?_
          obtain rfl := Option.some.inj h
          exact ImpX.arr (s := 6) 5 rfl fun b49 => ImpX.arr (s := 7) 13 rfl fun b50 => ImpX.here ⟨_, .cons (.tmp _ _ rfl) (.cons (.tmp _ _ rfl) (.cons (.tmp _ _ rfl) .nil)), _, .cons .p1 (.cons .p0 .nil), ⟨b49, b50, rfl, rfl⟩⟩
        · refine have h := iteF hc h; tK <| tSR <| rM rfl rfl <| rM rfl rfl <| rA rfl rfl <| rA rfl rfl <| rA rfl rfl <| rN <| ATodo.ret <| ?_
          obtain rfl := Option.some.inj h
          exact ImpX.here ⟨_, .cons (.tmp _ _ rfl) (.cons (.tmp _ _ rfl) (.cons (.tmp _ _ rfl) .nil)), _, .cons .p0 (.cons .p0 .nil), ⟨b14, b16, rfl, rfl⟩⟩

set_option maxHeartbeats 4000000 in
theorem L_errs_c [GI : GTab] {p0x0 : List Int} {r : Int} (h : L_errs p0x0 = some r) : Pu Tryz.prog 13 [.list 1 (p0x0.map I)] (I r) := by
  unfold L_errs at h
  refine ACall.bodyN Tryz.func13 rfl Tryz.ntmps13 Tryz.results13 rfl rfl ?_
  refine tSR <| rA rfl rfl <| rN <| tS <| tSR <| rM rfl rfl <| ARun.qv (t_len rfl) rfl <| rM rfl rfl <| rN <| ATodo.block <| ATodo.loopI (fun x : Int => L_errs_b1 p0x0 x) (fun x σ' => σ' = ⟨15, [(5, .list 1 (p0x0.map I)), (6, I (p0x0.length : Int)), (7, I x)], []⟩) h ?_ ?_
  · exact ImpX.lq [] rfl rfl rfl
  · intro n2 z1 σ' J1 hmk h hJ1 hA1
    obtain rfl := hmk
    replace h : L_errs_b1 p0x0 n2 = some z1 := h
    unfold L_errs_b1 at h
    refine tSR <| ARun.qv (q_lss rfl rfl) rfl <| rN <| tS <| ATodo.cond_d rfl (fun hc => ?_) (fun hc => ?_)
    · refine have h := iteT hc h; tK <| tS <| ATodo.block <| tSR <| bndE h fun v3 e1 h => ARun.qv (t_index rfl rfl rfl e1 rfl rfl) rfl <| ARun.qv (q_load_rptr rfl rfl rfl) rfl <| rA rfl rfl <| rN <| tSR <| rM rfl rfl <| ARun.qv (q_neq rfl rfl) rfl <| rN <| ATodo.cond_d rfl (fun hc => ?_) (fun hc => ?_)
      · refine have h := iteT hc h; tSR <| rM rfl rfl <| rA rfl rfl <| rN <| ATodo.ret <| have h := outL h hA1; ?_
        obtain rfl := Option.some.inj h
        exact ImpX.here ⟨_, .cons (.tmp _ _ rfl) .nil, rfl⟩
      · refine have h := iteF hc h; tK <| ATodo.blk <| tR <| ARun.qv (q_addw rfl rfl) rfl <| rM rfl rfl <| rN <| ATodo.stop <| ?_
        obtain rfl := Option.some.inj h
        exact hJ1 _ _ rfl <| ImpX.lq [] rfl rfl rfl
    · refine have h := iteF hc h; ATodo.exit rfl <| have h := outL h hA1; tSR <| rA rfl rfl <| rN <| ATodo.ret <| ?_
      obtain rfl := Option.some.inj h
      exact ImpX.here ⟨_, .cons (.tmp _ _ rfl) .nil, rfl⟩

set_option maxHeartbeats 4000000 in
theorem Q_ThreeOf_c {p0x0 : List PropS} {p1x0 : List PropS} {p2x0 : List PropS} {r : (List PropS) × (List Clash) × Int} (h : Q_ThreeOf p0x0 p1x0 p2x0 = some r) : ACall Tryz.prog 14 [.list 5 (p0x0.map PropS.av), .list 5 (p1x0.map PropS.av), .list 5 (p2x0.map PropS.av)] [] (T2 (fun d_0 d_1 => [(d_0, .arr 5 (r.1.map PropS.av)), (d_1, .arr 13 (r.2.1.map Clash.av))]) (fun d_0 d_1 => .tup [.sl 5 d_0 0 r.1.length, .sl 13 d_1 0 r.2.1.length, I r.2.2])) := by
  unfold Q_ThreeOf at h
  refine ACall.lessH ?_
  refine ACall.bodyN Tryz.func14 rfl Tryz.ntmps14 Tryz.results14 rfl rfl ?_
  refine tSR <| rA rfl rfl <| rA rfl rfl <| rA rfl rfl <| rN <| tSR <| t_makeMap rfl fun b1 => rA rfl rfl <| rN <| tSR <| rA rfl rfl <| rN <| tS <| tSR <| rM rfl rfl <| rM rfl rfl <| rM rfl rfl <| n_buildSliceL (xs := ([p0x0, p1x0, p2x0] : List (List PropS)).map (encL 5 PropS.av)) rfl rfl rfl rfl rfl rfl <| bndE h fun v2 e1 h => t_call1 rfl (Q_namesOf_c e1) (CoL.refl _) .nil (fun _ => rfl) rfl fun b3 => ARun.qv (t_len_sl rfl) rfl <| rM rfl rfl <| rN <| ATodo.block <| ATodo.loopI (fun x : (List (Str × ValueS)) × (List Clash) × Int => Q_ThreeOf_b1 p0x0 p1x0 p2x0 v2 x.1 x.2.1 x.2.2) (fun x σ' => ∃ (b9 : Bk), σ' = ⟨79, [(0, .list 5 (p0x0.map PropS.av)), (1, .list 5 (p1x0.map PropS.av)), (2, .list 5 (p2x0.map PropS.av)), (9, .mref b1), (10, .sl 13 b9 0 x.2.1.length), (23, .sl 1 b3 0 v2.length), (24, I (v2.length : Int)), (25, I x.2.2)], [(b1, .mp (x.1.map (fun e => (AV.str e.1, ValueS.av e.2)))), (b9, .arr 13 (x.2.1.map Clash.av)), (b3, .arr 1 (v2.map AV.str))]⟩) h ?_ ?_
  · exact ImpX.arr (s := 10) 13 rfl fun b12 => ImpX.lq [2, 0, 0] ⟨b12, rfl⟩ rfl rfl
  · intro x z1 σ' J1 hmk h hJ1 hA1
    obtain ⟨l8, l10, n11⟩ := x
    obtain ⟨b9, rfl⟩ := hmk
    replace h : Q_ThreeOf_b1 p0x0 p1x0 p2x0 v2 l8 l10 n11 = some z1 := h
    unfold Q_ThreeOf_b1 at h
    refine tSR <| ARun.qv (q_lss rfl rfl) rfl <| rN <| tS <| ATodo.cond_d rfl (fun hc => ?_) (fun hc => ?_)
    · refine have h := iteT hc h; tK <| tS <| ATodo.block <| tSR <| bndE h fun v13 e2 h => ARun.qv (t_index_sl rfl rfl rfl e2) rfl <| ARun.qv (t_load_aptr (g := AV.str) rfl rfl (.inl .p2) e2 rfl) rfl <| rA rfl rfl <| rN <| tSR <| rM rfl rfl <| rM rfl rfl <| bndE h fun v14 e3 h => r_callp rfl (Q_ValueOf_c e3) (CoL.refl _) rfl <| rM rfl rfl <| rM rfl rfl <| bndE h fun v15 e4 h => r_callp rfl (Q_ValueOf_c e4) (CoL.refl _) rfl <| rM rfl rfl <| rM rfl rfl <| bndE h fun v16 e5 h => r_callp rfl (Q_ValueOf_c e5) (CoL.refl _) rfl <| n_alloc rfl rfl rfl rfl fun b17 => n_alloc rfl rfl rfl rfl fun b18 => n_alloc rfl rfl rfl rfl fun b19 => n_store_ptr rfl rfl rfl rfl .p2 rfl rfl <| n_store_ptr rfl rfl rfl rfl .p1 rfl rfl <| n_store_ptr rfl rfl rfl rfl .p0 rfl rfl <| rN <| ATodo.block <| tS <| ATodo.cut (fun σ' => ∃ (c20 : Bool), Q_ThreeOf_j1 l8 l10 n11 v13 v14 v15 v16 c20 = some z1 ∧ σ' = ⟨79, [(0, .list 5 (p0x0.map PropS.av)), (1, .list 5 (p1x0.map PropS.av)), (2, .list 5 (p2x0.map PropS.av)), (9, .mref b1), (10, .sl 13 b9 0 l10.length), (12, .str v13), (13, .ptr b17 0), (14, .ptr b18 0), (15, .ptr b19 0), (23, .sl 1 b3 0 v2.length), (24, I (v2.length : Int)), (25, I n11), (49, .bool c20)], [(b1, .mp (l8.map (fun e => (AV.str e.1, ValueS.av e.2)))), (b9, .arr 13 (l10.map Clash.av)), (b17, .cells [I v14.Kind, .bool v14.Flag, I v14.Number, .str v14.Words]), (b18, .cells [I v15.Kind, .bool v15.Flag, I v15.Number, .str v15.Words]), (b19, .cells [I v16.Kind, .bool v16.Flag, I v16.Number, .str v16.Words]), (b3, .arr 1 (v2.map AV.str))]⟩) ?_ ?_
      · refine tR <| ARun.qv (q_load_ptr_all rfl rfl .p1 rfl) rfl <| ARun.qv (q_load_ptr_all rfl rfl .p2 rfl) rfl <| ARun.qv (t_teq (g := ValueS.av) (X := v15) (Y := v14) rfl rfl rfl rfl rfl) rfl <| rM rfl rfl <| ARun.guard_df rfl rfl rfl (fun hc => ?_) (fun hc => ?_)
        · rw [orFd hc] at h
          exact ARun.qv (q_load_ptr_all rfl rfl .p1 rfl) rfl <| rY rfl rfl rfl <| ARun.qv (q_load_ptr_all rfl rfl .p0 rfl) rfl <| rY rfl rfl rfl <| ARun.qv (t_teq (g := ValueS.av) (X := v15) (Y := v16) rfl rfl rfl rfl rfl) rfl <| rE rfl rfl rfl <| rA rfl rfl <| rN <| ATodo.stop <| ImpX.lq [3, 3, 2, 1, 0, 0] ⟨decide (v15 = v16), h, rfl⟩ rfl rfl
        · rw [orTd hc] at h
          exact rG rfl rfl rfl rfl <| rG rfl rfl rfl rfl <| rT rfl rfl rfl <| rA rfl rfl <| rN <| ATodo.stop <| ImpX.lq [3, 3, 2, 1, 0, 0] ⟨true, h, rfl⟩ rfl rfl
      · rintro σ' ⟨c20, h, rfl⟩
        unfold Q_ThreeOf_j1 at h
        refine ATodo.cut (fun σ' => ∃ (b22 : Bk) (l21 : List (Str × ValueS)) (l23 : List Clash), Q_ThreeOf_j2 n11 l21 l23 = some z1 ∧ σ' = ⟨79, [(0, .list 5 (p0x0.map PropS.av)), (1, .list 5 (p1x0.map PropS.av)), (2, .list 5 (p2x0.map PropS.av)), (9, .mref b1), (10, .sl 13 b22 0 l23.length), (23, .sl 1 b3 0 v2.length), (24, I (v2.length : Int)), (25, I n11)], [(b1, .mp (l21.map (fun e => (AV.str e.1, ValueS.av e.2)))), (b22, .arr 13 (l23.map Clash.av)), (b3, .arr 1 (v2.map AV.str))]⟩) ?_ ?_
        · refine ATodo.cond rfl (fun hc => ?_) (fun hc => ?_)
          · exact have h := iteT hc h; tR <| rM rfl rfl <| rM rfl rfl <| ARun.qv (q_load_ptr_all rfl rfl .p4 rfl) rfl <| t_mapUpdate (gk := AV.str) (gv := ValueS.av) (M := l8) (key := v13) (v := v16) rfl rfl rfl rfl .p0 <| rN <| ATodo.stop <| ImpX.lq [0, 0, 3] ⟨b9, mset l8 v13 v16, l10, h, rfl⟩ rfl rfl
          · refine have h := iteFb hc h; tSR <| ARun.qv (q_load_ptr_all rfl rfl .p4 rfl) rfl <| ARun.qv (q_load_ptr_all rfl rfl .p2 rfl) rfl <| ARun.qv (t_teq (g := ValueS.av) (X := v16) (Y := v14) rfl rfl rfl rfl rfl) rfl <| rA rfl rfl <| rN <| ATodo.cut (fun σ' => ∃ (b25 : Bk) (l24 : List (Str × ValueS)) (l26 : List Clash), Q_ThreeOf_j3 n11 l24 l26 = some z1 ∧ σ' = ⟨79, [(0, .list 5 (p0x0.map PropS.av)), (1, .list 5 (p1x0.map PropS.av)), (2, .list 5 (p2x0.map PropS.av)), (9, .mref b1), (10, .sl 13 b25 0 l26.length), (23, .sl 1 b3 0 v2.length), (24, I (v2.length : Int)), (25, I n11)], [(b1, .mp (l24.map (fun e => (AV.str e.1, ValueS.av e.2)))), (b25, .arr 13 (l26.map Clash.av)), (b3, .arr 1 (v2.map AV.str))]⟩) ?_ ?_
            · refine ATodo.cond_d rfl (fun hc => ?_) (fun hc => ?_)
              · exact have h := iteT hc h; tR <| rM rfl rfl <| rM rfl rfl <| ARun.qv (q_load_ptr_all rfl rfl .p3 rfl) rfl <| t_mapUpdate (gk := AV.str) (gv := ValueS.av) (M := l8) (key := v13) (v := v15) rfl rfl rfl rfl .p0 <| rN <| ATodo.stop <| ImpX.lq [0, 0, 3] ⟨b9, mset l8 v13 v15, l10, h, rfl⟩ rfl rfl
              · exact have h := iteF hc h; tSR <| rM rfl rfl <| rM rfl rfl <| ARun.qv (q_load_ptr_all rfl rfl .p2 rfl) rfl <| t_mapUpdate (gk := AV.str) (gv := ValueS.av) (M := l8) (key := v13) (v := v14) rfl rfl rfl rfl .p0 <| rN <| tR <| rM rfl rfl <| rM rfl rfl <| ARun.qv (q_load_ptr_all rfl rfl .p2 rfl) rfl <| ARun.qv (q_load_ptr_all rfl rfl .p3 rfl) rfl <| ARun.qv (q_load_ptr_all rfl rfl .p4 rfl) rfl <| ARun.qv (n_build rfl rfl rfl rfl rfl) rfl <| n_buildSliceL (xs := ([(⟨v13, v14, v15, v16⟩ : Clash)]).map Clash.av) rfl rfl rfl rfl rfl rfl <| bndE h fun l27 e6 h => t_append (g := Clash.av) rfl rfl rfl rfl rfl rfl rfl rfl (.list _) e6 (fun _ => .p1) rfl fun b28 => rA rfl rfl <| rN <| ATodo.stop <| ImpX.lq [0, 0, 3] ⟨b28, mset l8 v13 v14, l27, h, rfl⟩ rfl rfl
            · rintro σ' ⟨b25, l24, l26, h, rfl⟩
              unfold Q_ThreeOf_j3 at h
              exact ATodo.stop <| ImpX.lq [0, 0, 0] ⟨b25, l24, l26, h, rfl⟩ rfl rfl
        · rintro σ' ⟨b22, l21, l23, h, rfl⟩
          unfold Q_ThreeOf_j2 at h
          refine ATodo.blk <| ATodo.blk <| tR <| ARun.qv (q_addw rfl rfl) rfl <| rM rfl rfl <| rN <| ATodo.stop <| ?_
          obtain rfl := Option.some.inj h
          exact hJ1 _ _ rfl <| ImpX.lq [0, 0, 0] ⟨b22, rfl⟩ rfl rfl
    · refine have h := iteF hc h; ATodo.exit rfl <| have h := outL h hA1; ?_
      unfold Q_ThreeOf_k4 at h
      refine tSR <| rM rfl rfl <| bndE h fun v29 e7 h => t_call1 rfl (Q_fromValues_c e7) (CoL.refl _) (.cons .p0 .nil) (fun _ => rfl) rfl fun b30 => rM rfl rfl <| rX rfl rfl rfl <| rX rfl rfl rfl <| rA rfl rfl <| rA rfl rfl <| rN <| tS <| tSR <| rM rfl rfl <| ARun.qv (q_neq rfl rfl) rfl <| rN <| ATodo.cond_d rfl (fun hc => ?_) (fun hc => ?_)
      · refine have h := iteT hc h; tSR <| rM rfl rfl <| rA rfl rfl <| rA rfl rfl <| rA rfl rfl <| rN <| ATodo.ret <| ?_
        obtain rfl := Option.some.inj h
        exact ImpX.arr (s := 6) 5 rfl fun b31 => ImpX.arr (s := 7) 13 rfl fun b32 => ImpX.here ⟨_, .cons (.tmp _ _ rfl) (.cons (.tmp _ _ rfl) (.cons (.tmp _ _ rfl) .nil)), _, .cons .p1 (.cons .p0 .nil), ⟨b31, b32, rfl, rfl⟩⟩
      · refine have h := iteF hc h; tK <| tSR <| rM rfl rfl <| rM rfl rfl <| rA rfl rfl <| rA rfl rfl <| rA rfl rfl <| rN <| ATodo.ret <| ?_
        obtain rfl := Option.some.inj h
        exact ImpX.here ⟨_, .cons (.tmp _ _ rfl) (.cons (.tmp _ _ rfl) (.cons (.tmp _ _ rfl) .nil)), _, .cons .p1 (.cons .p1 .nil), ⟨b30, b9, rfl, rfl⟩⟩

set_option maxHeartbeats 4000000 in
theorem slices_Equal_Prop_Prop_c [GI : GTab] {p0x0 : List PropS} {p1x0 : List PropS} {r : Bool} (h : slices_Equal_Prop_Prop p0x0 p1x0 = some r) : Pu Tryz.prog 15 [.list 5 (p0x0.map PropS.av), .list 5 (p1x0.map PropS.av)] (.bool r) := by
  unfold slices_Equal_Prop_Prop at h
  refine ACall.bodyN Tryz.func15 rfl Tryz.ntmps15 Tryz.results15 rfl rfl ?_
  refine tSR <| rA rfl rfl <| rN <| tS <| tSR <| rM rfl rfl <| ARun.qv (t_len rfl) rfl <| rM rfl rfl <| ARun.qv (t_len rfl) rfl <| ARun.qv (q_neq rfl rfl) rfl <| rN <| ATodo.cond_d rfl (fun hc => ?_) (fun hc => ?_)
  · refine have h := iteT hc h; tSR <| rA rfl rfl <| rN <| ATodo.ret <| ?_
    obtain rfl := Option.some.inj h
    exact ImpX.here ⟨_, .cons (.tmp _ _ rfl) .nil, rfl⟩
  · refine have h := iteF hc h; tK <| tS <| tSR <| rM rfl rfl <| ARun.qv (t_len rfl) rfl <| rM rfl rfl <| rN <| ATodo.block <| ATodo.loopI (fun x : Int => slices_Equal_Prop_Prop_b1 p0x0 p1x0 x) (fun x σ' => σ' = ⟨26, [(0, .list 5 (p0x0.map PropS.av)), (1, .list 5 (p1x0.map PropS.av)), (12, I (p0x0.length : Int)), (13, I x)], []⟩) h ?_ ?_
    · exact ImpX.lq [] rfl rfl rfl
    · intro n2 z1 σ' J1 hmk h hJ1 hA1
      obtain rfl := hmk
      replace h : slices_Equal_Prop_Prop_b1 p0x0 p1x0 n2 = some z1 := h
      unfold slices_Equal_Prop_Prop_b1 at h
      refine tSR <| ARun.qv (q_lss rfl rfl) rfl <| rN <| tS <| ATodo.cond_d rfl (fun hc => ?_) (fun hc => ?_)
      · refine have h := iteT hc h; tK <| tS <| ATodo.block <| tSR <| rM rfl rfl <| rA rfl rfl <| rN <| tS <| ATodo.regionM (id := 6) (A := [0, 0, 3, 7, 0, 0, 48, 112, 255]) 9 mixed rfl (by kernel_rfl) (by kernel_rfl) <| AM.qv (q_move rfl) rfl <| AM.qv (q_move rfl) rfl <| bndE h fun v3 e1 h => AM.qv (t_index rfl rfl rfl e1 rfl rfl) rfl <| AM.qv (q_load_rptr_agg rfl rfl rfl) rfl <| AM.qv (q_move rfl) rfl <| AM.qv (q_move rfl) rfl <| bndE h fun v4 e2 h => AM.qv (t_index rfl rfl rfl e2 rfl rfl) rfl <| AM.qv (q_load_rptr_agg rfl rfl rfl) rfl <| AM.qv (t_tne (g := PropS.av) (X := v3) (Y := v4) rfl rfl rfl rfl rfl) rfl <| AM.nil <| rN <| ATodo.cond_d rfl (fun hc => ?_) (fun hc => ?_)
        · refine have h := iteT hc h; tSR <| rA rfl rfl <| rN <| ATodo.ret <| have h := outL h hA1; ?_
          obtain rfl := Option.some.inj h
          exact ImpX.here ⟨_, .cons (.tmp _ _ rfl) .nil, rfl⟩
        · refine have h := iteF hc h; tK <| ATodo.blk <| tR <| ARun.qv (q_addw rfl rfl) rfl <| rM rfl rfl <| rN <| ATodo.stop <| ?_
          obtain rfl := Option.some.inj h
          exact hJ1 _ _ rfl <| ImpX.lq [] rfl rfl rfl
      · refine have h := iteF hc h; ATodo.exit rfl <| have h := outL h hA1; tSR <| rA rfl rfl <| rN <| ATodo.ret <| ?_
        obtain rfl := Option.some.inj h
        exact ImpX.here ⟨_, .cons (.tmp _ _ rfl) .nil, rfl⟩

set_option maxHeartbeats 4000000 in
theorem slices_Equal_Clash_Clash_c [GI : GTab] {p0x0 : List Clash} {p1x0 : List Clash} {r : Bool} (h : slices_Equal_Clash_Clash p0x0 p1x0 = some r) : Pu Tryz.prog 16 [.list 13 (p0x0.map Clash.av), .list 13 (p1x0.map Clash.av)] (.bool r) := by
  unfold slices_Equal_Clash_Clash at h
  refine ACall.bodyN Tryz.func16 rfl Tryz.ntmps16 Tryz.results16 rfl rfl ?_
  refine tSR <| rA rfl rfl <| rN <| tS <| tSR <| rM rfl rfl <| ARun.qv (t_len rfl) rfl <| rM rfl rfl <| ARun.qv (t_len rfl) rfl <| ARun.qv (q_neq rfl rfl) rfl <| rN <| ATodo.cond_d rfl (fun hc => ?_) (fun hc => ?_)
  · refine have h := iteT hc h; tSR <| rA rfl rfl <| rN <| ATodo.ret <| ?_
    obtain rfl := Option.some.inj h
    exact ImpX.here ⟨_, .cons (.tmp _ _ rfl) .nil, rfl⟩
  · refine have h := iteF hc h; tK <| tS <| tSR <| rM rfl rfl <| ARun.qv (t_len rfl) rfl <| rM rfl rfl <| rN <| ATodo.block <| ATodo.loopI (fun x : Int => slices_Equal_Clash_Clash_b1 p0x0 p1x0 x) (fun x σ' => σ' = ⟨26, [(0, .list 13 (p0x0.map Clash.av)), (1, .list 13 (p1x0.map Clash.av)), (12, I (p0x0.length : Int)), (13, I x)], []⟩) h ?_ ?_
    · exact ImpX.lq [] rfl rfl rfl
    · intro n2 z1 σ' J1 hmk h hJ1 hA1
      obtain rfl := hmk
      replace h : slices_Equal_Clash_Clash_b1 p0x0 p1x0 n2 = some z1 := h
      unfold slices_Equal_Clash_Clash_b1 at h
      refine tSR <| ARun.qv (q_lss rfl rfl) rfl <| rN <| tS <| ATodo.cond_d rfl (fun hc => ?_) (fun hc => ?_)
      · refine have h := iteT hc h; tK <| tS <| ATodo.block <| tSR <| rM rfl rfl <| rA rfl rfl <| rN <| tS <| ATodo.regionM (id := 6) (A := [0, 0, 3, 7, 0, 0, 48, 112, 255]) 9 mixed rfl (by kernel_rfl) (by kernel_rfl) <| AM.qv (q_move rfl) rfl <| AM.qv (q_move rfl) rfl <| bndE h fun v3 e1 h => AM.qv (t_index rfl rfl rfl e1 rfl rfl) rfl <| AM.qv (q_load_rptr_agg rfl rfl rfl) rfl <| AM.qv (q_move rfl) rfl <| AM.qv (q_move rfl) rfl <| bndE h fun v4 e2 h => AM.qv (t_index rfl rfl rfl e2 rfl rfl) rfl <| AM.qv (q_load_rptr_agg rfl rfl rfl) rfl <| AM.qv (t_tne (g := Clash.av) (X := v3) (Y := v4) rfl rfl rfl rfl rfl) rfl <| AM.nil <| rN <| ATodo.cond_d rfl (fun hc => ?_) (fun hc => ?_)
        · refine have h := iteT hc h; tSR <| rA rfl rfl <| rN <| ATodo.ret <| have h := outL h hA1; ?_
          obtain rfl := Option.some.inj h
          exact ImpX.here ⟨_, .cons (.tmp _ _ rfl) .nil, rfl⟩
        · refine have h := iteF hc h; tK <| ATodo.blk <| tR <| ARun.qv (q_addw rfl rfl) rfl <| rM rfl rfl <| rN <| ATodo.stop <| ?_
          obtain rfl := Option.some.inj h
          exact hJ1 _ _ rfl <| ImpX.lq [] rfl rfl rfl
      · refine have h := iteF hc h; ATodo.exit rfl <| have h := outL h hA1; tSR <| rA rfl rfl <| rN <| ATodo.ret <| ?_
        obtain rfl := Option.some.inj h
        exact ImpX.here ⟨_, .cons (.tmp _ _ rfl) .nil, rfl⟩

set_option maxHeartbeats 4000000 in
theorem twin_Differ_c {p0x0 : List PropS} {p1x0 : List PropS} {r : (List Change) × Int} (h : twin_Differ p0x0 p1x0 = some r) : ACall Tryz.prog 26 [.list 5 (p0x0.map PropS.av), .list 5 (p1x0.map PropS.av)] [] (T1 (fun d_0 => [(d_0, .arr 9 (r.1.map Change.av))]) (fun d_0 => .tup [.sl 9 d_0 0 r.1.length, I r.2])) := by
  unfold twin_Differ at h
  refine ACall.lessH ?_
  refine ACall.bodyN Tryz.func26 rfl Tryz.ntmps26 Tryz.results26 rfl rfl ?_
  refine tSR <| rA rfl rfl <| rA rfl rfl <| rN <| tS <| tSR <| rM rfl rfl <| bndE h fun v1 e1 h => r_callp rfl (twin_CheckProps_c e1) (CoL.refl _) rfl <| rM rfl rfl <| bndE h fun v2 e2 h => r_callp rfl (twin_CheckProps_c e2) (CoL.refl _) rfl <| n_buildSliceL (xs := ([v1, v2] : List Int).map I) rfl rfl rfl rfl rfl rfl <| bndE h fun v3 e3 h => r_callp rfl (base_First_c e3) (CoL.refl _) rfl <| rA rfl rfl <| rN <| tSR <| rM rfl rfl <| ARun.qv (q_neq rfl rfl) rfl <| rN <| ATodo.cond_d rfl (fun hc => ?_) (fun hc => ?_)
  · refine have h := iteT hc h; tSR <| rM rfl rfl <| rA rfl rfl <| rA rfl rfl <| rN <| ATodo.ret <| ?_
    obtain rfl := Option.some.inj h
    exact ImpX.arr (s := 4) 9 rfl fun b4 => ImpX.here ⟨_, .cons (.tmp _ _ rfl) (.cons (.tmp _ _ rfl) .nil), _, .cons .p0 .nil, ⟨b4, rfl, rfl⟩⟩
  · refine have h := iteF hc h; tK <| tSR <| rA rfl rfl <| rN <| tS <| tSR <| rM rfl rfl <| rM rfl rfl <| n_buildSliceL (xs := ([p0x0, p1x0] : List (List PropS)).map (encL 5 PropS.av)) rfl rfl rfl rfl rfl rfl <| bndE h fun v5 e4 h => t_call1 rfl (twin_names_c e4) (CoL.refl _) .nil (fun _ => rfl) rfl fun b6 => ARun.qv (t_len_sl rfl) rfl <| rM rfl rfl <| rN <| ATodo.block <| ATodo.loopI (fun x : (List Change) × Int => twin_Differ_b1 p0x0 p1x0 v5 x.1 x.2) (fun x σ' => ∃ (b10 : Bk), σ' = ⟨48, [(0, .list 5 (p0x0.map PropS.av)), (1, .list 5 (p1x0.map PropS.av)), (7, .sl 9 b10 0 x.1.length), (24, .sl 1 b6 0 v5.length), (25, I (v5.length : Int)), (26, I x.2)], [(b10, .arr 9 (x.1.map Change.av)), (b6, .arr 1 (v5.map AV.str))]⟩) h ?_ ?_
    · exact ImpX.arr (s := 7) 9 rfl fun b13 => ImpX.lq [0, 0] ⟨b13, rfl⟩ rfl rfl
    · intro x z1 σ' J1 hmk h hJ1 hA1
      obtain ⟨l11, n12⟩ := x
      obtain ⟨b10, rfl⟩ := hmk
      replace h : twin_Differ_b1 p0x0 p1x0 v5 l11 n12 = some z1 := h
      unfold twin_Differ_b1 at h
      refine tSR <| ARun.qv (q_lss rfl rfl) rfl <| rN <| tS <| ATodo.cond_d rfl (fun hc => ?_) (fun hc => ?_)
      · refine have h := iteT hc h; tK <| tS <| ATodo.block <| tSR <| bndE h fun v14 e5 h => ARun.qv (t_index_sl rfl rfl rfl e5) rfl <| ARun.qv (t_load_aptr (g := AV.str) rfl rfl (.inl .p1) e5 rfl) rfl <| rA rfl rfl <| rN <| tSR <| rM rfl rfl <| rM rfl rfl <| bndE h fun v15 e6 h => r_callp rfl (twin_valueOf_c e6) (CoL.refl _) rfl <| rM rfl rfl <| rM rfl rfl <| bndE h fun v16 e7 h => r_callp rfl (twin_valueOf_c e7) (CoL.refl _) rfl <| n_alloc rfl rfl rfl rfl fun b17 => n_alloc rfl rfl rfl rfl fun b18 => n_store_ptr rfl rfl rfl rfl .p1 rfl rfl <| n_store_ptr rfl rfl rfl rfl .p0 rfl rfl <| rN <| tSR <| ARun.qv (q_load_ptr_all rfl rfl .p1 rfl) rfl <| ARun.qv (q_load_ptr_all rfl rfl .p0 rfl) rfl <| ARun.qv (t_tne (g := ValueS.av) (X := v15) (Y := v16) rfl rfl rfl rfl rfl) rfl <| rN <| ATodo.cut (fun σ' => ∃ (b19 : Bk) (l20 : List Change), twin_Differ_j1 n12 l20 = some z1 ∧ σ' = ⟨48, [(0, .list 5 (p0x0.map PropS.av)), (1, .list 5 (p1x0.map PropS.av)), (7, .sl 9 b19 0 l20.length), (24, .sl 1 b6 0 v5.length), (25, I (v5.length : Int)), (26, I n12)], [(b19, .arr 9 (l20.map Change.av)), (b6, .arr 1 (v5.map AV.str))]⟩) ?_ ?_
        · refine ATodo.cond_d rfl (fun hc => ?_) (fun hc => ?_)
          · exact have h := iteT hc h; tR <| rM rfl rfl <| rM rfl rfl <| ARun.qv (q_load_ptr_all rfl rfl .p1 rfl) rfl <| ARun.qv (q_load_ptr_all rfl rfl .p0 rfl) rfl <| ARun.qv (n_build rfl rfl rfl rfl rfl) rfl <| n_buildSliceL (xs := ([(⟨v14, v15, v16⟩ : Change)]).map Change.av) rfl rfl rfl rfl rfl rfl <| bndE h fun l21 e8 h => t_append (g := Change.av) rfl rfl rfl rfl rfl rfl rfl rfl (.list _) e8 (fun _ => .p2) rfl fun b22 => rA rfl rfl <| rN <| ATodo.stop <| ImpX.lq [2, 2] ⟨b22, l21, h, rfl⟩ rfl rfl
          · exact have h := iteF hc h; tK <| ATodo.stop <| ImpX.lq [2, 2] ⟨b10, l11, h, rfl⟩ rfl rfl
        · rintro σ' ⟨b19, l20, h, rfl⟩
          unfold twin_Differ_j1 at h
          refine ATodo.blk <| tR <| ARun.qv (q_addw rfl rfl) rfl <| rM rfl rfl <| rN <| ATodo.stop <| ?_
          obtain rfl := Option.some.inj h
          exact hJ1 _ _ rfl <| ImpX.lq [0, 0] ⟨b19, rfl⟩ rfl rfl
      · refine have h := iteF hc h; ATodo.exit rfl <| have h := outL h hA1; tSR <| rM rfl rfl <| rA rfl rfl <| rA rfl rfl <| rN <| ATodo.ret <| ?_
        obtain rfl := Option.some.inj h
        exact ImpX.here ⟨_, .cons (.tmp _ _ rfl) (.cons (.tmp _ _ rfl) .nil), _, .cons .p0 .nil, ⟨b10, rfl, rfl⟩⟩

set_option maxHeartbeats 4000000 in
theorem L_twinned_c {r : Bool} (h : L_twinned = some r) : Pu Tryz.prog 17 [] (.bool r) := by
  unfold L_twinned at h
  refine ACall.bodyN Tryz.func17 rfl Tryz.ntmps17 Tryz.results17 rfl rfl ?_
  refine tSR <| rA rfl rfl <| rN <| tSR <| ARun.qv (n_build rfl rfl rfl rfl rfl) rfl <| ARun.qv (n_build rfl rfl rfl rfl rfl) rfl <| n_buildSliceL (xs := ([(⟨([97] : Str), (⟨(1 : Int), false, (0 : Int), []⟩ : ValueS)⟩ : PropS)]).map PropS.av) rfl rfl rfl rfl rfl rfl <| bndE h fun v1 e1 h => t_call1 rfl (twin_Differ_c e1) (.cons (.nil _) (.cons (.refl _) .nil)) .nil (fun _ => rfl) rfl fun b2 => rM rfl rfl <| rX rfl rfl rfl <| rX rfl rfl rfl <| rA rfl rfl <| rA rfl rfl <| rN <| tS <| ATodo.cut (fun σ' => ∃ (c3 : Bool), L_twinned_j1 c3 = some r ∧ σ' = ⟨24, [(0, .bool c3)], []⟩) ?_ ?_
  · refine tR <| rM rfl rfl <| ARun.qv (q_eql rfl rfl) rfl <| rM rfl rfl <| ARun.guard_dt rfl rfl rfl (fun hc => ?_) (fun hc => ?_)
    · refine have h := iteT hc h; rM rfl rfl <| rY rfl rfl rfl <| ARun.qv (t_len_sl rfl) rfl <| rY rfl rfl rfl <| ARun.qv (q_eql rfl rfl) rfl <| rT rfl rfl rfl <| rM rfl rfl <| ARun.guard_dt rfl rfl rfl (fun hc => ?_) (fun hc => ?_)
      · exact have h := iteT hc h; rM rfl rfl <| rY rfl rfl rfl <| bndE h fun v4 e2 h => ARun.qv (t_index_sl rfl rfl rfl e2) rfl <| rY rfl rfl rfl <| ARun.qv (t_field_aptr rfl rfl) rfl <| rY rfl rfl rfl <| ARun.qv (t_load_aptr (g := Change.av) rfl rfl (.inl .p0) e2 rfl) rfl <| rY rfl rfl rfl <| ARun.qv (q_seq rfl rfl) rfl <| rT rfl rfl rfl <| rA rfl rfl <| rN <| ATodo.stop <| ImpX.lq [] ⟨decide (v4.Name = ([97] : Str)), h, rfl⟩ rfl rfl
      · exact have h := iteF hc h; rG rfl rfl rfl rfl <| rG rfl rfl rfl rfl <| rG rfl rfl rfl rfl <| rG rfl rfl rfl rfl <| rE rfl rfl rfl <| rA rfl rfl <| rN <| ATodo.stop <| ImpX.lq [] ⟨false, h, rfl⟩ rfl rfl
    · exact have h := iteF hc h; rG rfl rfl rfl rfl <| rG rfl rfl rfl rfl <| rE rfl rfl rfl <| rM rfl rfl <| rG rfl rfl rfl rfl <| rG rfl rfl rfl rfl <| rG rfl rfl rfl rfl <| rG rfl rfl rfl rfl <| rG rfl rfl rfl rfl <| rE rfl rfl rfl <| rA rfl rfl <| rN <| ATodo.stop <| ImpX.lq [] ⟨false, h, rfl⟩ rfl rfl
  · rintro σ' ⟨c3, h, rfl⟩
    unfold L_twinned_j1 at h
    refine ATodo.ret <| ?_
    obtain rfl := Option.some.inj h
    exact ImpX.here ⟨_, .cons (.tmp _ _ rfl) .nil, rfl⟩

set_option maxHeartbeats 4000000 in
theorem L_SidesJoined_c {p0x0 : List Int} {r : Bool} (h : L_SidesJoined p0x0 = some r) : Pu Tryz.prog 3 [.list 1 (p0x0.map I)] (.bool r) := by
  unfold L_SidesJoined at h
  refine ACall.bodyN Tryz.func3 rfl Tryz.ntmps3 Tryz.results3 rfl rfl ?_
  refine tSR <| rA rfl rfl <| rN <| tSR <| rM rfl rfl <| ARun.qv (n_build rfl rfl rfl rfl rfl) rfl <| n_box rfl rfl rfl rfl fun b1 => rA rfl rfl <| rN <| tSR <| rM rfl rfl <| bndE h fun v2 e1 h => t_call0 rfl (Stream_Props_c e1) (CoL.refl _) (.cons .p0 .nil) rfl rfl <| rA rfl rfl <| rN <| tSR <| rM rfl rfl <| rM rfl rfl <| bndE h fun v3 e2 h => t_call0 rfl (Stream_Props_c e2) (CoL.refl _) (.cons .p0 .nil) rfl rfl <| rA rfl rfl <| rA rfl rfl <| rN <| tS <| tSR <| rM rfl rfl <| rM rfl rfl <| rM rfl rfl <| bndE h fun v4 e3 h => t_call1 rfl (Stream_Changes_c e3) (CoL.refl _) (.cons .p0 .nil) (fun _ => rfl) rfl fun b5 => bndE h fun v6 e4 h => t_callL1 rfl (Q_ApplyOf_c e4) .nil (.cons (.co (.refl _)) (.cons (CoB.arrT .p1) .nil)) (fun _ => rfl) (fun _ => rfl) (fun _ => (.cons (NoS.arrT (fun _ => rfl)) .nil)) rfl fun b7 => rM rfl rfl <| rX rfl rfl rfl <| rX rfl rfl rfl <| rA rfl rfl <| rA rfl rfl <| rN <| tS <| ATodo.cut (fun σ' => ∃ (c8 : Bool), L_SidesJoined_j1 v2 v3 v4 v6 c8 = some r ∧ σ' = ⟨84, [(3, .ptr b1 0), (4, .list 5 (v2.1.map PropS.av)), (5, .list 5 (v2.1.map PropS.av)), (6, .list 5 (v3.1.map PropS.av)), (7, .sl 5 b7 0 v6.1.length), (37, .bool c8)], [(b1, .cells [.list 1 (v4.2.L.map I), I v4.2.at_]), (b7, .arr 5 (v6.1.map PropS.av))]⟩) ?_ ?_
  · refine tR <| rM rfl rfl <| ARun.qv (q_eql rfl rfl) rfl <| rM rfl rfl <| ARun.guard_dt rfl rfl rfl (fun hc => ?_) (fun hc => ?_)
    · exact have h := iteT hc h; rM rfl rfl <| rY rfl rfl rfl <| bndE h fun v9 e5 h => r_callp rfl (Q_PropsFault_c e5) (CoL.refl _) rfl <| rY rfl rfl rfl <| ARun.qv (q_eql rfl rfl) rfl <| rT rfl rfl rfl <| rN <| ATodo.stop <| ImpX.lq [1, 0] ⟨decide (v9 = (0 : Int)), h, rfl⟩ rfl rfl
    · exact have h := iteF hc h; rG rfl rfl rfl rfl <| rG rfl rfl rfl rfl <| rE rfl rfl rfl <| rN <| ATodo.stop <| ImpX.lq [1, 0] ⟨false, h, rfl⟩ rfl rfl
  · rintro σ' ⟨c8, h, rfl⟩
    unfold L_SidesJoined_j1 at h
    refine ATodo.cut (fun σ' => ∃ (l10 : List PropS), L_SidesJoined_j2 v2 v3 v4 l10 = some r ∧ σ' = ⟨84, [(3, .ptr b1 0), (4, .list 5 (v2.1.map PropS.av)), (5, .list 5 (l10.map PropS.av)), (6, .list 5 (v3.1.map PropS.av))], [(b1, .cells [.list 1 (v4.2.L.map I), I v4.2.at_])]⟩) ?_ ?_
    · refine ATodo.cond rfl (fun hc => ?_) (fun hc => ?_)
      · exact have h := iteT hc h; tR <| rM rfl rfl <| rA rfl rfl <| rN <| ATodo.stop <| ImpX.freeze .p1 <| ImpX.co (s := 5) rfl (Co.froT .p1) <| ImpX.lq [0] ⟨v6.1, h, rfl⟩ rfl rfl
      · exact have h := iteFb hc h; tK <| ATodo.stop <| ImpX.lq [0] ⟨v2.1, h, rfl⟩ rfl rfl
    · rintro σ' ⟨l10, h, rfl⟩
      unfold L_SidesJoined_j2 at h
      refine tS <| tSR <| rM rfl rfl <| bndE h fun v11 e6 h => t_call0 rfl (Stream_Flip_c e6) (CoL.refl _) (.cons .p0 .nil) rfl rfl <| rN <| ATodo.cut (fun σ' => ∃ (l12 : List PropS), L_SidesJoined_j3 v2 l10 l12 = some r ∧ σ' = ⟨84, [(4, .list 5 (v2.1.map PropS.av)), (5, .list 5 (l10.map PropS.av)), (6, .list 5 (l12.map PropS.av))], []⟩) ?_ ?_
      · refine ATodo.cond rfl (fun hc => ?_) (fun hc => ?_)
        · exact have h := iteT hc h; tR <| rM rfl rfl <| rA rfl rfl <| rN <| ATodo.stop <| ImpX.lq [] ⟨v2.1, h, rfl⟩ rfl rfl
        · exact have h := iteFb hc h; tK <| ATodo.stop <| ImpX.lq [] ⟨v3.1, h, rfl⟩ rfl rfl
      · rintro σ' ⟨l12, h, rfl⟩
        unfold L_SidesJoined_j3 at h
        refine tSR <| rM rfl rfl <| rM rfl rfl <| rM rfl rfl <| bndE h fun v13 e7 h => t_call2 rfl (twin_Three_c e7) (CoL.refl _) .nil (fun _ _ => rfl) rfl fun b14 b15 => rM rfl rfl <| rX rfl rfl rfl <| rX rfl rfl rfl <| rX rfl rfl rfl <| rA rfl rfl <| rA rfl rfl <| rA rfl rfl <| rN <| tSR <| rM rfl rfl <| bndE h fun v16 e8 h => r_callp rfl (Q_PropsFault_c e8) (CoL.refl _) rfl <| rM rfl rfl <| bndE h fun v17 e9 h => r_callp rfl (Q_PropsFault_c e9) (CoL.refl _) rfl <| rM rfl rfl <| bndE h fun v18 e10 h => r_callp rfl (Q_PropsFault_c e10) (CoL.refl _) rfl <| n_buildSliceL (xs := ([v16, v17, v18] : List Int).map I) rfl rfl rfl rfl rfl rfl <| bndE h fun v19 e11 h => r_callp rfl (L_errs_c e11) (CoL.refl _) rfl <| rA rfl rfl <| rN <| tSR <| rA rfl rfl <| rN <| tSR <| rA rfl rfl <| rN <| tS <| tSR <| rM rfl rfl <| ARun.qv (q_eql rfl rfl) rfl <| rN <| ATodo.cut (fun σ' => ∃ (b21 : Bk) (b23 : Bk) (n20 : Int) (l22 : List PropS) (l24 : List Clash), L_SidesJoined_j4 v13 n20 l22 l24 = some r ∧ σ' = ⟨84, [(9, .sl 5 b14 0 v13.1.length), (10, .sl 13 b15 0 v13.2.1.length), (11, I v13.2.2), (12, I n20), (13, .sl 5 b21 0 l22.length), (14, .sl 13 b23 0 l24.length)], [(b14, .arr 5 (v13.1.map PropS.av)), (b15, .arr 13 (v13.2.1.map Clash.av)), (b21, .arr 5 (l22.map PropS.av)), (b23, .arr 13 (l24.map Clash.av))]⟩) ?_ ?_
        · refine ATodo.cond_d rfl (fun hc => ?_) (fun hc => ?_)
          · exact have h := iteT hc h; tR <| rM rfl rfl <| rM rfl rfl <| rM rfl rfl <| bndE h fun v25 e12 h => t_call2 rfl (Q_ThreeOf_c e12) (CoL.refl _) .nil (fun _ _ => rfl) rfl fun b26 b27 => rM rfl rfl <| rX rfl rfl rfl <| rX rfl rfl rfl <| rX rfl rfl rfl <| rA rfl rfl <| rA rfl rfl <| rA rfl rfl <| rN <| ATodo.stop <| ImpX.lq [2, 2, 0, 0] ⟨b26, b27, v25.2.2, v25.1, v25.2.1, h, rfl⟩ rfl rfl
          · exact have h := iteF hc h; tK <| ATodo.stop <| ImpX.arr (s := 13) 5 rfl fun b28 => ImpX.arr (s := 14) 13 rfl fun b29 => ImpX.lq [2, 2, 1, 0] ⟨b28, b29, v19, [], [], h, rfl⟩ rfl rfl
        · rintro σ' ⟨b21, b23, n20, l22, l24, h, rfl⟩
          unfold L_SidesJoined_j4 at h
          refine tS <| ATodo.cut (fun σ' => ∃ (c30 : Bool), L_SidesJoined_j5 c30 = some r ∧ σ' = ⟨84, [(2, .bool c30)], []⟩) ?_ ?_
          · refine tR <| rM rfl rfl <| rM rfl rfl <| ARun.qv (q_eql rfl rfl) rfl <| rM rfl rfl <| ARun.guard_dt rfl rfl rfl (fun hc => ?_) (fun hc => ?_)
            · refine have h := iteT hc h; rM rfl rfl <| rY rfl rfl rfl <| rM rfl rfl <| rY rfl rfl rfl <| bndE h fun v31 e13 h => r_callpB rfl (slices_Equal_Prop_Prop_c e13) (.cons (CoB.arrT .p0) (.cons (CoB.arrT .p2) .nil)) rfl rfl <| rT rfl rfl rfl <| rM rfl rfl <| ARun.guard rfl rfl rfl (fun hc => ?_) (fun hc => ?_)
              · refine have h := iteT hc h; rM rfl rfl <| rY rfl rfl rfl <| rM rfl rfl <| rY rfl rfl rfl <| bndE h fun v32 e14 h => r_callpB rfl (slices_Equal_Clash_Clash_c e14) (.cons (CoB.arrT .p1) (.cons (CoB.arrT .p3) .nil)) rfl rfl <| rT rfl rfl rfl <| rM rfl rfl <| ARun.guard rfl rfl rfl (fun hc => ?_) (fun hc => ?_)
                · exact have h := iteT hc h; bndE h fun v33 e15 h => r_callp rfl (L_twinned_c e15) (CoL.refl _) rfl <| rT rfl rfl rfl <| rA rfl rfl <| rN <| ATodo.stop <| ImpX.lq [] ⟨v33, h, rfl⟩ rfl rfl
                · exact have h := iteFb hc h; rE rfl rfl rfl <| rA rfl rfl <| rN <| ATodo.stop <| ImpX.lq [] ⟨false, h, rfl⟩ rfl rfl
              · exact have h := iteFb hc h; rG rfl rfl rfl rfl <| rG rfl rfl rfl rfl <| rE rfl rfl rfl <| rM rfl rfl <| rG rfl rfl rfl rfl <| rE rfl rfl rfl <| rA rfl rfl <| rN <| ATodo.stop <| ImpX.lq [] ⟨false, h, rfl⟩ rfl rfl
            · exact have h := iteF hc h; rG rfl rfl rfl rfl <| rG rfl rfl rfl rfl <| rE rfl rfl rfl <| rM rfl rfl <| rG rfl rfl rfl rfl <| rG rfl rfl rfl rfl <| rG rfl rfl rfl rfl <| rE rfl rfl rfl <| rM rfl rfl <| rG rfl rfl rfl rfl <| rE rfl rfl rfl <| rA rfl rfl <| rN <| ATodo.stop <| ImpX.lq [] ⟨false, h, rfl⟩ rfl rfl
          · rintro σ' ⟨c30, h, rfl⟩
            unfold L_SidesJoined_j5 at h
            refine ATodo.ret <| ?_
            obtain rfl := Option.some.inj h
            exact ImpX.here ⟨_, .cons (.tmp _ _ rfl) .nil, rfl⟩

end Go.Proofs.YtnahbimoaekobaaGreatDoor
