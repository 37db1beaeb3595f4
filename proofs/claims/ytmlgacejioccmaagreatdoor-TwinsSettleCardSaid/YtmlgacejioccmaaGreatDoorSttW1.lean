/- The code computes the plain functions: proofs written by shal.py. -/
import Derived.Test.YtmlgacejioccmaaGreatDoorSttP
import Derived.Test.YtmlgacejioccmaaGreatDoorLib
set_option maxRecDepth 100000
set_option linter.unusedVariables false
set_option linter.unusedSimpArgs false
namespace Go.Proofs.YtmlgacejioccmaaGreatDoor
open Go Go.Eng Go.Proofs Go.Beacon
attribute [local irreducible] ARun ATodo AQ QV ACall ImpX AWp AM
instance eqg42 : EqGd Tryz.prog 42 := ⟨by kernel_rfl⟩
instance eqt42 : EqTy Tryz.prog 42 2 ValueS.av := ⟨fun x y w S v u hv hu => by
  obtain ⟨vs, rfl, hl, ha⟩ := At.agg_inv hv
  obtain ⟨us, rfl, hl', ha'⟩ := At.agg_inv hu
  obtain ⟨v0, p0, q0⟩ := AtA.get hl ha (off := 0) rfl
  obtain ⟨u0, p0', q0'⟩ := AtA.get hl' ha' (off := 0) rfl
  obtain ⟨v1, p1, q1⟩ := AtA.get hl ha (off := 1) rfl
  obtain ⟨u1, p1', q1'⟩ := AtA.get hl' ha' (off := 1) rfl
  obtain ⟨v2, p2, q2⟩ := AtA.get hl ha (off := 2) rfl
  obtain ⟨u2, p2', q2'⟩ := AtA.get hl' ha' (off := 2) rfl
  obtain ⟨v3, p3, q3⟩ := AtA.get hl ha (off := 3) rfl
  obtain ⟨u3, p3', q3'⟩ := AtA.get hl' ha' (off := 3) rfl
  refine EqR.cast (EqR.struct Tryz.underlying42 (by kernel_rfl) (.cons (by decide) (part_one rfl p0) (part_one rfl p0') (EqR.up (EqTy.h (g := I) x.Kind y.Kind w S _ _ q0 q0') 0)  (.cons (by decide) (part_one rfl p1) (part_one rfl p1') (EqR.up (EqTy.h (g := AV.bool) x.Flag y.Flag w S _ _ q1 q1') 0)  (.cons (by decide) (part_one rfl p2) (part_one rfl p2') (EqR.up (EqTy.h (g := I) x.Number y.Number w S _ _ q2 q2') 0)  (.cons (by decide) (part_one rfl p3) (part_one rfl p3') (EqR.up (EqTy.h (g := AV.str) x.Words y.Words w S _ _ q3 q3') 0) .nil))))) ?_
  obtain ⟨_, _, _, _⟩ := x
  obtain ⟨_, _, _, _⟩ := y
  rw [Bool.eq_iff_iff]; simp [and_assoc]⟩
instance eqg44 : EqGd Tryz.prog 44 := ⟨by kernel_rfl⟩
instance eqt44 : EqTy Tryz.prog 44 3 PropS.av := ⟨fun x y w S v u hv hu => by
  obtain ⟨vs, rfl, hl, ha⟩ := At.agg_inv hv
  obtain ⟨us, rfl, hl', ha'⟩ := At.agg_inv hu
  obtain ⟨v0, p0, q0⟩ := AtA.get hl ha (off := 0) rfl
  obtain ⟨u0, p0', q0'⟩ := AtA.get hl' ha' (off := 0) rfl
  refine EqR.cast (EqR.struct Tryz.underlying44 (by kernel_rfl) (.cons (by decide) (part_one rfl p0) (part_one rfl p0') (EqR.up (EqTy.h (g := AV.str) x.Name y.Name w S _ _ q0 q0') 1)  (.cons (by decide) (part_agg rfl rfl) (part_agg rfl rfl) (EqR.up (EqTy.h (g := ValueS.av) x.Value y.Value w S _ _ (AtA.sub hl ha 1 4 (Nat.le_of_ble_eq_true rfl)) (AtA.sub hl' ha' 1 4 (Nat.le_of_ble_eq_true rfl))) 0) .nil))) ?_
  obtain ⟨_, _⟩ := x
  obtain ⟨_, _⟩ := y
  rw [Bool.eq_iff_iff]; simp [and_assoc]⟩
instance eqg47 : EqGd Tryz.prog 47 := ⟨by kernel_rfl⟩
instance eqt47 : EqTy Tryz.prog 47 2 Stamp.av := ⟨fun x y w S v u hv hu => by
  obtain ⟨vs, rfl, hl, ha⟩ := At.agg_inv hv
  obtain ⟨us, rfl, hl', ha'⟩ := At.agg_inv hu
  obtain ⟨v0, p0, q0⟩ := AtA.get hl ha (off := 0) rfl
  obtain ⟨u0, p0', q0'⟩ := AtA.get hl' ha' (off := 0) rfl
  obtain ⟨v1, p1, q1⟩ := AtA.get hl ha (off := 1) rfl
  obtain ⟨u1, p1', q1'⟩ := AtA.get hl' ha' (off := 1) rfl
  obtain ⟨v2, p2, q2⟩ := AtA.get hl ha (off := 2) rfl
  obtain ⟨u2, p2', q2'⟩ := AtA.get hl' ha' (off := 2) rfl
  refine EqR.cast (EqR.struct Tryz.underlying47 (by kernel_rfl) (.cons (by decide) (part_one rfl p0) (part_one rfl p0') (EqR.up (EqTy.h (g := I) x.At y.At w S _ _ q0 q0') 0)  (.cons (by decide) (part_one rfl p1) (part_one rfl p1') (EqR.up (EqTy.h (g := AV.str) x.By y.By w S _ _ q1 q1') 0)  (.cons (by decide) (part_one rfl p2) (part_one rfl p2') (EqR.up (EqTy.h (g := I) x.No y.No w S _ _ q2 q2') 0) .nil)))) ?_
  obtain ⟨_, _, _⟩ := x
  obtain ⟨_, _, _⟩ := y
  rw [Bool.eq_iff_iff]; simp [and_assoc]⟩
instance eqg49 : EqGd Tryz.prog 49 := ⟨by kernel_rfl⟩
instance eqt49 : EqTy Tryz.prog 49 4 Cell.av := ⟨fun x y w S v u hv hu => by
  obtain ⟨vs, rfl, hl, ha⟩ := At.agg_inv hv
  obtain ⟨us, rfl, hl', ha'⟩ := At.agg_inv hu

  refine EqR.cast (EqR.struct Tryz.underlying49 (by kernel_rfl) (.cons (by decide) (part_agg rfl rfl) (part_agg rfl rfl) (EqR.up (EqTy.h (g := PropS.av) x.Prop_ y.Prop_ w S _ _ (AtA.sub hl ha 0 5 (Nat.le_of_ble_eq_true rfl)) (AtA.sub hl' ha' 0 5 (Nat.le_of_ble_eq_true rfl))) 0)  (.cons (by decide) (part_agg rfl rfl) (part_agg rfl rfl) (EqR.up (EqTy.h (g := Stamp.av) x.Stamp y.Stamp w S _ _ (AtA.sub hl ha 5 3 (Nat.le_of_ble_eq_true rfl)) (AtA.sub hl' ha' 5 3 (Nat.le_of_ble_eq_true rfl))) 1) .nil))) ?_
  obtain ⟨_, _⟩ := x
  obtain ⟨_, _⟩ := y
  rw [Bool.eq_iff_iff]; simp [and_assoc]⟩
instance eqg73 : EqGd Tryz.prog 73 := ⟨by kernel_rfl⟩
instance eqt73 : EqTy Tryz.prog 73 3 Change.av := ⟨fun x y w S v u hv hu => by
  obtain ⟨vs, rfl, hl, ha⟩ := At.agg_inv hv
  obtain ⟨us, rfl, hl', ha'⟩ := At.agg_inv hu
  obtain ⟨v0, p0, q0⟩ := AtA.get hl ha (off := 0) rfl
  obtain ⟨u0, p0', q0'⟩ := AtA.get hl' ha' (off := 0) rfl
  refine EqR.cast (EqR.struct Tryz.underlying73 (by kernel_rfl) (.cons (by decide) (part_one rfl p0) (part_one rfl p0') (EqR.up (EqTy.h (g := AV.str) x.Name y.Name w S _ _ q0 q0') 1)  (.cons (by decide) (part_agg rfl rfl) (part_agg rfl rfl) (EqR.up (EqTy.h (g := ValueS.av) x.From y.From w S _ _ (AtA.sub hl ha 1 4 (Nat.le_of_ble_eq_true rfl)) (AtA.sub hl' ha' 1 4 (Nat.le_of_ble_eq_true rfl))) 0)  (.cons (by decide) (part_agg rfl rfl) (part_agg rfl rfl) (EqR.up (EqTy.h (g := ValueS.av) x.To y.To w S _ _ (AtA.sub hl ha 5 4 (Nat.le_of_ble_eq_true rfl)) (AtA.sub hl' ha' 5 4 (Nat.le_of_ble_eq_true rfl))) 0) .nil)))) ?_
  obtain ⟨_, _, _⟩ := x
  obtain ⟨_, _, _⟩ := y
  rw [Bool.eq_iff_iff]; simp [and_assoc]⟩
set_option maxHeartbeats 4000000 in
theorem Below_c [GI : GTab] {p0x0 : Int} {p1x0 : Int} {r : Int} (h : Below p0x0 p1x0 = some r) : Pu Tryz.prog 98 [I p0x0, I p1x0] (I r) := by
  unfold Below at h
  refine ACall.bodyN Tryz.func98 rfl Tryz.ntmps98 Tryz.results98 rfl rfl ?_
  refine tSR <| rA rfl rfl <| rN <| tS <| tSR <| rM rfl rfl <| ARun.qv (q_lss rfl rfl) rfl <| rN <| ATodo.cond_d rfl (fun hc => ?_) (fun hc => ?_)
  · refine have h := iteT hc h; tSR <| rA rfl rfl <| rN <| ATodo.ret <| ?_
    obtain rfl := Option.some.inj h
    exact ImpX.here ⟨_, .cons (.tmp _ _ rfl) .nil, rfl⟩
  · refine have h := iteF hc h; tK <| tSR <| rM rfl rfl <| rM rfl rfl <| bndE h fun n1 e1 h => ARun.qv (t_remS rfl rfl e1) rfl <| rA rfl rfl <| rN <| tS <| tSR <| rM rfl rfl <| ARun.qv (q_lss rfl rfl) rfl <| rN <| ATodo.cut (fun σ' => ∃ (n2 : Int), Below_j1 n2 = some r ∧ σ' = ⟨16, [(0, I n2)], []⟩) ?_ ?_
    · refine ATodo.cond_d rfl (fun hc => ?_) (fun hc => ?_)
      · exact have h := iteT hc h; tR <| rM rfl rfl <| rM rfl rfl <| ARun.qv (q_addw rfl rfl) rfl <| rA rfl rfl <| rN <| ATodo.stop <| ImpX.lq [] ⟨w64 (n1 + p1x0), h, rfl⟩ rfl rfl
      · exact have h := iteF hc h; tK <| ATodo.stop <| ImpX.lq [] ⟨n1, h, rfl⟩ rfl rfl
    · rintro σ' ⟨n2, h, rfl⟩
      unfold Below_j1 at h
      refine tSR <| rM rfl rfl <| rA rfl rfl <| rN <| ATodo.ret <| ?_
      obtain rfl := Option.some.inj h
      exact ImpX.here ⟨_, .cons (.tmp _ _ rfl) .nil, rfl⟩

set_option maxHeartbeats 4000000 in
theorem Stream_Next_c [GI : GTab] {b_0 : Bk} {p0x0 : Fleetmake_Stream} {p1x0 : Int} {r : Int × Fleetmake_Stream} (h : Stream_Next p0x0 p1x0 = some r) : ACall Tryz.prog 44 [.ptr b_0 0, I p1x0] [(b_0, .cells [.list 1 (p0x0.L.map I), I p0x0.at_])] (T0 ([(b_0, .cells [.list 1 (r.2.L.map I), I r.2.at_])]) (I r.1)) := by
  unfold Stream_Next at h
  refine ACall.lessH ?_
  refine ACall.bodyN Tryz.func44 rfl Tryz.ntmps44 Tryz.results44 rfl rfl ?_
  refine tSR <| rA rfl rfl <| rN <| tSR <| rM rfl rfl <| ARun.qv (q_nilCheck_ptr rfl) rfl <| rF rfl rfl rfl <| rL rfl rfl .p0 rfl rfl <| ARun.qv (q_addw rfl rfl) rfl <| ARun.qv (q_nilCheck_ptr rfl) rfl <| rF rfl rfl rfl <| n_store_ptr rfl rfl rfl rfl .p0 rfl rfl <| rN <| tS <| tSR <| rM rfl rfl <| ARun.qv (q_nilCheck_ptr rfl) rfl <| rF rfl rfl rfl <| rL rfl rfl .p0 rfl rfl <| ARun.qv (t_len rfl) rfl <| ARun.qv (q_eql rfl rfl) rfl <| rN <| ATodo.cond_d rfl (fun hc => ?_) (fun hc => ?_)
  · refine have h := iteT hc h; tSR <| rM rfl rfl <| ARun.qv (q_nilCheck_ptr rfl) rfl <| rF rfl rfl rfl <| rL rfl rfl .p0 rfl rfl <| ARun.qv (q_mulw rfl rfl) rfl <| rM rfl rfl <| bndE h fun v1 e1 h => r_callp rfl (Below_c e1) (CoL.refl _) rfl <| rA rfl rfl <| rN <| ATodo.ret <| ?_
    obtain rfl := Option.some.inj h
    exact ImpX.here ⟨_, .cons (.tmp _ _ rfl) .nil, _, .cons .p0 .nil, ⟨rfl, rfl⟩⟩
  · refine have h := iteF hc h; tK <| tS <| ATodo.regionM (id := 4) (A := [0, 1, 3, 7, 15, 0, 32, 96, 224, 480, 1023, 2047]) 12 mixed rfl (by kernel_rfl) (by kernel_rfl) <| AM.qv (q_move rfl) rfl <| AM.qv (q_nilCheck_ptr rfl) rfl <| AM.qv (n_field_ptr rfl rfl) rfl <| AM.qv (q_load_ptr rfl rfl .p0 rfl) rfl <| AM.qv (q_subw rfl rfl) rfl <| AM.qv (q_move rfl) rfl <| AM.qv (q_nilCheck_ptr rfl) rfl <| AM.qv (n_field_ptr rfl rfl) rfl <| AM.qv (q_load_ptr rfl rfl .p0 rfl) rfl <| AM.qv (t_len rfl) rfl <| bndE h fun n2 e2 h => AM.qv (t_remS rfl rfl e2) rfl <| AM.qv (q_assign rfl) rfl <| AM.nil <| rN <| tS <| ATodo.regionM (id := 5) (A := [0, 1, 3, 7, 15, 0, 32, 96, 224, 480, 1023, 2047]) 12 mixed rfl (by kernel_rfl) (by kernel_rfl) <| AM.qv (q_move rfl) rfl <| AM.qv (q_nilCheck_ptr rfl) rfl <| AM.qv (n_field_ptr rfl rfl) rfl <| AM.qv (q_load_ptr rfl rfl .p0 rfl) rfl <| AM.qv (q_subw rfl rfl) rfl <| AM.qv (q_move rfl) rfl <| AM.qv (q_nilCheck_ptr rfl) rfl <| AM.qv (n_field_ptr rfl rfl) rfl <| AM.qv (q_load_ptr rfl rfl .p0 rfl) rfl <| AM.qv (t_len rfl) rfl <| bndE h fun n3 e3 h => AM.qv (t_quoS rfl rfl e3) rfl <| AM.qv (q_assign rfl) rfl <| AM.nil <| rN <| tSR <| rM rfl rfl <| ARun.qv (q_nilCheck_ptr rfl) rfl <| rF rfl rfl rfl <| rL rfl rfl .p0 rfl rfl <| rM rfl rfl <| bndE h fun v4 e4 h => ARun.qv (t_index rfl rfl rfl e4 rfl rfl) rfl <| ARun.qv (q_load_rptr rfl rfl rfl) rfl <| bndE h fun v5 e5 h => r_callp rfl (Below_c e5) (CoL.refl _) rfl <| rM rfl rfl <| rM rfl rfl <| ARun.qv (q_addw rfl rfl) rfl <| ARun.qv (q_mulw rfl rfl) rfl <| ARun.qv (q_addw rfl rfl) rfl <| rM rfl rfl <| bndE h fun v6 e6 h => r_callp rfl (Below_c e6) (CoL.refl _) rfl <| rA rfl rfl <| rN <| ATodo.ret <| ?_
    obtain rfl := Option.some.inj h
    exact ImpX.here ⟨_, .cons (.tmp _ _ rfl) .nil, _, .cons .p0 .nil, ⟨rfl, rfl⟩⟩

set_option maxHeartbeats 4000000 in
theorem Stream_Range_c [GI : GTab] {b_0 : Bk} {p0x0 : Fleetmake_Stream} {p1x0 : Int} {p2x0 : Int} {r : Int × Fleetmake_Stream} (h : Stream_Range p0x0 p1x0 p2x0 = some r) : ACall Tryz.prog 94 [.ptr b_0 0, I p1x0, I p2x0] [(b_0, .cells [.list 1 (p0x0.L.map I), I p0x0.at_])] (T0 ([(b_0, .cells [.list 1 (r.2.L.map I), I r.2.at_])]) (I r.1)) := by
  unfold Stream_Range at h
  refine ACall.lessH ?_
  refine ACall.bodyN Tryz.func94 rfl Tryz.ntmps94 Tryz.results94 rfl rfl ?_
  refine tSR <| rA rfl rfl <| rN <| tS <| tSR <| rM rfl rfl <| rM rfl rfl <| ARun.qv (q_lss rfl rfl) rfl <| rN <| ATodo.cond_d rfl (fun hc => ?_) (fun hc => ?_)
  · refine have h := iteT hc h; tSR <| rM rfl rfl <| rA rfl rfl <| rN <| ATodo.ret <| ?_
    obtain rfl := Option.some.inj h
    exact ImpX.here ⟨_, .cons (.tmp _ _ rfl) .nil, _, .cons .p0 .nil, ⟨rfl, rfl⟩⟩
  · refine have h := iteF hc h; tK <| tSR <| rM rfl rfl <| rM rfl rfl <| rM rfl rfl <| rM rfl rfl <| ARun.qv (q_subw rfl rfl) rfl <| ARun.qv (q_addw rfl rfl) rfl <| bndE h fun v1 e1 h => t_call0 rfl (Stream_Next_c e1) (CoL.refl _) (.cons .p0 .nil) rfl rfl <| ARun.qv (q_addw rfl rfl) rfl <| rA rfl rfl <| rN <| ATodo.ret <| ?_
    obtain rfl := Option.some.inj h
    exact ImpX.here ⟨_, .cons (.tmp _ _ rfl) .nil, _, .cons .p0 .nil, ⟨rfl, rfl⟩⟩

set_option maxHeartbeats 4000000 in
theorem Stream_Some_c [GI : GTab] {b_0 : Bk} {p0x0 : Fleetmake_Stream} {p1x0 : List Str} {r : Str × Fleetmake_Stream} (h : Stream_Some p0x0 p1x0 = some r) : ACall Tryz.prog 28 [.ptr b_0 0, .list 1 (p1x0.map AV.str)] [(b_0, .cells [.list 1 (p0x0.L.map I), I p0x0.at_])] (T0 ([(b_0, .cells [.list 1 (r.2.L.map I), I r.2.at_])]) (.str r.1)) := by
  unfold Stream_Some at h
  refine ACall.lessH ?_
  refine ACall.bodyN Tryz.func28 rfl Tryz.ntmps28 Tryz.results28 rfl rfl ?_
  refine tSR <| rA rfl rfl <| rN <| tSR <| rM rfl rfl <| rM rfl rfl <| rM rfl rfl <| ARun.qv (t_len rfl) rfl <| bndE h fun v1 e1 h => t_call0 rfl (Stream_Next_c e1) (CoL.refl _) (.cons .p0 .nil) rfl rfl <| bndE h fun v2 e2 h => ARun.qv (t_index rfl rfl rfl e2 rfl rfl) rfl <| ARun.qv (q_load_rptr rfl rfl rfl) rfl <| rA rfl rfl <| rN <| ATodo.ret <| ?_
  obtain rfl := Option.some.inj h
  exact ImpX.here ⟨_, .cons (.tmp _ _ rfl) .nil, _, .cons .p0 .nil, ⟨rfl, rfl⟩⟩

set_option maxHeartbeats 4000000 in
theorem Stream_Flip_c [GI : GTab] {b_0 : Bk} {p0x0 : Fleetmake_Stream} {p1x0 : Int} {r : Bool × Fleetmake_Stream} (h : Stream_Flip p0x0 p1x0 = some r) : ACall Tryz.prog 29 [.ptr b_0 0, I p1x0] [(b_0, .cells [.list 1 (p0x0.L.map I), I p0x0.at_])] (T0 ([(b_0, .cells [.list 1 (r.2.L.map I), I r.2.at_])]) (.bool r.1)) := by
  unfold Stream_Flip at h
  refine ACall.lessH ?_
  refine ACall.bodyN Tryz.func29 rfl Tryz.ntmps29 Tryz.results29 rfl rfl ?_
  refine tSR <| rA rfl rfl <| rN <| tSR <| rM rfl rfl <| rM rfl rfl <| bndE h fun v1 e1 h => t_call0 rfl (Stream_Next_c e1) (CoL.refl _) (.cons .p0 .nil) rfl rfl <| ARun.qv (q_eql rfl rfl) rfl <| rA rfl rfl <| rN <| ATodo.ret <| ?_
  obtain rfl := Option.some.inj h
  exact ImpX.here ⟨_, .cons (.tmp _ _ rfl) .nil, _, .cons .p0 .nil, ⟨rfl, rfl⟩⟩

set_option maxHeartbeats 4000000 in
theorem Stream_Pick_c [GI : GTab] {b_0 : Bk} {p0x0 : Fleetmake_Stream} {p1x0 : List Int} {r : Int × Fleetmake_Stream} (h : Stream_Pick p0x0 p1x0 = some r) : ACall Tryz.prog 7 [.ptr b_0 0, .list 1 (p1x0.map I)] [(b_0, .cells [.list 1 (p0x0.L.map I), I p0x0.at_])] (T0 ([(b_0, .cells [.list 1 (r.2.L.map I), I r.2.at_])]) (I r.1)) := by
  unfold Stream_Pick at h
  refine ACall.lessH ?_
  refine ACall.bodyN Tryz.func7 rfl Tryz.ntmps7 Tryz.results7 rfl rfl ?_
  refine tSR <| rA rfl rfl <| rN <| tSR <| rM rfl rfl <| rM rfl rfl <| rM rfl rfl <| ARun.qv (t_len rfl) rfl <| bndE h fun v1 e1 h => t_call0 rfl (Stream_Next_c e1) (CoL.refl _) (.cons .p0 .nil) rfl rfl <| bndE h fun v2 e2 h => ARun.qv (t_index rfl rfl rfl e2 rfl rfl) rfl <| ARun.qv (q_load_rptr rfl rfl rfl) rfl <| rA rfl rfl <| rN <| ATodo.ret <| ?_
  obtain rfl := Option.some.inj h
  exact ImpX.here ⟨_, .cons (.tmp _ _ rfl) .nil, _, .cons .p0 .nil, ⟨rfl, rfl⟩⟩

set_option maxHeartbeats 4000000 in
theorem Stream_RightValue_c [GI : GTab] {b_0 : Bk} {p0x0 : Fleetmake_Stream} {r : ValueS × Fleetmake_Stream} (h : Stream_RightValue p0x0 = some r) : ACall Tryz.prog 60 [.ptr b_0 0] [(b_0, .cells [.list 1 (p0x0.L.map I), I p0x0.at_])] (T0 ([(b_0, .cells [.list 1 (r.2.L.map I), I r.2.at_])]) (.agg [I r.1.Kind, .bool r.1.Flag, I r.1.Number, .str r.1.Words])) := by
  unfold Stream_RightValue at h
  refine ACall.lessH ?_
  refine ACall.bodyN Tryz.func60 rfl Tryz.ntmps60 Tryz.results60 rfl rfl ?_
  refine tSR <| n_alloc rfl rfl rfl rfl fun b1 => rN <| tS <| tSR <| rM rfl rfl <| bndE h fun v2 e1 h => t_call0 rfl (Stream_Next_c e1) (CoL.refl _) (.cons .p1 .nil) rfl rfl <| rN <| ATodo.block <| tSR <| ARun.qv (q_eql rfl rfl) rfl <| rA rfl rfl <| rN <| ATodo.cond_d rfl (fun hc => ?_) (fun hc => ?_)
  · refine have h := iteT hc h; tSR <| rM rfl rfl <| bndE h fun v3 e2 h => t_call0 rfl (Stream_Flip_c e2) (CoL.refl _) (.cons .p0 .nil) rfl rfl <| ARun.qv (n_build rfl rfl rfl rfl rfl) rfl <| n_store_ptr rfl rfl rfl rfl .p1 rfl rfl <| rN <| ATodo.ret <| ?_
    obtain rfl := Option.some.inj h
    exact ImpX.here ⟨_, .cons (.all _ _ _ _ _ _ rfl .p1 TUnder.h TInfo.h rfl rfl) .nil, _, .cons .p0 .nil, ⟨rfl, rfl⟩⟩
  · refine have h := iteF hc h; tSR <| ARun.qv (q_eql rfl rfl) rfl <| rA rfl rfl <| rN <| ATodo.cond_d rfl (fun hc => ?_) (fun hc => ?_)
    · refine have h := iteT hc h; tSR <| rM rfl rfl <| n_buildSliceL (xs := ([([] : Str), ([120] : Str), ([97, 32, 34, 98, 34] : Str), ([92] : Str), ([195, 169] : Str), ([45, 32, 49] : Str)]).map AV.str) rfl rfl rfl rfl rfl rfl <| bndE h fun v4 e3 h => t_call0 rfl (Stream_Some_c e3) (CoL.refl _) (.cons .p0 .nil) rfl rfl <| ARun.qv (n_build rfl rfl rfl rfl rfl) rfl <| n_store_ptr rfl rfl rfl rfl .p1 rfl rfl <| rN <| ATodo.ret <| ?_
      obtain rfl := Option.some.inj h
      exact ImpX.here ⟨_, .cons (.all _ _ _ _ _ _ rfl .p1 TUnder.h TInfo.h rfl rfl) .nil, _, .cons .p0 .nil, ⟨rfl, rfl⟩⟩
    · refine have h := iteF hc h; tK <| ATodo.blk <| tSR <| rM rfl rfl <| n_buildSliceL (xs := ([(1 : Int), (2 : Int), (2 : Int), (3 : Int), (0 : Int), (-5 : Int), (1000000000 : Int)]).map I) rfl rfl rfl rfl rfl rfl <| bndE h fun v5 e4 h => t_call0 rfl (Stream_Pick_c e4) (CoL.refl _) (.cons .p0 .nil) rfl rfl <| ARun.qv (n_build rfl rfl rfl rfl rfl) rfl <| n_store_ptr rfl rfl rfl rfl .p1 rfl rfl <| rN <| ATodo.ret <| ?_
      obtain rfl := Option.some.inj h
      exact ImpX.here ⟨_, .cons (.all _ _ _ _ _ _ rfl .p1 TUnder.h TInfo.h rfl rfl) .nil, _, .cons .p0 .nil, ⟨rfl, rfl⟩⟩

set_option maxHeartbeats 4000000 in
theorem Stream_RightStamp_c [GI : GTab] {b_0 : Bk} {p0x0 : Fleetmake_Stream} {r : Stamp × Fleetmake_Stream} (h : Stream_RightStamp p0x0 = some r) : ACall Tryz.prog 62 [.ptr b_0 0] [(b_0, .cells [.list 1 (p0x0.L.map I), I p0x0.at_])] (T0 ([(b_0, .cells [.list 1 (r.2.L.map I), I r.2.at_])]) (.agg [I r.1.At, .str r.1.By, I r.1.No])) := by
  unfold Stream_RightStamp at h
  refine ACall.lessH ?_
  refine ACall.bodyN Tryz.func62 rfl Tryz.ntmps62 Tryz.results62 rfl rfl ?_
  refine tSR <| n_alloc rfl rfl rfl rfl fun b1 => rN <| tSR <| rM rfl rfl <| bndE h fun v2 e1 h => t_call0 rfl (Stream_Range_c e1) (CoL.refl _) (.cons .p1 .nil) rfl rfl <| rM rfl rfl <| n_buildSliceL (xs := ([([104] : Str), ([104] : Str), ([107] : Str)]).map AV.str) rfl rfl rfl rfl rfl rfl <| bndE h fun v3 e2 h => t_call0 rfl (Stream_Some_c e2) (CoL.refl _) (.cons .p0 .nil) rfl rfl <| rM rfl rfl <| n_buildSliceL (xs := ([(0 : Int), (0 : Int), (1 : Int)]).map I) rfl rfl rfl rfl rfl rfl <| bndE h fun v4 e3 h => t_call0 rfl (Stream_Pick_c e3) (CoL.refl _) (.cons .p0 .nil) rfl rfl <| ARun.qv (n_build rfl rfl rfl rfl rfl) rfl <| n_store_ptr rfl rfl rfl rfl .p1 rfl rfl <| rN <| ATodo.ret <| ?_
  obtain rfl := Option.some.inj h
  exact ImpX.here ⟨_, .cons (.all _ _ _ _ _ _ rfl .p1 TUnder.h TInfo.h rfl rfl) .nil, _, .cons .p0 .nil, ⟨rfl, rfl⟩⟩

set_option maxHeartbeats 4000000 in
theorem cellOrder_c [GI : GTab] {p0x0 : Cell} {p1x0 : Cell} {r : Int} (h : cellOrder p0x0 p1x0 = r) : Pu Tryz.prog 43 [.agg [.str p0x0.Prop_.Name, I p0x0.Prop_.Value.Kind, .bool p0x0.Prop_.Value.Flag, I p0x0.Prop_.Value.Number, .str p0x0.Prop_.Value.Words, I p0x0.Stamp.At, .str p0x0.Stamp.By, I p0x0.Stamp.No], .agg [.str p1x0.Prop_.Name, I p1x0.Prop_.Value.Kind, .bool p1x0.Prop_.Value.Flag, I p1x0.Prop_.Value.Number, .str p1x0.Prop_.Value.Words, I p1x0.Stamp.At, .str p1x0.Stamp.By, I p1x0.Stamp.No]] (I r) := by
  unfold cellOrder at h
  refine ACall.bodyN Tryz.func43 rfl Tryz.ntmps43 Tryz.results43 rfl rfl ?_
  refine tSR <| n_box rfl rfl rfl rfl fun b1 => n_box rfl rfl rfl rfl fun b2 => rA rfl rfl <| rN <| tSR <| rF rfl rfl rfl <| rF rfl rfl rfl <| rL rfl rfl .p1 rfl rfl <| rF rfl rfl rfl <| rF rfl rfl rfl <| rL rfl rfl .p0 rfl rfl <| r_callp rfl (strings_Compare_c rfl) (CoL.refl _) rfl <| rA rfl rfl <| rN <| ATodo.ret <| ?_
  obtain rfl := h
  exact ImpX.here ⟨_, .cons (.tmp _ _ rfl) .nil, rfl⟩

set_option maxHeartbeats 4000000 in
theorem slices_insertionSortCmpFunc_Cell_c [GI : GTab] {b_0 : Bk} {p0x0 : List Cell} {p1x0 : Int} {p2x0 : Int} {fnd : Cell → Cell → Option Int} {fnd_F : FuncId} [IsFn Tryz.prog fnd_F] {fnd_C : List AV} (fnd_h : ∀ {y0 y1 : _} {u : Int}, fnd y0 y1 = some u → Pu Tryz.prog fnd_F (.agg [.str y0.Prop_.Name, I y0.Prop_.Value.Kind, .bool y0.Prop_.Value.Flag, I y0.Prop_.Value.Number, .str y0.Prop_.Value.Words, I y0.Stamp.At, .str y0.Stamp.By, I y0.Stamp.No] :: .agg [.str y1.Prop_.Name, I y1.Prop_.Value.Kind, .bool y1.Prop_.Value.Flag, I y1.Prop_.Value.Number, .str y1.Prop_.Value.Words, I y1.Stamp.At, .str y1.Stamp.By, I y1.Stamp.No] ::  fnd_C) (I u)) {r : (List Cell)} (h : slices_insertionSortCmpFunc_Cell p0x0 p1x0 p2x0 fnd = some r) : ACall Tryz.prog 136 [.sl 8 b_0 0 p0x0.length, I p1x0, I p2x0, .func (.func fnd_F) fnd_C] [(b_0, .arr 8 (p0x0.map Cell.av))] (T0 ([(b_0, .arr 8 (r.map Cell.av))]) (.tup [])) := by
  unfold slices_insertionSortCmpFunc_Cell at h
  refine ACall.lessH ?_
  refine ACall.bodyN Tryz.func136 rfl Tryz.ntmps136 Tryz.results136 rfl rfl ?_
  refine tSR <| rM rfl rfl <| ARun.qv (q_addw rfl rfl) rfl <| rA rfl rfl <| rN <| ATodo.block <| ATodo.loopI (fun x : (List Cell) × Int => slices_insertionSortCmpFunc_Cell_b1 p1x0 p2x0 fnd x.1 x.2) (fun x σ' => σ' = ⟨53, [(0, .sl 8 b_0 0 x.1.length), (1, I p1x0), (2, I p2x0), (3, .func (.func fnd_F) fnd_C), (8, I x.2)], [(b_0, .arr 8 (x.1.map Cell.av))]⟩) h ?_ ?_
  · exact ImpX.lq [0] rfl rfl rfl
  · intro x z1 σ' J1 hmk h hJ1 hA1
    obtain ⟨l3, n4⟩ := x
    obtain rfl := hmk
    replace h : slices_insertionSortCmpFunc_Cell_b1 p1x0 p2x0 fnd l3 n4 = some z1 := h
    unfold slices_insertionSortCmpFunc_Cell_b1 at h
    refine tS <| tSR <| rM rfl rfl <| rM rfl rfl <| ARun.qv (q_lss rfl rfl) rfl <| rN <| ATodo.cond_d rfl (fun hc => ?_) (fun hc => ?_)
    · refine have h := iteT hc h; tK <| tS <| ATodo.block <| tSR <| rM rfl rfl <| rA rfl rfl <| rN <| ATodo.block <| ATodo.loopI (fun x : (List Cell) × Int => slices_insertionSortCmpFunc_Cell_b2 p1x0 fnd n4 x.1 x.2) (fun x σ' => σ' = ⟨53, [(0, .sl 8 b_0 0 x.1.length), (1, I p1x0), (2, I p2x0), (3, .func (.func fnd_F) fnd_C), (8, I n4), (9, I x.2)], [(b_0, .arr 8 (x.1.map Cell.av))]⟩) h ?_ ?_
      · exact ImpX.lq [0] rfl rfl rfl
      · intro x z2 σ' J2 hmk h hJ2 hA2
        obtain ⟨l7, n8⟩ := x
        obtain rfl := hmk
        replace h : slices_insertionSortCmpFunc_Cell_b2 p1x0 fnd n4 l7 n8 = some z2 := h
        unfold slices_insertionSortCmpFunc_Cell_b2 at h
        refine tS <| tS <| ATodo.cut (fun σ' => ∃ (c9 : Bool), slices_insertionSortCmpFunc_Cell_j1 n4 l7 n8 c9 = some z2 ∧ σ' = ⟨53, [(0, .sl 8 b_0 0 l7.length), (1, I p1x0), (2, I p2x0), (3, .func (.func fnd_F) fnd_C), (8, I n4), (9, I n8), (34, .bool c9)], [(b_0, .arr 8 (l7.map Cell.av))]⟩) ?_ ?_
        · refine ATodo.regionM (id := 4) (A := [0, 0, 3, 7, 15, 15, 15, 111, 239, 15, 15, 1039, 3599, 7695, 16383, 32767, 65535]) 14 mixed rfl (by kernel_rfl) (by kernel_rfl) <| AM.qv (q_move rfl) rfl <| AM.qv (q_move rfl) rfl <| AM.qv (q_gtr rfl rfl) rfl <| AM.qv (q_move rfl) rfl <| AM.guard_dt rfl rfl rfl (fun hc => ?_) (fun hc => ?_)
          · exact have h := iteT hc h; AM.qv (q_move rfl) rfl <| AM.guard_yes rfl rfl rfl <| AM.qv (q_move rfl) rfl <| AM.guard_yes rfl rfl rfl <| AM.qv (q_move rfl) rfl <| AM.guard_yes rfl rfl rfl <| bndE h fun v10 e1 h => AM.qv (t_index_sl rfl rfl rfl e1) rfl <| AM.guard_yes rfl rfl rfl <| AM.qv (t_load_aptr_agg (g := Cell.av) rfl rfl (.inl .p0) rfl e1 rfl) rfl <| AM.guard_yes rfl rfl rfl <| AM.qv (q_move rfl) rfl <| AM.guard_yes rfl rfl rfl <| AM.qv (q_move rfl) rfl <| AM.guard_yes rfl rfl rfl <| AM.qv (q_subw rfl rfl) rfl <| AM.guard_yes rfl rfl rfl <| bndE h fun v11 e2 h => AM.qv (t_index_sl rfl rfl rfl e2) rfl <| AM.guard_yes rfl rfl rfl <| AM.qv (t_load_aptr_agg (g := Cell.av) rfl rfl (.inl .p0) rfl e2 rfl) rfl <| AM.nil <| rY rfl rfl rfl <| bndE h fun v12 e3 h => r_callvp rfl rfl (fnd_h e3) (CoL.refl _) rfl <| rY rfl rfl rfl <| ARun.qv (q_lss rfl rfl) rfl <| rT rfl rfl rfl <| rN <| ATodo.stop <| ImpX.lq [0] ⟨decide (v12 < (0 : Int)), h, rfl⟩ rfl rfl
          · exact have h := iteF hc h; AM.guard_no rfl rfl rfl rfl <| AM.guard_no rfl rfl rfl rfl <| AM.guard_no rfl rfl rfl rfl <| AM.guard_no rfl rfl rfl rfl <| AM.guard_no rfl rfl rfl rfl <| AM.guard_no rfl rfl rfl rfl <| AM.guard_no rfl rfl rfl rfl <| AM.guard_no rfl rfl rfl rfl <| AM.guard_no rfl rfl rfl rfl <| AM.nil <| rG rfl rfl rfl rfl <| rG rfl rfl rfl rfl <| rE rfl rfl rfl <| rN <| ATodo.stop <| ImpX.lq [0] ⟨false, h, rfl⟩ rfl rfl
        · rintro σ' ⟨c9, h, rfl⟩
          unfold slices_insertionSortCmpFunc_Cell_j1 at h
          refine ATodo.cond rfl (fun hc => ?_) (fun hc => ?_)
          · refine have h := iteT hc h; tK <| tS <| ATodo.block <| bndE h fun v13 e4 h => bndE h fun v14 e5 h => bndE h fun v15 e6 h => ATodo.regionT (id := 6) (A := [0, 0, 0, 0, 8, 0, 0, 64, 224, 480, 0, 0, 3072, 7168, 16355, 32739, 65535, 131071]) (H0 := [(b_0, .arr 8 (l7.map Cell.av))]) (HH := fun β => [(b_0, .arr 8 ((l7.set n8.toNat v13).map Cell.av))]) 16 mixed rfl (by kernel_rfl) (by kernel_rfl) [⟨none, some 15, [9, 13], fun _ => (b_0, .arr 8 (l7.map Cell.av)), none⟩, ⟨some 15, none, [], fun _ => (b_0, .arr 8 ((l7.set n8.toNat v13).map Cell.av)), none⟩] [] rfl (by kernel_rfl) rfl (.cons .p0 .nil) (fun _ => rfl) <| AT.am 9 rfl rfl <| AM.qv (q_move rfl) rfl <| AM.qv (q_move rfl) rfl <| AM.qv (q_move rfl) rfl <| AM.qv (q_move rfl) rfl <| AM.qv (q_subw rfl rfl) rfl <| AM.qv (q_move rfl) rfl <| AM.qv (q_move rfl) rfl <| AM.qv (q_subw rfl rfl) rfl <| AM.qv (t_index_sl rfl rfl rfl e4) rfl <| AM.nil <| AT.rd (Rs := [(b_0, .arr 8 (l7.map Cell.av))]) (fun _ => rfl) rfl (fun _ => rfl) (fun _ => rfl) (t_load_aptr_agg (g := Cell.av) rfl rfl (.inl .p0) rfl e4 rfl) rfl <| AT.am 3 rfl rfl <| AM.qv (q_move rfl) rfl <| AM.qv (q_move rfl) rfl <| AM.qv (t_index_sl rfl rfl rfl e5) rfl <| AM.nil <| AT.rd (Rs := [(b_0, .arr 8 (l7.map Cell.av))]) (fun _ => rfl) rfl (fun _ => rfl) (fun _ => rfl) (t_load_aptr_agg (g := Cell.av) rfl rfl (.inl .p0) rfl e5 rfl) rfl <| AT.am 1 rfl rfl <| AM.qv (t_index_sl rfl rfl rfl e6) rfl <| AM.nil <| AT.run0 (Ti := [(b_0, .arr 8 (l7.map Cell.av))]) (Pi := [(b_0, .arr 8 ((l7.set n8.toNat v13).map Cell.av))]) (fun _ => rfl) (fun _ => rfl) (fun _ => rfl) rfl rfl ?_ ?_
            · exact t_store_aptr1 (g := Cell.av) (el' := v13) rfl rfl rfl rfl e6 rfl .p0 rfl <| ARun.nil ⟨_, rfl⟩
            refine AT.nilN (fun _ => rfl) fun β => ARun.ghost <| ImpX.eqs (s := 0) (av' := .sl 8 b_0 0 (l7.set n8.toNat v13).length) rfl (by simp) <| ImpX.here <| ARun.ghost <| ImpX.eqs (s := 37) (av' := .sl 8 b_0 0 (l7.set n8.toNat v13).length) rfl (by simp) <| ImpX.here <| ARun.ghost <| ImpX.eqs (s := 39) (av' := .sl 8 b_0 0 (l7.set n8.toNat v13).length) rfl (by simp) <| ImpX.here <| ARun.ghost <| ImpX.eqs (s := 42) (av' := .sl 8 b_0 0 (l7.set n8.toNat v13).length) rfl (by simp) <| ImpX.here <| ARun.ghost <| ImpX.eqs (s := 47) (av' := .sl 8 b_0 0 (l7.set n8.toNat v13).length) rfl (by simp) <| ImpX.here <| bndE h fun v16 e7 h => ARun.qv (t_index_sl rfl rfl rfl e7) rfl <| t_store_aptr1 (g := Cell.av) (el' := v14) rfl rfl rfl rfl e7 rfl .p0 rfl <| ARun.ghost <| ImpX.eqs (s := 0) (av' := .sl 8 b_0 0 ((l7.set n8.toNat v13).set (w64 (n8 - (1 : Int))).toNat v14).length) rfl (by rw [List.length_set]) <| ImpX.here <| ARun.ghost <| ImpX.eqs (s := 37) (av' := .sl 8 b_0 0 ((l7.set n8.toNat v13).set (w64 (n8 - (1 : Int))).toNat v14).length) rfl (by rw [List.length_set]) <| ImpX.here <| ARun.ghost <| ImpX.eqs (s := 39) (av' := .sl 8 b_0 0 ((l7.set n8.toNat v13).set (w64 (n8 - (1 : Int))).toNat v14).length) rfl (by rw [List.length_set]) <| ImpX.here <| ARun.ghost <| ImpX.eqs (s := 42) (av' := .sl 8 b_0 0 ((l7.set n8.toNat v13).set (w64 (n8 - (1 : Int))).toNat v14).length) rfl (by rw [List.length_set]) <| ImpX.here <| ARun.ghost <| ImpX.eqs (s := 47) (av' := .sl 8 b_0 0 ((l7.set n8.toNat v13).set (w64 (n8 - (1 : Int))).toNat v14).length) rfl (by rw [List.length_set]) <| ImpX.here <| rN <| ATodo.blk <| tR <| rM rfl rfl <| ARun.qv (q_subw rfl rfl) rfl <| rA rfl rfl <| rN <| ATodo.stop <| ?_
            obtain rfl := Option.some.inj h
            exact hJ2 _ _ rfl <| ImpX.lq [0] rfl rfl rfl
          · refine have h := iteFb hc h; ATodo.exit rfl <| have h := outL h hA2; ATodo.blk <| tR <| rM rfl rfl <| ARun.qv (q_addw rfl rfl) rfl <| rA rfl rfl <| rN <| ATodo.stop <| ?_
            obtain rfl := Option.some.inj h
            exact hJ1 _ _ rfl <| ImpX.lq [0] rfl rfl rfl
    · refine have h := iteF hc h; ATodo.exit rfl <| have h := outL h hA1; ATodo.nil <| ?_
      obtain rfl := Option.some.inj h
      exact ImpX.here ⟨_, .nil, _, .cons .p0 .nil, ⟨rfl, rfl⟩⟩

set_option maxHeartbeats 4000000 in
theorem slices_swapRangeCmpFunc_Cell_c [GI : GTab] {b_0 : Bk} {p0x0 : List Cell} {p1x0 : Int} {p2x0 : Int} {p3x0 : Int} {fne : Cell → Cell → Option Int} {fne_F : FuncId} [IsFn Tryz.prog fne_F] {fne_C : List AV} (fne_h : ∀ {y0 y1 : _} {u : Int}, fne y0 y1 = some u → Pu Tryz.prog fne_F (.agg [.str y0.Prop_.Name, I y0.Prop_.Value.Kind, .bool y0.Prop_.Value.Flag, I y0.Prop_.Value.Number, .str y0.Prop_.Value.Words, I y0.Stamp.At, .str y0.Stamp.By, I y0.Stamp.No] :: .agg [.str y1.Prop_.Name, I y1.Prop_.Value.Kind, .bool y1.Prop_.Value.Flag, I y1.Prop_.Value.Number, .str y1.Prop_.Value.Words, I y1.Stamp.At, .str y1.Stamp.By, I y1.Stamp.No] ::  fne_C) (I u)) {r : (List Cell)} (h : slices_swapRangeCmpFunc_Cell p0x0 p1x0 p2x0 p3x0 fne = some r) : ACall Tryz.prog 199 [.sl 8 b_0 0 p0x0.length, I p1x0, I p2x0, I p3x0, .func (.func fne_F) fne_C] [(b_0, .arr 8 (p0x0.map Cell.av))] (T0 ([(b_0, .arr 8 (r.map Cell.av))]) (.tup [])) := by
  unfold slices_swapRangeCmpFunc_Cell at h
  refine ACall.lessH ?_
  refine ACall.bodyN Tryz.func199 rfl Tryz.ntmps199 Tryz.results199 rfl rfl ?_
  refine tSR <| rA rfl rfl <| rN <| ATodo.block <| ATodo.loopI (fun x : (List Cell) × Int => slices_swapRangeCmpFunc_Cell_b1 p1x0 p2x0 p3x0 x.1 x.2) (fun x σ' => σ' = ⟨38, [(0, .sl 8 b_0 0 x.1.length), (1, I p1x0), (2, I p2x0), (3, I p3x0), (10, I x.2)], [(b_0, .arr 8 (x.1.map Cell.av))]⟩) h ?_ ?_
  · exact ImpX.lq [0] rfl rfl rfl
  · intro x z1 σ' J1 hmk h hJ1 hA1
    obtain ⟨l3, n4⟩ := x
    obtain rfl := hmk
    replace h : slices_swapRangeCmpFunc_Cell_b1 p1x0 p2x0 p3x0 l3 n4 = some z1 := h
    unfold slices_swapRangeCmpFunc_Cell_b1 at h
    refine tS <| tSR <| rM rfl rfl <| rM rfl rfl <| ARun.qv (q_lss rfl rfl) rfl <| rN <| ATodo.cond_d rfl (fun hc => ?_) (fun hc => ?_)
    · refine have h := iteT hc h; tK <| tS <| ATodo.block <| bndE h fun v5 e1 h => bndE h fun v6 e2 h => bndE h fun v7 e3 h => ATodo.regionT (id := 3) (A := [0, 0, 0, 6, 0, 0, 0, 96, 0, 0, 0, 1536, 3840, 7936, 0, 0, 0, 98304, 245760, 507904, 1048335, 2096911, 4194303, 8388607]) (H0 := [(b_0, .arr 8 (l3.map Cell.av))]) (HH := fun β => [(b_0, .arr 8 ((l3.set (w64 (p1x0 + n4)).toNat v5).map Cell.av))]) 22 mixed rfl (by kernel_rfl) (by kernel_rfl) [⟨none, some 21, [13, 19], fun _ => (b_0, .arr 8 (l3.map Cell.av)), none⟩, ⟨some 21, none, [], fun _ => (b_0, .arr 8 ((l3.set (w64 (p1x0 + n4)).toNat v5).map Cell.av)), none⟩] [] rfl (by kernel_rfl) rfl (.cons .p0 .nil) (fun _ => rfl) <| AT.am 13 rfl rfl <| AM.qv (q_move rfl) rfl <| AM.qv (q_move rfl) rfl <| AM.qv (q_move rfl) rfl <| AM.qv (q_addw rfl rfl) rfl <| AM.qv (q_move rfl) rfl <| AM.qv (q_move rfl) rfl <| AM.qv (q_move rfl) rfl <| AM.qv (q_addw rfl rfl) rfl <| AM.qv (q_move rfl) rfl <| AM.qv (q_move rfl) rfl <| AM.qv (q_move rfl) rfl <| AM.qv (q_addw rfl rfl) rfl <| AM.qv (t_index_sl rfl rfl rfl e1) rfl <| AM.nil <| AT.rd (Rs := [(b_0, .arr 8 (l3.map Cell.av))]) (fun _ => rfl) rfl (fun _ => rfl) (fun _ => rfl) (t_load_aptr_agg (g := Cell.av) rfl rfl (.inl .p0) rfl e1 rfl) rfl <| AT.am 5 rfl rfl <| AM.qv (q_move rfl) rfl <| AM.qv (q_move rfl) rfl <| AM.qv (q_move rfl) rfl <| AM.qv (q_addw rfl rfl) rfl <| AM.qv (t_index_sl rfl rfl rfl e2) rfl <| AM.nil <| AT.rd (Rs := [(b_0, .arr 8 (l3.map Cell.av))]) (fun _ => rfl) rfl (fun _ => rfl) (fun _ => rfl) (t_load_aptr_agg (g := Cell.av) rfl rfl (.inl .p0) rfl e2 rfl) rfl <| AT.am 1 rfl rfl <| AM.qv (t_index_sl rfl rfl rfl e3) rfl <| AM.nil <| AT.run0 (Ti := [(b_0, .arr 8 (l3.map Cell.av))]) (Pi := [(b_0, .arr 8 ((l3.set (w64 (p1x0 + n4)).toNat v5).map Cell.av))]) (fun _ => rfl) (fun _ => rfl) (fun _ => rfl) rfl rfl ?_ ?_
      · exact t_store_aptr1 (g := Cell.av) (el' := v5) rfl rfl rfl rfl e3 rfl .p0 rfl <| ARun.nil ⟨_, rfl⟩
      refine AT.nilN (fun _ => rfl) fun β => ARun.ghost <| ImpX.eqs (s := 0) (av' := .sl 8 b_0 0 (l3.set (w64 (p1x0 + n4)).toNat v5).length) rfl (by simp) <| ImpX.here <| ARun.ghost <| ImpX.eqs (s := 16) (av' := .sl 8 b_0 0 (l3.set (w64 (p1x0 + n4)).toNat v5).length) rfl (by simp) <| ImpX.here <| ARun.ghost <| ImpX.eqs (s := 20) (av' := .sl 8 b_0 0 (l3.set (w64 (p1x0 + n4)).toNat v5).length) rfl (by simp) <| ImpX.here <| ARun.ghost <| ImpX.eqs (s := 24) (av' := .sl 8 b_0 0 (l3.set (w64 (p1x0 + n4)).toNat v5).length) rfl (by simp) <| ImpX.here <| ARun.ghost <| ImpX.eqs (s := 30) (av' := .sl 8 b_0 0 (l3.set (w64 (p1x0 + n4)).toNat v5).length) rfl (by simp) <| ImpX.here <| bndE h fun v8 e4 h => ARun.qv (t_index_sl rfl rfl rfl e4) rfl <| t_store_aptr1 (g := Cell.av) (el' := v6) rfl rfl rfl rfl e4 rfl .p0 rfl <| ARun.ghost <| ImpX.eqs (s := 0) (av' := .sl 8 b_0 0 ((l3.set (w64 (p1x0 + n4)).toNat v5).set (w64 (p2x0 + n4)).toNat v6).length) rfl (by rw [List.length_set]) <| ImpX.here <| ARun.ghost <| ImpX.eqs (s := 16) (av' := .sl 8 b_0 0 ((l3.set (w64 (p1x0 + n4)).toNat v5).set (w64 (p2x0 + n4)).toNat v6).length) rfl (by rw [List.length_set]) <| ImpX.here <| ARun.ghost <| ImpX.eqs (s := 20) (av' := .sl 8 b_0 0 ((l3.set (w64 (p1x0 + n4)).toNat v5).set (w64 (p2x0 + n4)).toNat v6).length) rfl (by rw [List.length_set]) <| ImpX.here <| ARun.ghost <| ImpX.eqs (s := 24) (av' := .sl 8 b_0 0 ((l3.set (w64 (p1x0 + n4)).toNat v5).set (w64 (p2x0 + n4)).toNat v6).length) rfl (by rw [List.length_set]) <| ImpX.here <| ARun.ghost <| ImpX.eqs (s := 30) (av' := .sl 8 b_0 0 ((l3.set (w64 (p1x0 + n4)).toNat v5).set (w64 (p2x0 + n4)).toNat v6).length) rfl (by rw [List.length_set]) <| ImpX.here <| rN <| ATodo.blk <| tR <| rM rfl rfl <| ARun.qv (q_addw rfl rfl) rfl <| rA rfl rfl <| rN <| ATodo.stop <| ?_
      obtain rfl := Option.some.inj h
      exact hJ1 _ _ rfl <| ImpX.lq [0] rfl rfl rfl
    · refine have h := iteF hc h; ATodo.exit rfl <| have h := outL h hA1; ATodo.nil <| ?_
      obtain rfl := Option.some.inj h
      exact ImpX.here ⟨_, .nil, _, .cons .p0 .nil, ⟨rfl, rfl⟩⟩

set_option maxHeartbeats 4000000 in
theorem slices_rotateCmpFunc_Cell_c [GI : GTab] {b_0 : Bk} {p0x0 : List Cell} {p1x0 : Int} {p2x0 : Int} {p3x0 : Int} {fne : Cell → Cell → Option Int} {fne_F : FuncId} [IsFn Tryz.prog fne_F] {fne_C : List AV} (fne_h : ∀ {y0 y1 : _} {u : Int}, fne y0 y1 = some u → Pu Tryz.prog fne_F (.agg [.str y0.Prop_.Name, I y0.Prop_.Value.Kind, .bool y0.Prop_.Value.Flag, I y0.Prop_.Value.Number, .str y0.Prop_.Value.Words, I y0.Stamp.At, .str y0.Stamp.By, I y0.Stamp.No] :: .agg [.str y1.Prop_.Name, I y1.Prop_.Value.Kind, .bool y1.Prop_.Value.Flag, I y1.Prop_.Value.Number, .str y1.Prop_.Value.Words, I y1.Stamp.At, .str y1.Stamp.By, I y1.Stamp.No] ::  fne_C) (I u)) {r : (List Cell)} (h : slices_rotateCmpFunc_Cell p0x0 p1x0 p2x0 p3x0 fne = some r) : ACall Tryz.prog 167 [.sl 8 b_0 0 p0x0.length, I p1x0, I p2x0, I p3x0, .func (.func fne_F) fne_C] [(b_0, .arr 8 (p0x0.map Cell.av))] (T0 ([(b_0, .arr 8 (r.map Cell.av))]) (.tup [])) := by
  unfold slices_rotateCmpFunc_Cell at h
  refine ACall.lessH ?_
  refine ACall.bodyN Tryz.func167 rfl Tryz.ntmps167 Tryz.results167 rfl rfl ?_
  refine tSR <| rM rfl rfl <| rM rfl rfl <| ARun.qv (q_subw rfl rfl) rfl <| rA rfl rfl <| rN <| tSR <| rM rfl rfl <| rM rfl rfl <| ARun.qv (q_subw rfl rfl) rfl <| rA rfl rfl <| rN <| tS <| ATodo.block <| ATodo.loopI (fun x : (List Cell) × Int × Int => slices_rotateCmpFunc_Cell_b1 p2x0 fne x.1 x.2.1 x.2.2) (fun x σ' => σ' = ⟨58, [(0, .sl 8 b_0 0 x.1.length), (2, I p2x0), (4, .func (.func fne_F) fne_C), (10, I x.2.1), (11, I x.2.2)], [(b_0, .arr 8 (x.1.map Cell.av))]⟩) h ?_ ?_
  · exact ImpX.lq [0] rfl rfl rfl
  · intro x z1 σ' J1 hmk h hJ1 hA1
    obtain ⟨l4, n5, n6⟩ := x
    obtain rfl := hmk
    replace h : slices_rotateCmpFunc_Cell_b1 p2x0 fne l4 n5 n6 = some z1 := h
    unfold slices_rotateCmpFunc_Cell_b1 at h
    refine tS <| tSR <| rM rfl rfl <| rM rfl rfl <| ARun.qv (q_neq rfl rfl) rfl <| rN <| ATodo.cond_d rfl (fun hc => ?_) (fun hc => ?_)
    · refine have h := iteT hc h; tK <| ATodo.block <| tSR <| rM rfl rfl <| rM rfl rfl <| ARun.qv (q_gtr rfl rfl) rfl <| rN <| ATodo.cut (fun σ' => ∃ (l7 : List Cell) (n8 : Int) (n9 : Int), slices_rotateCmpFunc_Cell_j1 l7 n8 n9 = some z1 ∧ σ' = ⟨58, [(0, .sl 8 b_0 0 l7.length), (2, I p2x0), (4, .func (.func fne_F) fne_C), (10, I n8), (11, I n9)], [(b_0, .arr 8 (l7.map Cell.av))]⟩) ?_ ?_
      · refine ATodo.cond_d rfl (fun hc => ?_) (fun hc => ?_)
        · exact have h := iteT hc h; tSR <| rM rfl rfl <| rM rfl rfl <| rM rfl rfl <| ARun.qv (q_subw rfl rfl) rfl <| rM rfl rfl <| rM rfl rfl <| rM rfl rfl <| bndE h fun v10 e1 h => t_call0 rfl (slices_swapRangeCmpFunc_Cell_c fne_h (lenOk_f e1)) (CoL.refl _) (.cons .p0 .nil) rfl rfl <| ARun.ghost <| ImpX.eqs (s := 0) (av' := .sl 8 b_0 0 v10.length) rfl (congrArg (AV.sl 8 b_0 0) (lenOk_l e1)) <| ImpX.here <| ARun.ghost <| ImpX.eqs (s := 24) (av' := .sl 8 b_0 0 v10.length) rfl (congrArg (AV.sl 8 b_0 0) (lenOk_l e1)) <| ImpX.here <| rN <| tR <| rM rfl rfl <| rM rfl rfl <| ARun.qv (q_subw rfl rfl) rfl <| rA rfl rfl <| rN <| ATodo.stop <| ImpX.lq [0] ⟨v10, w64 (n5 - n6), n6, h, rfl⟩ rfl rfl
        · exact have h := iteF hc h; tSR <| rM rfl rfl <| rM rfl rfl <| rM rfl rfl <| ARun.qv (q_subw rfl rfl) rfl <| rM rfl rfl <| rM rfl rfl <| ARun.qv (q_addw rfl rfl) rfl <| rM rfl rfl <| ARun.qv (q_subw rfl rfl) rfl <| rM rfl rfl <| rM rfl rfl <| bndE h fun v11 e2 h => t_call0 rfl (slices_swapRangeCmpFunc_Cell_c fne_h (lenOk_f e2)) (CoL.refl _) (.cons .p0 .nil) rfl rfl <| ARun.ghost <| ImpX.eqs (s := 0) (av' := .sl 8 b_0 0 v11.length) rfl (congrArg (AV.sl 8 b_0 0) (lenOk_l e2)) <| ImpX.here <| ARun.ghost <| ImpX.eqs (s := 35) (av' := .sl 8 b_0 0 v11.length) rfl (congrArg (AV.sl 8 b_0 0) (lenOk_l e2)) <| ImpX.here <| rN <| tR <| rM rfl rfl <| rM rfl rfl <| ARun.qv (q_subw rfl rfl) rfl <| rA rfl rfl <| rN <| ATodo.stop <| ImpX.lq [0] ⟨v11, n5, w64 (n6 - n5), h, rfl⟩ rfl rfl
      · rintro σ' ⟨l7, n8, n9, h, rfl⟩
        unfold slices_rotateCmpFunc_Cell_j1 at h
        refine ATodo.blk <| ATodo.stop <| ?_
        obtain rfl := Option.some.inj h
        exact hJ1 _ _ rfl <| ImpX.lq [0] rfl rfl rfl
    · refine have h := iteF hc h; ATodo.exit rfl <| have h := outL h hA1; ?_
      unfold slices_rotateCmpFunc_Cell_k2 at h
      refine tR <| rM rfl rfl <| rM rfl rfl <| rM rfl rfl <| ARun.qv (q_subw rfl rfl) rfl <| rM rfl rfl <| rM rfl rfl <| rM rfl rfl <| bndE h fun v12 e3 h => t_call0 rfl (slices_swapRangeCmpFunc_Cell_c fne_h (lenOk_f e3)) (CoL.refl _) (.cons .p0 .nil) rfl rfl <| ARun.ghost <| ImpX.eqs (s := 0) (av' := .sl 8 b_0 0 v12.length) rfl (congrArg (AV.sl 8 b_0 0) (lenOk_l e3)) <| ImpX.here <| ARun.ghost <| ImpX.eqs (s := 50) (av' := .sl 8 b_0 0 v12.length) rfl (congrArg (AV.sl 8 b_0 0) (lenOk_l e3)) <| ImpX.here <| rN <| ATodo.nil <| ?_
      obtain rfl := Option.some.inj h
      exact ImpX.here ⟨_, .nil, _, .cons .p0 .nil, ⟨rfl, rfl⟩⟩

set_option maxHeartbeats 4000000 in
theorem slices_symMergeCmpFunc_Cell_bd_c [GI : GTab] {b_0 : Bk} {self : (List Cell) → Int → Int → Int → (Cell → Cell → Option Int) → Option (List Cell)} (self_h : ∀ {b_0 : Bk} {p0x0 : List Cell} {p1x0 : Int} {p2x0 : Int} {p3x0 : Int} {fne : Cell → Cell → Option Int} {fne_F : FuncId} [IsFn Tryz.prog fne_F] {fne_C : List AV} (fne_h : ∀ {y0 y1 : _} {u : Int}, fne y0 y1 = some u → Pu Tryz.prog fne_F (.agg [.str y0.Prop_.Name, I y0.Prop_.Value.Kind, .bool y0.Prop_.Value.Flag, I y0.Prop_.Value.Number, .str y0.Prop_.Value.Words, I y0.Stamp.At, .str y0.Stamp.By, I y0.Stamp.No] :: .agg [.str y1.Prop_.Name, I y1.Prop_.Value.Kind, .bool y1.Prop_.Value.Flag, I y1.Prop_.Value.Number, .str y1.Prop_.Value.Words, I y1.Stamp.At, .str y1.Stamp.By, I y1.Stamp.No] ::  fne_C) (I u)) {r : (List Cell)}, self p0x0 p1x0 p2x0 p3x0 fne = some r → ACall Tryz.prog 137 [.sl 8 b_0 0 p0x0.length, I p1x0, I p2x0, I p3x0, .func (.func fne_F) fne_C] [(b_0, .arr 8 (p0x0.map Cell.av))] (T0 ([(b_0, .arr 8 (r.map Cell.av))]) (.tup []))) {p0x0 : List Cell} {p1x0 : Int} {p2x0 : Int} {p3x0 : Int} {fne : Cell → Cell → Option Int} {fne_F : FuncId} [IsFn Tryz.prog fne_F] {fne_C : List AV} (fne_h : ∀ {y0 y1 : _} {u : Int}, fne y0 y1 = some u → Pu Tryz.prog fne_F (.agg [.str y0.Prop_.Name, I y0.Prop_.Value.Kind, .bool y0.Prop_.Value.Flag, I y0.Prop_.Value.Number, .str y0.Prop_.Value.Words, I y0.Stamp.At, .str y0.Stamp.By, I y0.Stamp.No] :: .agg [.str y1.Prop_.Name, I y1.Prop_.Value.Kind, .bool y1.Prop_.Value.Flag, I y1.Prop_.Value.Number, .str y1.Prop_.Value.Words, I y1.Stamp.At, .str y1.Stamp.By, I y1.Stamp.No] ::  fne_C) (I u)) {r : (List Cell)} (h : slices_symMergeCmpFunc_Cell_bd self p0x0 p1x0 p2x0 p3x0 fne = some r) : ACall Tryz.prog 137 [.sl 8 b_0 0 p0x0.length, I p1x0, I p2x0, I p3x0, .func (.func fne_F) fne_C] [(b_0, .arr 8 (p0x0.map Cell.av))] (T0 ([(b_0, .arr 8 (r.map Cell.av))]) (.tup [])) := by
  unfold slices_symMergeCmpFunc_Cell_bd at h
  refine ACall.lessH ?_
  refine ACall.bodyN Tryz.func137 rfl Tryz.ntmps137 Tryz.results137 rfl rfl ?_
  refine tS <| tSR <| rM rfl rfl <| rM rfl rfl <| ARun.qv (q_subw rfl rfl) rfl <| ARun.qv (q_eql rfl rfl) rfl <| rN <| ATodo.cond_d rfl (fun hc => ?_) (fun hc => ?_)
  · refine have h := iteT hc h; tSR <| rM rfl rfl <| rA rfl rfl <| rN <| tSR <| rM rfl rfl <| rA rfl rfl <| rN <| tS <| ATodo.block <| ATodo.loopI (fun x : Int × Int => slices_symMergeCmpFunc_Cell_b1 p0x0 p1x0 fne x.1 x.2) (fun x σ' => σ' = ⟨220, [(0, .sl 8 b_0 0 p0x0.length), (1, I p1x0), (4, .func (.func fne_F) fne_C), (10, I x.1), (11, I x.2)], [(b_0, .arr 8 (p0x0.map Cell.av))]⟩) h ?_ ?_
    · exact ImpX.lq [0] rfl rfl rfl
    · intro x z1 σ' J1 hmk h hJ1 hA1
      obtain ⟨n3, n4⟩ := x
      obtain rfl := hmk
      replace h : slices_symMergeCmpFunc_Cell_b1 p0x0 p1x0 fne n3 n4 = some z1 := h
      unfold slices_symMergeCmpFunc_Cell_b1 at h
      refine tS <| tSR <| rM rfl rfl <| rM rfl rfl <| ARun.qv (q_lss rfl rfl) rfl <| rN <| ATodo.cond_d rfl (fun hc => ?_) (fun hc => ?_)
      · refine have h := iteT hc h; tK <| ATodo.block <| tSR <| rM rfl rfl <| rM rfl rfl <| ARun.qv (q_addw rfl rfl) rfl <| ARun.qv (q_conv_int rfl) rfl <| ARun.qv (t_shr rfl rfl (by decide)) rfl <| ARun.qv (q_conv_int rfl) rfl <| rA rfl rfl <| rN <| tS <| ATodo.regionM (id := 5) (A := [0, 0, 0, 6, 14, 0, 0, 96, 224, 511, 1023]) 9 mixed rfl (by kernel_rfl) (by kernel_rfl) <| AM.qv (q_move rfl) rfl <| AM.qv (q_move rfl) rfl <| AM.qv (q_move rfl) rfl <| bndE h fun v5 e1 h => AM.qv (t_index_sl rfl rfl rfl e1) rfl <| AM.qv (t_load_aptr_agg (g := Cell.av) rfl rfl (.inl .p0) rfl e1 rfl) rfl <| AM.qv (q_move rfl) rfl <| AM.qv (q_move rfl) rfl <| bndE h fun v6 e2 h => AM.qv (t_index_sl rfl rfl rfl e2) rfl <| AM.qv (t_load_aptr_agg (g := Cell.av) rfl rfl (.inl .p0) rfl e2 rfl) rfl <| AM.nil <| bndE h fun v7 e3 h => r_callvp rfl rfl (fne_h e3) (CoL.refl _) rfl <| ARun.qv (q_lss rfl rfl) rfl <| rN <| ATodo.cut (fun σ' => ∃ (n8 : Int) (n9 : Int), slices_symMergeCmpFunc_Cell_j1 n8 n9 = some z1 ∧ σ' = ⟨220, [(0, .sl 8 b_0 0 p0x0.length), (1, I p1x0), (4, .func (.func fne_F) fne_C), (10, I n8), (11, I n9)], [(b_0, .arr 8 (p0x0.map Cell.av))]⟩) ?_ ?_
        · refine ATodo.cond_d rfl (fun hc => ?_) (fun hc => ?_)
          · exact have h := iteT hc h; tR <| rM rfl rfl <| ARun.qv (q_addw rfl rfl) rfl <| rA rfl rfl <| rN <| ATodo.stop <| ImpX.lq [0] ⟨w64 ((w64 (shrI .u64 (IntKind.u64.wrap (w64 (n3 + n4))) (1 : Int))) + (1 : Int)), n4, h, rfl⟩ rfl rfl
          · exact have h := iteF hc h; tR <| rM rfl rfl <| rA rfl rfl <| rN <| ATodo.stop <| ImpX.lq [0] ⟨n3, w64 (shrI .u64 (IntKind.u64.wrap (w64 (n3 + n4))) (1 : Int)), h, rfl⟩ rfl rfl
        · rintro σ' ⟨n8, n9, h, rfl⟩
          unfold slices_symMergeCmpFunc_Cell_j1 at h
          refine ATodo.blk <| ATodo.stop <| ?_
          obtain rfl := Option.some.inj h
          exact hJ1 _ _ rfl <| ImpX.lq [0] rfl rfl rfl
      · refine have h := iteF hc h; ATodo.exit rfl <| have h := outL h hA1; tS <| tSR <| rM rfl rfl <| rA rfl rfl <| rN <| ATodo.block <| ATodo.loopI (fun x : (List Cell) × Int => slices_symMergeCmpFunc_Cell_b2 n3 x.1 x.2) (fun x σ' => σ' = ⟨220, [(0, .sl 8 b_0 0 x.1.length), (10, I n3), (13, I x.2)], [(b_0, .arr 8 (x.1.map Cell.av))]⟩) h ?_ ?_
        · exact ImpX.lq [0] rfl rfl rfl
        · intro x z2 σ' J2 hmk h hJ2 hA2
          obtain ⟨l12, n13⟩ := x
          obtain rfl := hmk
          replace h : slices_symMergeCmpFunc_Cell_b2 n3 l12 n13 = some z2 := h
          unfold slices_symMergeCmpFunc_Cell_b2 at h
          refine tS <| tSR <| rM rfl rfl <| rM rfl rfl <| ARun.qv (q_subw rfl rfl) rfl <| ARun.qv (q_lss rfl rfl) rfl <| rN <| ATodo.cond_d rfl (fun hc => ?_) (fun hc => ?_)
          · refine have h := iteT hc h; tK <| tS <| ATodo.block <| bndE h fun v14 e4 h => bndE h fun v15 e5 h => bndE h fun v16 e6 h => ATodo.regionT (id := 11) (A := [0, 0, 0, 0, 8, 0, 0, 64, 224, 480, 0, 0, 3072, 7168, 16355, 32739, 65535, 131071]) (H0 := [(b_0, .arr 8 (l12.map Cell.av))]) (HH := fun β => [(b_0, .arr 8 ((l12.set n13.toNat v14).map Cell.av))]) 16 mixed rfl (by kernel_rfl) (by kernel_rfl) [⟨none, some 15, [9, 13], fun _ => (b_0, .arr 8 (l12.map Cell.av)), none⟩, ⟨some 15, none, [], fun _ => (b_0, .arr 8 ((l12.set n13.toNat v14).map Cell.av)), none⟩] [] rfl (by kernel_rfl) rfl (.cons .p0 .nil) (fun _ => rfl) <| AT.am 9 rfl rfl <| AM.qv (q_move rfl) rfl <| AM.qv (q_move rfl) rfl <| AM.qv (q_move rfl) rfl <| AM.qv (q_move rfl) rfl <| AM.qv (q_addw rfl rfl) rfl <| AM.qv (q_move rfl) rfl <| AM.qv (q_move rfl) rfl <| AM.qv (q_addw rfl rfl) rfl <| AM.qv (t_index_sl rfl rfl rfl e4) rfl <| AM.nil <| AT.rd (Rs := [(b_0, .arr 8 (l12.map Cell.av))]) (fun _ => rfl) rfl (fun _ => rfl) (fun _ => rfl) (t_load_aptr_agg (g := Cell.av) rfl rfl (.inl .p0) rfl e4 rfl) rfl <| AT.am 3 rfl rfl <| AM.qv (q_move rfl) rfl <| AM.qv (q_move rfl) rfl <| AM.qv (t_index_sl rfl rfl rfl e5) rfl <| AM.nil <| AT.rd (Rs := [(b_0, .arr 8 (l12.map Cell.av))]) (fun _ => rfl) rfl (fun _ => rfl) (fun _ => rfl) (t_load_aptr_agg (g := Cell.av) rfl rfl (.inl .p0) rfl e5 rfl) rfl <| AT.am 1 rfl rfl <| AM.qv (t_index_sl rfl rfl rfl e6) rfl <| AM.nil <| AT.run0 (Ti := [(b_0, .arr 8 (l12.map Cell.av))]) (Pi := [(b_0, .arr 8 ((l12.set n13.toNat v14).map Cell.av))]) (fun _ => rfl) (fun _ => rfl) (fun _ => rfl) rfl rfl ?_ ?_
            · exact t_store_aptr1 (g := Cell.av) (el' := v14) rfl rfl rfl rfl e6 rfl .p0 rfl <| ARun.nil ⟨_, rfl⟩
            refine AT.nilN (fun _ => rfl) fun β => ARun.ghost <| ImpX.eqs (s := 0) (av' := .sl 8 b_0 0 (l12.set n13.toNat v14).length) rfl (by simp) <| ImpX.here <| ARun.ghost <| ImpX.eqs (s := 61) (av' := .sl 8 b_0 0 (l12.set n13.toNat v14).length) rfl (by simp) <| ImpX.here <| ARun.ghost <| ImpX.eqs (s := 63) (av' := .sl 8 b_0 0 (l12.set n13.toNat v14).length) rfl (by simp) <| ImpX.here <| ARun.ghost <| ImpX.eqs (s := 66) (av' := .sl 8 b_0 0 (l12.set n13.toNat v14).length) rfl (by simp) <| ImpX.here <| ARun.ghost <| ImpX.eqs (s := 71) (av' := .sl 8 b_0 0 (l12.set n13.toNat v14).length) rfl (by simp) <| ImpX.here <| bndE h fun v17 e7 h => ARun.qv (t_index_sl rfl rfl rfl e7) rfl <| t_store_aptr1 (g := Cell.av) (el' := v15) rfl rfl rfl rfl e7 rfl .p0 rfl <| ARun.ghost <| ImpX.eqs (s := 0) (av' := .sl 8 b_0 0 ((l12.set n13.toNat v14).set (w64 (n13 + (1 : Int))).toNat v15).length) rfl (by rw [List.length_set]) <| ImpX.here <| ARun.ghost <| ImpX.eqs (s := 61) (av' := .sl 8 b_0 0 ((l12.set n13.toNat v14).set (w64 (n13 + (1 : Int))).toNat v15).length) rfl (by rw [List.length_set]) <| ImpX.here <| ARun.ghost <| ImpX.eqs (s := 63) (av' := .sl 8 b_0 0 ((l12.set n13.toNat v14).set (w64 (n13 + (1 : Int))).toNat v15).length) rfl (by rw [List.length_set]) <| ImpX.here <| ARun.ghost <| ImpX.eqs (s := 66) (av' := .sl 8 b_0 0 ((l12.set n13.toNat v14).set (w64 (n13 + (1 : Int))).toNat v15).length) rfl (by rw [List.length_set]) <| ImpX.here <| ARun.ghost <| ImpX.eqs (s := 71) (av' := .sl 8 b_0 0 ((l12.set n13.toNat v14).set (w64 (n13 + (1 : Int))).toNat v15).length) rfl (by rw [List.length_set]) <| ImpX.here <| rN <| ATodo.blk <| tR <| rM rfl rfl <| ARun.qv (q_addw rfl rfl) rfl <| rA rfl rfl <| rN <| ATodo.stop <| ?_
            obtain rfl := Option.some.inj h
            exact hJ2 _ _ rfl <| ImpX.lq [0] rfl rfl rfl
          · refine have h := iteF hc h; ATodo.exit rfl <| have h := outL h hA2; ATodo.ret <| ?_
            obtain rfl := Option.some.inj h
            exact ImpX.here ⟨_, .nil, _, .cons .p0 .nil, ⟨rfl, rfl⟩⟩
  · refine have h := iteF hc h; tK <| tS <| tSR <| rM rfl rfl <| rM rfl rfl <| ARun.qv (q_subw rfl rfl) rfl <| ARun.qv (q_eql rfl rfl) rfl <| rN <| ATodo.cond_d rfl (fun hc => ?_) (fun hc => ?_)
    · refine have h := iteT hc h; tSR <| rM rfl rfl <| rA rfl rfl <| rN <| tSR <| rM rfl rfl <| rA rfl rfl <| rN <| tS <| ATodo.block <| ATodo.loopI (fun x : Int × Int => slices_symMergeCmpFunc_Cell_b3 p0x0 p2x0 fne x.1 x.2) (fun x σ' => σ' = ⟨220, [(0, .sl 8 b_0 0 p0x0.length), (2, I p2x0), (4, .func (.func fne_F) fne_C), (14, I x.1), (15, I x.2)], [(b_0, .arr 8 (p0x0.map Cell.av))]⟩) h ?_ ?_
      · exact ImpX.lq [0] rfl rfl rfl
      · intro x z3 σ' J3 hmk h hJ3 hA3
        obtain ⟨n20, n21⟩ := x
        obtain rfl := hmk
        replace h : slices_symMergeCmpFunc_Cell_b3 p0x0 p2x0 fne n20 n21 = some z3 := h
        unfold slices_symMergeCmpFunc_Cell_b3 at h
        refine tS <| tSR <| rM rfl rfl <| rM rfl rfl <| ARun.qv (q_lss rfl rfl) rfl <| rN <| ATodo.cond_d rfl (fun hc => ?_) (fun hc => ?_)
        · refine have h := iteT hc h; tK <| ATodo.block <| tSR <| rM rfl rfl <| rM rfl rfl <| ARun.qv (q_addw rfl rfl) rfl <| ARun.qv (q_conv_int rfl) rfl <| ARun.qv (t_shr rfl rfl (by decide)) rfl <| ARun.qv (q_conv_int rfl) rfl <| rA rfl rfl <| rN <| tS <| ATodo.regionM (id := 17) (A := [0, 0, 0, 6, 14, 0, 0, 96, 224, 511, 1023, 2047]) 9 mixed rfl (by kernel_rfl) (by kernel_rfl) <| AM.qv (q_move rfl) rfl <| AM.qv (q_move rfl) rfl <| AM.qv (q_move rfl) rfl <| bndE h fun v22 e8 h => AM.qv (t_index_sl rfl rfl rfl e8) rfl <| AM.qv (t_load_aptr_agg (g := Cell.av) rfl rfl (.inl .p0) rfl e8 rfl) rfl <| AM.qv (q_move rfl) rfl <| AM.qv (q_move rfl) rfl <| bndE h fun v23 e9 h => AM.qv (t_index_sl rfl rfl rfl e9) rfl <| AM.qv (t_load_aptr_agg (g := Cell.av) rfl rfl (.inl .p0) rfl e9 rfl) rfl <| AM.nil <| bndE h fun v24 e10 h => r_callvp rfl rfl (fne_h e10) (CoL.refl _) rfl <| ARun.qv (q_lss rfl rfl) rfl <| ARun.qv (q_not_d rfl) rfl <| rN <| ATodo.cut (fun σ' => ∃ (n25 : Int) (n26 : Int), slices_symMergeCmpFunc_Cell_j2 n25 n26 = some z3 ∧ σ' = ⟨220, [(0, .sl 8 b_0 0 p0x0.length), (2, I p2x0), (4, .func (.func fne_F) fne_C), (14, I n25), (15, I n26)], [(b_0, .arr 8 (p0x0.map Cell.av))]⟩) ?_ ?_
          · refine ATodo.cond_d rfl (fun hc => ?_) (fun hc => ?_)
            · exact have h := iteT hc h; tR <| rM rfl rfl <| ARun.qv (q_addw rfl rfl) rfl <| rA rfl rfl <| rN <| ATodo.stop <| ImpX.lq [0] ⟨w64 ((w64 (shrI .u64 (IntKind.u64.wrap (w64 (n20 + n21))) (1 : Int))) + (1 : Int)), n21, h, rfl⟩ rfl rfl
            · exact have h := iteF hc h; tR <| rM rfl rfl <| rA rfl rfl <| rN <| ATodo.stop <| ImpX.lq [0] ⟨n20, w64 (shrI .u64 (IntKind.u64.wrap (w64 (n20 + n21))) (1 : Int)), h, rfl⟩ rfl rfl
          · rintro σ' ⟨n25, n26, h, rfl⟩
            unfold slices_symMergeCmpFunc_Cell_j2 at h
            refine ATodo.blk <| ATodo.stop <| ?_
            obtain rfl := Option.some.inj h
            exact hJ3 _ _ rfl <| ImpX.lq [0] rfl rfl rfl
        · refine have h := iteF hc h; ATodo.exit rfl <| have h := outL h hA3; tS <| tSR <| rM rfl rfl <| rA rfl rfl <| rN <| ATodo.block <| ATodo.loopI (fun x : (List Cell) × Int => slices_symMergeCmpFunc_Cell_b4 n20 x.1 x.2) (fun x σ' => σ' = ⟨220, [(0, .sl 8 b_0 0 x.1.length), (14, I n20), (17, I x.2)], [(b_0, .arr 8 (x.1.map Cell.av))]⟩) h ?_ ?_
          · exact ImpX.lq [0] rfl rfl rfl
          · intro x z4 σ' J4 hmk h hJ4 hA4
            obtain ⟨l29, n30⟩ := x
            obtain rfl := hmk
            replace h : slices_symMergeCmpFunc_Cell_b4 n20 l29 n30 = some z4 := h
            unfold slices_symMergeCmpFunc_Cell_b4 at h
            refine tS <| tSR <| rM rfl rfl <| rM rfl rfl <| ARun.qv (q_gtr rfl rfl) rfl <| rN <| ATodo.cond_d rfl (fun hc => ?_) (fun hc => ?_)
            · refine have h := iteT hc h; tK <| tS <| ATodo.block <| bndE h fun v31 e11 h => bndE h fun v32 e12 h => bndE h fun v33 e13 h => ATodo.regionT (id := 23) (A := [0, 0, 0, 0, 8, 0, 0, 64, 224, 480, 0, 0, 3072, 7168, 16355, 32739, 65535, 131071]) (H0 := [(b_0, .arr 8 (l29.map Cell.av))]) (HH := fun β => [(b_0, .arr 8 ((l29.set n30.toNat v31).map Cell.av))]) 16 mixed rfl (by kernel_rfl) (by kernel_rfl) [⟨none, some 15, [9, 13], fun _ => (b_0, .arr 8 (l29.map Cell.av)), none⟩, ⟨some 15, none, [], fun _ => (b_0, .arr 8 ((l29.set n30.toNat v31).map Cell.av)), none⟩] [] rfl (by kernel_rfl) rfl (.cons .p0 .nil) (fun _ => rfl) <| AT.am 9 rfl rfl <| AM.qv (q_move rfl) rfl <| AM.qv (q_move rfl) rfl <| AM.qv (q_move rfl) rfl <| AM.qv (q_move rfl) rfl <| AM.qv (q_subw rfl rfl) rfl <| AM.qv (q_move rfl) rfl <| AM.qv (q_move rfl) rfl <| AM.qv (q_subw rfl rfl) rfl <| AM.qv (t_index_sl rfl rfl rfl e11) rfl <| AM.nil <| AT.rd (Rs := [(b_0, .arr 8 (l29.map Cell.av))]) (fun _ => rfl) rfl (fun _ => rfl) (fun _ => rfl) (t_load_aptr_agg (g := Cell.av) rfl rfl (.inl .p0) rfl e11 rfl) rfl <| AT.am 3 rfl rfl <| AM.qv (q_move rfl) rfl <| AM.qv (q_move rfl) rfl <| AM.qv (t_index_sl rfl rfl rfl e12) rfl <| AM.nil <| AT.rd (Rs := [(b_0, .arr 8 (l29.map Cell.av))]) (fun _ => rfl) rfl (fun _ => rfl) (fun _ => rfl) (t_load_aptr_agg (g := Cell.av) rfl rfl (.inl .p0) rfl e12 rfl) rfl <| AT.am 1 rfl rfl <| AM.qv (t_index_sl rfl rfl rfl e13) rfl <| AM.nil <| AT.run0 (Ti := [(b_0, .arr 8 (l29.map Cell.av))]) (Pi := [(b_0, .arr 8 ((l29.set n30.toNat v31).map Cell.av))]) (fun _ => rfl) (fun _ => rfl) (fun _ => rfl) rfl rfl ?_ ?_
              · exact t_store_aptr1 (g := Cell.av) (el' := v31) rfl rfl rfl rfl e13 rfl .p0 rfl <| ARun.nil ⟨_, rfl⟩
              refine AT.nilN (fun _ => rfl) fun β => ARun.ghost <| ImpX.eqs (s := 0) (av' := .sl 8 b_0 0 (l29.set n30.toNat v31).length) rfl (by simp) <| ImpX.here <| ARun.ghost <| ImpX.eqs (s := 113) (av' := .sl 8 b_0 0 (l29.set n30.toNat v31).length) rfl (by simp) <| ImpX.here <| ARun.ghost <| ImpX.eqs (s := 115) (av' := .sl 8 b_0 0 (l29.set n30.toNat v31).length) rfl (by simp) <| ImpX.here <| ARun.ghost <| ImpX.eqs (s := 118) (av' := .sl 8 b_0 0 (l29.set n30.toNat v31).length) rfl (by simp) <| ImpX.here <| ARun.ghost <| ImpX.eqs (s := 123) (av' := .sl 8 b_0 0 (l29.set n30.toNat v31).length) rfl (by simp) <| ImpX.here <| bndE h fun v34 e14 h => ARun.qv (t_index_sl rfl rfl rfl e14) rfl <| t_store_aptr1 (g := Cell.av) (el' := v32) rfl rfl rfl rfl e14 rfl .p0 rfl <| ARun.ghost <| ImpX.eqs (s := 0) (av' := .sl 8 b_0 0 ((l29.set n30.toNat v31).set (w64 (n30 - (1 : Int))).toNat v32).length) rfl (by rw [List.length_set]) <| ImpX.here <| ARun.ghost <| ImpX.eqs (s := 113) (av' := .sl 8 b_0 0 ((l29.set n30.toNat v31).set (w64 (n30 - (1 : Int))).toNat v32).length) rfl (by rw [List.length_set]) <| ImpX.here <| ARun.ghost <| ImpX.eqs (s := 115) (av' := .sl 8 b_0 0 ((l29.set n30.toNat v31).set (w64 (n30 - (1 : Int))).toNat v32).length) rfl (by rw [List.length_set]) <| ImpX.here <| ARun.ghost <| ImpX.eqs (s := 118) (av' := .sl 8 b_0 0 ((l29.set n30.toNat v31).set (w64 (n30 - (1 : Int))).toNat v32).length) rfl (by rw [List.length_set]) <| ImpX.here <| ARun.ghost <| ImpX.eqs (s := 123) (av' := .sl 8 b_0 0 ((l29.set n30.toNat v31).set (w64 (n30 - (1 : Int))).toNat v32).length) rfl (by rw [List.length_set]) <| ImpX.here <| rN <| ATodo.blk <| tR <| rM rfl rfl <| ARun.qv (q_subw rfl rfl) rfl <| rA rfl rfl <| rN <| ATodo.stop <| ?_
              obtain rfl := Option.some.inj h
              exact hJ4 _ _ rfl <| ImpX.lq [0] rfl rfl rfl
            · refine have h := iteF hc h; ATodo.exit rfl <| have h := outL h hA4; ATodo.ret <| ?_
              obtain rfl := Option.some.inj h
              exact ImpX.here ⟨_, .nil, _, .cons .p0 .nil, ⟨rfl, rfl⟩⟩
    · refine have h := iteF hc h; tK <| tSR <| rM rfl rfl <| rM rfl rfl <| ARun.qv (q_addw rfl rfl) rfl <| ARun.qv (q_conv_int rfl) rfl <| ARun.qv (t_shr rfl rfl (by decide)) rfl <| ARun.qv (q_conv_int rfl) rfl <| rA rfl rfl <| rN <| tSR <| rM rfl rfl <| rM rfl rfl <| ARun.qv (q_addw rfl rfl) rfl <| rA rfl rfl <| rN <| tSR <| rA rfl rfl <| rA rfl rfl <| rN <| tS <| tSR <| rM rfl rfl <| rM rfl rfl <| ARun.qv (q_gtr rfl rfl) rfl <| rN <| ATodo.cut (fun σ' => ∃ (n35 : Int) (n36 : Int), slices_symMergeCmpFunc_Cell_j3 self p0x0 p1x0 p2x0 p3x0 fne n35 n36 = some r ∧ σ' = ⟨220, [(0, .sl 8 b_0 0 p0x0.length), (1, I p1x0), (2, I p2x0), (3, I p3x0), (4, .func (.func fne_F) fne_C), (18, I (w64 (shrI .u64 (IntKind.u64.wrap (w64 (p1x0 + p3x0))) (1 : Int)))), (19, I (w64 ((w64 (shrI .u64 (IntKind.u64.wrap (w64 (p1x0 + p3x0))) (1 : Int))) + p2x0))), (20, I n35), (21, I n36)], [(b_0, .arr 8 (p0x0.map Cell.av))]⟩) ?_ ?_
      · refine ATodo.cond_d rfl (fun hc => ?_) (fun hc => ?_)
        · exact have h := iteT hc h; tSR <| rM rfl rfl <| rM rfl rfl <| ARun.qv (q_subw rfl rfl) rfl <| rA rfl rfl <| rN <| tR <| rM rfl rfl <| rA rfl rfl <| rN <| ATodo.stop <| ImpX.lq [0] ⟨w64 ((w64 ((w64 (shrI .u64 (IntKind.u64.wrap (w64 (p1x0 + p3x0))) (1 : Int))) + p2x0)) - p3x0), w64 (shrI .u64 (IntKind.u64.wrap (w64 (p1x0 + p3x0))) (1 : Int)), h, rfl⟩ rfl rfl
        · exact have h := iteF hc h; tSR <| rM rfl rfl <| rA rfl rfl <| rN <| tR <| rM rfl rfl <| rA rfl rfl <| rN <| ATodo.stop <| ImpX.lq [0] ⟨p1x0, p2x0, h, rfl⟩ rfl rfl
      · rintro σ' ⟨n35, n36, h, rfl⟩
        unfold slices_symMergeCmpFunc_Cell_j3 at h
        refine tSR <| rM rfl rfl <| ARun.qv (q_subw rfl rfl) rfl <| rA rfl rfl <| rN <| tS <| ATodo.block <| ATodo.loopI (fun x : Int × Int => slices_symMergeCmpFunc_Cell_b5 self p0x0 p1x0 p2x0 p3x0 fne x.1 x.2) (fun x σ' => σ' = ⟨220, [(0, .sl 8 b_0 0 p0x0.length), (1, I p1x0), (2, I p2x0), (3, I p3x0), (4, .func (.func fne_F) fne_C), (18, I (w64 (shrI .u64 (IntKind.u64.wrap (w64 (p1x0 + p3x0))) (1 : Int)))), (19, I (w64 ((w64 (shrI .u64 (IntKind.u64.wrap (w64 (p1x0 + p3x0))) (1 : Int))) + p2x0))), (20, I x.1), (21, I x.2), (22, I (w64 ((w64 ((w64 (shrI .u64 (IntKind.u64.wrap (w64 (p1x0 + p3x0))) (1 : Int))) + p2x0)) - (1 : Int))))], [(b_0, .arr 8 (p0x0.map Cell.av))]⟩) h ?_ ?_
        · exact ImpX.lq [0] rfl rfl rfl
        · intro x z5 σ' J5 hmk h hJ5 hA5
          obtain ⟨n39, n40⟩ := x
          obtain rfl := hmk
          replace h : slices_symMergeCmpFunc_Cell_b5 self p0x0 p1x0 p2x0 p3x0 fne n39 n40 = some z5 := h
          unfold slices_symMergeCmpFunc_Cell_b5 at h
          refine tS <| tSR <| rM rfl rfl <| rM rfl rfl <| ARun.qv (q_lss rfl rfl) rfl <| rN <| ATodo.cond_d rfl (fun hc => ?_) (fun hc => ?_)
          · refine have h := iteT hc h; tK <| ATodo.block <| tSR <| rM rfl rfl <| rM rfl rfl <| ARun.qv (q_addw rfl rfl) rfl <| ARun.qv (q_conv_int rfl) rfl <| ARun.qv (t_shr rfl rfl (by decide)) rfl <| ARun.qv (q_conv_int rfl) rfl <| rA rfl rfl <| rN <| tS <| ATodo.regionM (id := 35) (A := [0, 0, 0, 0, 12, 30, 62, 0, 0, 384, 896, 2047, 4095, 8191]) 11 mixed rfl (by kernel_rfl) (by kernel_rfl) <| AM.qv (q_move rfl) rfl <| AM.qv (q_move rfl) rfl <| AM.qv (q_move rfl) rfl <| AM.qv (q_move rfl) rfl <| AM.qv (q_subw rfl rfl) rfl <| bndE h fun v41 e15 h => AM.qv (t_index_sl rfl rfl rfl e15) rfl <| AM.qv (t_load_aptr_agg (g := Cell.av) rfl rfl (.inl .p0) rfl e15 rfl) rfl <| AM.qv (q_move rfl) rfl <| AM.qv (q_move rfl) rfl <| bndE h fun v42 e16 h => AM.qv (t_index_sl rfl rfl rfl e16) rfl <| AM.qv (t_load_aptr_agg (g := Cell.av) rfl rfl (.inl .p0) rfl e16 rfl) rfl <| AM.nil <| bndE h fun v43 e17 h => r_callvp rfl rfl (fne_h e17) (CoL.refl _) rfl <| ARun.qv (q_lss rfl rfl) rfl <| ARun.qv (q_not_d rfl) rfl <| rN <| ATodo.cut (fun σ' => ∃ (n44 : Int) (n45 : Int), slices_symMergeCmpFunc_Cell_j4 n44 n45 = some z5 ∧ σ' = ⟨220, [(0, .sl 8 b_0 0 p0x0.length), (1, I p1x0), (2, I p2x0), (3, I p3x0), (4, .func (.func fne_F) fne_C), (18, I (w64 (shrI .u64 (IntKind.u64.wrap (w64 (p1x0 + p3x0))) (1 : Int)))), (19, I (w64 ((w64 (shrI .u64 (IntKind.u64.wrap (w64 (p1x0 + p3x0))) (1 : Int))) + p2x0))), (20, I n44), (21, I n45), (22, I (w64 ((w64 ((w64 (shrI .u64 (IntKind.u64.wrap (w64 (p1x0 + p3x0))) (1 : Int))) + p2x0)) - (1 : Int))))], [(b_0, .arr 8 (p0x0.map Cell.av))]⟩) ?_ ?_
            · refine ATodo.cond_d rfl (fun hc => ?_) (fun hc => ?_)
              · exact have h := iteT hc h; tR <| rM rfl rfl <| ARun.qv (q_addw rfl rfl) rfl <| rA rfl rfl <| rN <| ATodo.stop <| ImpX.lq [0] ⟨w64 ((w64 (shrI .u64 (IntKind.u64.wrap (w64 (n39 + n40))) (1 : Int))) + (1 : Int)), n40, h, rfl⟩ rfl rfl
              · exact have h := iteF hc h; tR <| rM rfl rfl <| rA rfl rfl <| rN <| ATodo.stop <| ImpX.lq [0] ⟨n39, w64 (shrI .u64 (IntKind.u64.wrap (w64 (n39 + n40))) (1 : Int)), h, rfl⟩ rfl rfl
            · rintro σ' ⟨n44, n45, h, rfl⟩
              unfold slices_symMergeCmpFunc_Cell_j4 at h
              refine ATodo.blk <| ATodo.stop <| ?_
              obtain rfl := Option.some.inj h
              exact hJ5 _ _ rfl <| ImpX.lq [0] rfl rfl rfl
          · refine have h := iteF hc h; ATodo.exit rfl <| have h := outL h hA5; tSR <| rM rfl rfl <| rM rfl rfl <| ARun.qv (q_subw rfl rfl) rfl <| rA rfl rfl <| rN <| tS <| tS <| ATodo.cut (fun σ' => ∃ (c46 : Bool), slices_symMergeCmpFunc_Cell_j5 self p0x0 p1x0 p2x0 p3x0 fne n39 c46 = some r ∧ σ' = ⟨220, [(0, .sl 8 b_0 0 p0x0.length), (1, I p1x0), (2, I p2x0), (3, I p3x0), (4, .func (.func fne_F) fne_C), (18, I (w64 (shrI .u64 (IntKind.u64.wrap (w64 (p1x0 + p3x0))) (1 : Int)))), (20, I n39), (24, I (w64 ((w64 ((w64 (shrI .u64 (IntKind.u64.wrap (w64 (p1x0 + p3x0))) (1 : Int))) + p2x0)) - n39))), (185, .bool c46)], [(b_0, .arr 8 (p0x0.map Cell.av))]⟩) ?_ ?_
            · refine tR <| rM rfl rfl <| rM rfl rfl <| ARun.qv (q_lss rfl rfl) rfl <| rM rfl rfl <| ARun.guard_dt rfl rfl rfl (fun hc => ?_) (fun hc => ?_)
              · rw [andTd hc] at h
                exact rM rfl rfl <| rY rfl rfl rfl <| rM rfl rfl <| rY rfl rfl rfl <| ARun.qv (q_lss rfl rfl) rfl <| rT rfl rfl rfl <| rN <| ATodo.stop <| ImpX.lq [0] ⟨decide (p2x0 < (w64 ((w64 ((w64 (shrI .u64 (IntKind.u64.wrap (w64 (p1x0 + p3x0))) (1 : Int))) + p2x0)) - n39))), h, rfl⟩ rfl rfl
              · rw [andFd hc] at h
                exact rG rfl rfl rfl rfl <| rG rfl rfl rfl rfl <| rE rfl rfl rfl <| rN <| ATodo.stop <| ImpX.lq [0] ⟨false, h, rfl⟩ rfl rfl
            · rintro σ' ⟨c46, h, rfl⟩
              unfold slices_symMergeCmpFunc_Cell_j5 at h
              refine ATodo.cut (fun σ' => ∃ (l47 : List Cell), slices_symMergeCmpFunc_Cell_j6 self p1x0 p2x0 p3x0 fne n39 l47 = some r ∧ σ' = ⟨220, [(0, .sl 8 b_0 0 l47.length), (1, I p1x0), (3, I p3x0), (4, .func (.func fne_F) fne_C), (18, I (w64 (shrI .u64 (IntKind.u64.wrap (w64 (p1x0 + p3x0))) (1 : Int)))), (20, I n39), (24, I (w64 ((w64 ((w64 (shrI .u64 (IntKind.u64.wrap (w64 (p1x0 + p3x0))) (1 : Int))) + p2x0)) - n39)))], [(b_0, .arr 8 (l47.map Cell.av))]⟩) ?_ ?_
              · refine ATodo.cond rfl (fun hc => ?_) (fun hc => ?_)
                · exact have h := iteT hc h; tR <| rM rfl rfl <| rM rfl rfl <| rM rfl rfl <| rM rfl rfl <| rM rfl rfl <| bndE h fun v48 e18 h => t_call0 rfl (slices_rotateCmpFunc_Cell_c fne_h (lenOk_f e18)) (CoL.refl _) (.cons .p0 .nil) rfl rfl <| ARun.ghost <| ImpX.eqs (s := 0) (av' := .sl 8 b_0 0 v48.length) rfl (congrArg (AV.sl 8 b_0 0) (lenOk_l e18)) <| ImpX.here <| ARun.ghost <| ImpX.eqs (s := 186) (av' := .sl 8 b_0 0 v48.length) rfl (congrArg (AV.sl 8 b_0 0) (lenOk_l e18)) <| ImpX.here <| rN <| ATodo.stop <| ImpX.lq [0] ⟨v48, h, rfl⟩ rfl rfl
                · exact have h := iteFb hc h; tK <| ATodo.stop <| ImpX.lq [0] ⟨p0x0, h, rfl⟩ rfl rfl
              · rintro σ' ⟨l47, h, rfl⟩
                unfold slices_symMergeCmpFunc_Cell_j6 at h
                refine tS <| tS <| ATodo.cut (fun σ' => ∃ (c49 : Bool), slices_symMergeCmpFunc_Cell_j7 self p1x0 p2x0 p3x0 fne n39 l47 c49 = some r ∧ σ' = ⟨220, [(0, .sl 8 b_0 0 l47.length), (1, I p1x0), (3, I p3x0), (4, .func (.func fne_F) fne_C), (18, I (w64 (shrI .u64 (IntKind.u64.wrap (w64 (p1x0 + p3x0))) (1 : Int)))), (20, I n39), (24, I (w64 ((w64 ((w64 (shrI .u64 (IntKind.u64.wrap (w64 (p1x0 + p3x0))) (1 : Int))) + p2x0)) - n39))), (199, .bool c49)], [(b_0, .arr 8 (l47.map Cell.av))]⟩) ?_ ?_
                · refine tR <| rM rfl rfl <| rM rfl rfl <| ARun.qv (q_lss rfl rfl) rfl <| rM rfl rfl <| ARun.guard_dt rfl rfl rfl (fun hc => ?_) (fun hc => ?_)
                  · rw [andTd hc] at h
                    exact rM rfl rfl <| rY rfl rfl rfl <| rM rfl rfl <| rY rfl rfl rfl <| ARun.qv (q_lss rfl rfl) rfl <| rT rfl rfl rfl <| rN <| ATodo.stop <| ImpX.lq [0] ⟨decide (n39 < (w64 (shrI .u64 (IntKind.u64.wrap (w64 (p1x0 + p3x0))) (1 : Int)))), h, rfl⟩ rfl rfl
                  · rw [andFd hc] at h
                    exact rG rfl rfl rfl rfl <| rG rfl rfl rfl rfl <| rE rfl rfl rfl <| rN <| ATodo.stop <| ImpX.lq [0] ⟨false, h, rfl⟩ rfl rfl
                · rintro σ' ⟨c49, h, rfl⟩
                  unfold slices_symMergeCmpFunc_Cell_j7 at h
                  refine ATodo.cut (fun σ' => ∃ (l50 : List Cell), slices_symMergeCmpFunc_Cell_j8 self p1x0 p2x0 p3x0 fne n39 l50 = some r ∧ σ' = ⟨220, [(0, .sl 8 b_0 0 l50.length), (3, I p3x0), (4, .func (.func fne_F) fne_C), (18, I (w64 (shrI .u64 (IntKind.u64.wrap (w64 (p1x0 + p3x0))) (1 : Int)))), (24, I (w64 ((w64 ((w64 (shrI .u64 (IntKind.u64.wrap (w64 (p1x0 + p3x0))) (1 : Int))) + p2x0)) - n39)))], [(b_0, .arr 8 (l50.map Cell.av))]⟩) ?_ ?_
                  · refine ATodo.cond rfl (fun hc => ?_) (fun hc => ?_)
                    · exact have h := iteT hc h; tR <| rM rfl rfl <| rM rfl rfl <| rM rfl rfl <| rM rfl rfl <| rM rfl rfl <| bndE h fun v51 e19 h => t_call0 rfl (self_h fne_h (lenOk_f e19)) (CoL.refl _) (.cons .p0 .nil) rfl rfl <| ARun.ghost <| ImpX.eqs (s := 0) (av' := .sl 8 b_0 0 v51.length) rfl (congrArg (AV.sl 8 b_0 0) (lenOk_l e19)) <| ImpX.here <| ARun.ghost <| ImpX.eqs (s := 200) (av' := .sl 8 b_0 0 v51.length) rfl (congrArg (AV.sl 8 b_0 0) (lenOk_l e19)) <| ImpX.here <| rN <| ATodo.stop <| ImpX.lq [0] ⟨v51, h, rfl⟩ rfl rfl
                    · exact have h := iteFb hc h; tK <| ATodo.stop <| ImpX.lq [0] ⟨l47, h, rfl⟩ rfl rfl
                  · rintro σ' ⟨l50, h, rfl⟩
                    unfold slices_symMergeCmpFunc_Cell_j8 at h
                    refine tS <| ATodo.cut (fun σ' => ∃ (c52 : Bool), slices_symMergeCmpFunc_Cell_j9 self p1x0 p2x0 p3x0 fne n39 l50 c52 = some r ∧ σ' = ⟨220, [(0, .sl 8 b_0 0 l50.length), (3, I p3x0), (4, .func (.func fne_F) fne_C), (18, I (w64 (shrI .u64 (IntKind.u64.wrap (w64 (p1x0 + p3x0))) (1 : Int)))), (24, I (w64 ((w64 ((w64 (shrI .u64 (IntKind.u64.wrap (w64 (p1x0 + p3x0))) (1 : Int))) + p2x0)) - n39))), (213, .bool c52)], [(b_0, .arr 8 (l50.map Cell.av))]⟩) ?_ ?_
                    · refine tR <| rM rfl rfl <| rM rfl rfl <| ARun.qv (q_lss rfl rfl) rfl <| rM rfl rfl <| ARun.guard_dt rfl rfl rfl (fun hc => ?_) (fun hc => ?_)
                      · rw [andTd hc] at h
                        exact rM rfl rfl <| rY rfl rfl rfl <| rM rfl rfl <| rY rfl rfl rfl <| ARun.qv (q_lss rfl rfl) rfl <| rT rfl rfl rfl <| rN <| ATodo.stop <| ImpX.lq [0] ⟨decide ((w64 ((w64 ((w64 (shrI .u64 (IntKind.u64.wrap (w64 (p1x0 + p3x0))) (1 : Int))) + p2x0)) - n39)) < p3x0), h, rfl⟩ rfl rfl
                      · rw [andFd hc] at h
                        exact rG rfl rfl rfl rfl <| rG rfl rfl rfl rfl <| rE rfl rfl rfl <| rN <| ATodo.stop <| ImpX.lq [0] ⟨false, h, rfl⟩ rfl rfl
                    · rintro σ' ⟨c52, h, rfl⟩
                      unfold slices_symMergeCmpFunc_Cell_j9 at h
                      refine ATodo.cut (fun σ' => ∃ (l53 : List Cell), slices_symMergeCmpFunc_Cell_j10 l53 = some r ∧ σ' = ⟨220, [], [(b_0, .arr 8 (l53.map Cell.av))]⟩) ?_ ?_
                      · refine ATodo.cond rfl (fun hc => ?_) (fun hc => ?_)
                        · exact have h := iteT hc h; tR <| rM rfl rfl <| rM rfl rfl <| rM rfl rfl <| rM rfl rfl <| rM rfl rfl <| bndE h fun v54 e20 h => t_call0 rfl (self_h fne_h (lenOk_f e20)) (CoL.refl _) (.cons .p0 .nil) rfl rfl <| ARun.ghost <| ImpX.eqs (s := 0) (av' := .sl 8 b_0 0 v54.length) rfl (congrArg (AV.sl 8 b_0 0) (lenOk_l e20)) <| ImpX.here <| ARun.ghost <| ImpX.eqs (s := 214) (av' := .sl 8 b_0 0 v54.length) rfl (congrArg (AV.sl 8 b_0 0) (lenOk_l e20)) <| ImpX.here <| rN <| ATodo.stop <| ImpX.lq [0] ⟨v54, h, rfl⟩ rfl rfl
                        · exact have h := iteFb hc h; tK <| ATodo.stop <| ImpX.lq [0] ⟨l50, h, rfl⟩ rfl rfl
                      · rintro σ' ⟨l53, h, rfl⟩
                        unfold slices_symMergeCmpFunc_Cell_j10 at h
                        refine ATodo.nil <| ?_
                        obtain rfl := Option.some.inj h
                        exact ImpX.here ⟨_, .nil, _, .cons .p0 .nil, ⟨rfl, rfl⟩⟩
theorem slices_symMergeCmpFunc_Cell_r_c [GI : GTab] : ∀ (k : Nat) {b_0 : Bk} {p0x0 : List Cell} {p1x0 : Int} {p2x0 : Int} {p3x0 : Int} {fne : Cell → Cell → Option Int} {fne_F : FuncId} [IsFn Tryz.prog fne_F] {fne_C : List AV} (fne_h : ∀ {y0 y1 : _} {u : Int}, fne y0 y1 = some u → Pu Tryz.prog fne_F (.agg [.str y0.Prop_.Name, I y0.Prop_.Value.Kind, .bool y0.Prop_.Value.Flag, I y0.Prop_.Value.Number, .str y0.Prop_.Value.Words, I y0.Stamp.At, .str y0.Stamp.By, I y0.Stamp.No] :: .agg [.str y1.Prop_.Name, I y1.Prop_.Value.Kind, .bool y1.Prop_.Value.Flag, I y1.Prop_.Value.Number, .str y1.Prop_.Value.Words, I y1.Stamp.At, .str y1.Stamp.By, I y1.Stamp.No] ::  fne_C) (I u)) {r : (List Cell)}, slices_symMergeCmpFunc_Cell_r k p0x0 p1x0 p2x0 p3x0 fne = some r → ACall Tryz.prog 137 [.sl 8 b_0 0 p0x0.length, I p1x0, I p2x0, I p3x0, .func (.func fne_F) fne_C] [(b_0, .arr 8 (p0x0.map Cell.av))] (T0 ([(b_0, .arr 8 (r.map Cell.av))]) (.tup [])) := by
  intro k
  induction k with
  | zero => intro b_0 p0x0 p1x0 p2x0 p3x0 fne fne_F _ fne_C fne_h r h; cases h
  | succ k ih => intro b_0 p0x0 p1x0 p2x0 p3x0 fne fne_F _ fne_C fne_h r h; exact slices_symMergeCmpFunc_Cell_bd_c ih fne_h h
theorem slices_symMergeCmpFunc_Cell_c [GI : GTab] {b_0 : Bk} {p0x0 : List Cell} {p1x0 : Int} {p2x0 : Int} {p3x0 : Int} {fne : Cell → Cell → Option Int} {fne_F : FuncId} [IsFn Tryz.prog fne_F] {fne_C : List AV} (fne_h : ∀ {y0 y1 : _} {u : Int}, fne y0 y1 = some u → Pu Tryz.prog fne_F (.agg [.str y0.Prop_.Name, I y0.Prop_.Value.Kind, .bool y0.Prop_.Value.Flag, I y0.Prop_.Value.Number, .str y0.Prop_.Value.Words, I y0.Stamp.At, .str y0.Stamp.By, I y0.Stamp.No] :: .agg [.str y1.Prop_.Name, I y1.Prop_.Value.Kind, .bool y1.Prop_.Value.Flag, I y1.Prop_.Value.Number, .str y1.Prop_.Value.Words, I y1.Stamp.At, .str y1.Stamp.By, I y1.Stamp.No] ::  fne_C) (I u)) {r : (List Cell)} (h : slices_symMergeCmpFunc_Cell p0x0 p1x0 p2x0 p3x0 fne = some r) : ACall Tryz.prog 137 [.sl 8 b_0 0 p0x0.length, I p1x0, I p2x0, I p3x0, .func (.func fne_F) fne_C] [(b_0, .arr 8 (p0x0.map Cell.av))] (T0 ([(b_0, .arr 8 (r.map Cell.av))]) (.tup [])) := slices_symMergeCmpFunc_Cell_r_c depth fne_h h

set_option maxHeartbeats 4000000 in
theorem slices_stableCmpFunc_Cell_c [GI : GTab] {b_0 : Bk} {p0x0 : List Cell} {p1x0 : Int} {fnc : Cell → Cell → Option Int} {fnc_F : FuncId} [IsFn Tryz.prog fnc_F] {fnc_C : List AV} (fnc_h : ∀ {y0 y1 : _} {u : Int}, fnc y0 y1 = some u → Pu Tryz.prog fnc_F (.agg [.str y0.Prop_.Name, I y0.Prop_.Value.Kind, .bool y0.Prop_.Value.Flag, I y0.Prop_.Value.Number, .str y0.Prop_.Value.Words, I y0.Stamp.At, .str y0.Stamp.By, I y0.Stamp.No] :: .agg [.str y1.Prop_.Name, I y1.Prop_.Value.Kind, .bool y1.Prop_.Value.Flag, I y1.Prop_.Value.Number, .str y1.Prop_.Value.Words, I y1.Stamp.At, .str y1.Stamp.By, I y1.Stamp.No] ::  fnc_C) (I u)) {r : (List Cell)} (h : slices_stableCmpFunc_Cell p0x0 p1x0 fnc = some r) : ACall Tryz.prog 97 [.sl 8 b_0 0 p0x0.length, I p1x0, .func (.func fnc_F) fnc_C] [(b_0, .arr 8 (p0x0.map Cell.av))] (T0 ([(b_0, .arr 8 (r.map Cell.av))]) (.tup [])) := by
  unfold slices_stableCmpFunc_Cell at h
  refine ACall.lessH ?_
  refine ACall.bodyN Tryz.func97 rfl Tryz.ntmps97 Tryz.results97 rfl rfl ?_
  refine tSR <| rA rfl rfl <| rN <| tSR <| rM rfl rfl <| rA rfl rfl <| rA rfl rfl <| rN <| tS <| ATodo.block <| ATodo.loopI (fun x : (List Cell) × Int × Int => slices_stableCmpFunc_Cell_b1 p1x0 fnc x.1 x.2.1 x.2.2) (fun x σ' => σ' = ⟨63, [(0, .sl 8 b_0 0 x.1.length), (1, I p1x0), (2, .func (.func fnc_F) fnc_C), (6, I (20 : Int)), (7, I x.2.1), (8, I x.2.2)], [(b_0, .arr 8 (x.1.map Cell.av))]⟩) h ?_ ?_
  · exact ImpX.lq [0] rfl rfl rfl
  · intro x z1 σ' J1 hmk h hJ1 hA1
    obtain ⟨l4, n5, n6⟩ := x
    obtain rfl := hmk
    replace h : slices_stableCmpFunc_Cell_b1 p1x0 fnc l4 n5 n6 = some z1 := h
    unfold slices_stableCmpFunc_Cell_b1 at h
    refine tS <| tSR <| rM rfl rfl <| rM rfl rfl <| ARun.qv (q_leq rfl rfl) rfl <| rN <| ATodo.cond_d rfl (fun hc => ?_) (fun hc => ?_)
    · refine have h := iteT hc h; tK <| ATodo.block <| tSR <| rM rfl rfl <| rM rfl rfl <| rM rfl rfl <| rM rfl rfl <| bndE h fun v7 e1 h => t_call0 rfl (slices_insertionSortCmpFunc_Cell_c fnc_h (lenOk_f e1)) (CoL.refl _) (.cons .p0 .nil) rfl rfl <| ARun.ghost <| ImpX.eqs (s := 0) (av' := .sl 8 b_0 0 v7.length) rfl (congrArg (AV.sl 8 b_0 0) (lenOk_l e1)) <| ImpX.here <| ARun.ghost <| ImpX.eqs (s := 14) (av' := .sl 8 b_0 0 v7.length) rfl (congrArg (AV.sl 8 b_0 0) (lenOk_l e1)) <| ImpX.here <| rN <| tSR <| rM rfl rfl <| rA rfl rfl <| rN <| tR <| rM rfl rfl <| rM rfl rfl <| ARun.qv (q_addw rfl rfl) rfl <| rA rfl rfl <| rN <| ATodo.blk <| ATodo.stop <| ?_
      obtain rfl := Option.some.inj h
      exact hJ1 _ _ rfl <| ImpX.lq [0] rfl rfl rfl
    · refine have h := iteF hc h; ATodo.exit rfl <| have h := outL h hA1; ?_
      unfold slices_stableCmpFunc_Cell_k3 at h
      refine tSR <| rM rfl rfl <| rM rfl rfl <| rM rfl rfl <| rM rfl rfl <| bndE h fun v8 e2 h => t_call0 rfl (slices_insertionSortCmpFunc_Cell_c fnc_h (lenOk_f e2)) (CoL.refl _) (.cons .p0 .nil) rfl rfl <| ARun.ghost <| ImpX.eqs (s := 0) (av' := .sl 8 b_0 0 v8.length) rfl (congrArg (AV.sl 8 b_0 0) (lenOk_l e2)) <| ImpX.here <| ARun.ghost <| ImpX.eqs (s := 23) (av' := .sl 8 b_0 0 v8.length) rfl (congrArg (AV.sl 8 b_0 0) (lenOk_l e2)) <| ImpX.here <| rN <| ATodo.block <| ATodo.loopI (fun x : (List Cell) × Int => slices_stableCmpFunc_Cell_b2 p1x0 fnc x.1 x.2) (fun x σ' => σ' = ⟨63, [(0, .sl 8 b_0 0 x.1.length), (1, I p1x0), (2, .func (.func fnc_F) fnc_C), (6, I x.2)], [(b_0, .arr 8 (x.1.map Cell.av))]⟩) h ?_ ?_
      · exact ImpX.lq [0] rfl rfl rfl
      · intro x z2 σ' J2 hmk h hJ2 hA2
        obtain ⟨l11, n12⟩ := x
        obtain rfl := hmk
        replace h : slices_stableCmpFunc_Cell_b2 p1x0 fnc l11 n12 = some z2 := h
        unfold slices_stableCmpFunc_Cell_b2 at h
        refine tS <| tSR <| rM rfl rfl <| rM rfl rfl <| ARun.qv (q_lss rfl rfl) rfl <| rN <| ATodo.cond_d rfl (fun hc => ?_) (fun hc => ?_)
        · refine have h := iteT hc h; tK <| ATodo.block <| tSR <| rM rfl rfl <| ARun.qv (q_mulw rfl rfl) rfl <| rA rfl rfl <| rA rfl rfl <| rN <| tS <| ATodo.block <| ATodo.loopI (fun x : (List Cell) × Int × Int => slices_stableCmpFunc_Cell_b3 p1x0 fnc n12 x.1 x.2.1 x.2.2) (fun x σ' => σ' = ⟨63, [(0, .sl 8 b_0 0 x.1.length), (1, I p1x0), (2, .func (.func fnc_F) fnc_C), (6, I n12), (7, I x.2.1), (8, I x.2.2)], [(b_0, .arr 8 (x.1.map Cell.av))]⟩) h ?_ ?_
          · exact ImpX.lq [0] rfl rfl rfl
          · intro x z3 σ' J3 hmk h hJ3 hA3
            obtain ⟨l16, n17, n18⟩ := x
            obtain rfl := hmk
            replace h : slices_stableCmpFunc_Cell_b3 p1x0 fnc n12 l16 n17 n18 = some z3 := h
            unfold slices_stableCmpFunc_Cell_b3 at h
            refine tS <| tSR <| rM rfl rfl <| rM rfl rfl <| ARun.qv (q_leq rfl rfl) rfl <| rN <| ATodo.cond_d rfl (fun hc => ?_) (fun hc => ?_)
            · refine have h := iteT hc h; tK <| ATodo.block <| tSR <| rM rfl rfl <| rM rfl rfl <| rM rfl rfl <| rM rfl rfl <| ARun.qv (q_addw rfl rfl) rfl <| rM rfl rfl <| rM rfl rfl <| bndE h fun v19 e3 h => t_call0 rfl (slices_symMergeCmpFunc_Cell_c fnc_h (lenOk_f e3)) (CoL.refl _) (.cons .p0 .nil) rfl rfl <| ARun.ghost <| ImpX.eqs (s := 0) (av' := .sl 8 b_0 0 v19.length) rfl (congrArg (AV.sl 8 b_0 0) (lenOk_l e3)) <| ImpX.here <| ARun.ghost <| ImpX.eqs (s := 36) (av' := .sl 8 b_0 0 v19.length) rfl (congrArg (AV.sl 8 b_0 0) (lenOk_l e3)) <| ImpX.here <| rN <| tSR <| rM rfl rfl <| rA rfl rfl <| rN <| tR <| rM rfl rfl <| rM rfl rfl <| ARun.qv (q_mulw rfl rfl) rfl <| ARun.qv (q_addw rfl rfl) rfl <| rA rfl rfl <| rN <| ATodo.blk <| ATodo.stop <| ?_
              obtain rfl := Option.some.inj h
              exact hJ3 _ _ rfl <| ImpX.lq [0] rfl rfl rfl
            · refine have h := iteF hc h; ATodo.exit rfl <| have h := outL h hA3; ?_
              unfold slices_stableCmpFunc_Cell_k2 at h
              refine tS <| tSR <| rM rfl rfl <| rM rfl rfl <| ARun.qv (q_addw rfl rfl) rfl <| rA rfl rfl <| rN <| tSR <| rM rfl rfl <| rM rfl rfl <| ARun.qv (q_lss rfl rfl) rfl <| rN <| ATodo.cut (fun σ' => ∃ (l20 : List Cell), slices_stableCmpFunc_Cell_j1 n12 l20 = some z2 ∧ σ' = ⟨63, [(0, .sl 8 b_0 0 l20.length), (1, I p1x0), (2, .func (.func fnc_F) fnc_C), (6, I n12)], [(b_0, .arr 8 (l20.map Cell.av))]⟩) ?_ ?_
              · refine ATodo.cond_d rfl (fun hc => ?_) (fun hc => ?_)
                · exact have h := iteT hc h; tR <| rM rfl rfl <| rM rfl rfl <| rM rfl rfl <| rM rfl rfl <| rM rfl rfl <| bndE h fun v21 e4 h => t_call0 rfl (slices_symMergeCmpFunc_Cell_c fnc_h (lenOk_f e4)) (CoL.refl _) (.cons .p0 .nil) rfl rfl <| ARun.ghost <| ImpX.eqs (s := 0) (av' := .sl 8 b_0 0 v21.length) rfl (congrArg (AV.sl 8 b_0 0) (lenOk_l e4)) <| ImpX.here <| ARun.ghost <| ImpX.eqs (s := 55) (av' := .sl 8 b_0 0 v21.length) rfl (congrArg (AV.sl 8 b_0 0) (lenOk_l e4)) <| ImpX.here <| rN <| ATodo.stop <| ImpX.lq [0] ⟨v21, h, rfl⟩ rfl rfl
                · exact have h := iteF hc h; tK <| ATodo.stop <| ImpX.lq [0] ⟨l16, h, rfl⟩ rfl rfl
              · rintro σ' ⟨l20, h, rfl⟩
                unfold slices_stableCmpFunc_Cell_j1 at h
                refine tR <| rM rfl rfl <| ARun.qv (q_mulw rfl rfl) rfl <| rA rfl rfl <| rN <| ATodo.blk <| ATodo.stop <| ?_
                obtain rfl := Option.some.inj h
                exact hJ2 _ _ rfl <| ImpX.lq [0] rfl rfl rfl
        · refine have h := iteF hc h; ATodo.exit rfl <| have h := outL h hA2; ATodo.nil <| ?_
          obtain rfl := Option.some.inj h
          exact ImpX.here ⟨_, .nil, _, .cons .p0 .nil, ⟨rfl, rfl⟩⟩

set_option maxHeartbeats 4000000 in
theorem slices_SortStableFunc_Cell_Cell_c [GI : GTab] {b_0 : Bk} {p0x0 : List Cell} {fnb : Cell → Cell → Option Int} {fnb_F : FuncId} [IsFn Tryz.prog fnb_F] {fnb_C : List AV} (fnb_h : ∀ {y0 y1 : _} {u : Int}, fnb y0 y1 = some u → Pu Tryz.prog fnb_F (.agg [.str y0.Prop_.Name, I y0.Prop_.Value.Kind, .bool y0.Prop_.Value.Flag, I y0.Prop_.Value.Number, .str y0.Prop_.Value.Words, I y0.Stamp.At, .str y0.Stamp.By, I y0.Stamp.No] :: .agg [.str y1.Prop_.Name, I y1.Prop_.Value.Kind, .bool y1.Prop_.Value.Flag, I y1.Prop_.Value.Number, .str y1.Prop_.Value.Words, I y1.Stamp.At, .str y1.Stamp.By, I y1.Stamp.No] ::  fnb_C) (I u)) {r : (List Cell)} (h : slices_SortStableFunc_Cell_Cell p0x0 fnb = some r) : ACall Tryz.prog 42 [.sl 8 b_0 0 p0x0.length, .func (.func fnb_F) fnb_C] [(b_0, .arr 8 (p0x0.map Cell.av))] (T0 ([(b_0, .arr 8 (r.map Cell.av))]) (.tup [])) := by
  unfold slices_SortStableFunc_Cell_Cell at h
  refine ACall.lessH ?_
  refine ACall.bodyN Tryz.func42 rfl Tryz.ntmps42 Tryz.results42 rfl rfl ?_
  refine tR <| rM rfl rfl <| rM rfl rfl <| ARun.qv (t_len_sl rfl) rfl <| rM rfl rfl <| bndE h fun v1 e1 h => t_call0 rfl (slices_stableCmpFunc_Cell_c fnb_h (lenOk_f e1)) (CoL.refl _) (.cons .p0 .nil) rfl rfl <| ARun.ghost <| ImpX.eqs (s := 0) (av' := .sl 8 b_0 0 v1.length) rfl (congrArg (AV.sl 8 b_0 0) (lenOk_l e1)) <| ImpX.here <| ARun.ghost <| ImpX.eqs (s := 4) (av' := .sl 8 b_0 0 v1.length) rfl (congrArg (AV.sl 8 b_0 0) (lenOk_l e1)) <| ImpX.here <| ARun.ghost <| ImpX.eqs (s := 5) (av' := .sl 8 b_0 0 v1.length) rfl (congrArg (AV.sl 8 b_0 0) (lenOk_l e1)) <| ImpX.here <| rN <| ATodo.nil <| ?_
  obtain rfl := Option.some.inj h
  exact ImpX.here ⟨_, .nil, _, .cons .p0 .nil, ⟨rfl, rfl⟩⟩

set_option maxHeartbeats 4000000 in
theorem Stream_RightCells_1x_c [GI : GTab] {p0x0 : Cell} {p1x0 : Cell} {r : Bool} (h : Stream_RightCells_1x p0x0 p1x0 = r) : Pu Tryz.prog 96 [.agg [.str p0x0.Prop_.Name, I p0x0.Prop_.Value.Kind, .bool p0x0.Prop_.Value.Flag, I p0x0.Prop_.Value.Number, .str p0x0.Prop_.Value.Words, I p0x0.Stamp.At, .str p0x0.Stamp.By, I p0x0.Stamp.No], .agg [.str p1x0.Prop_.Name, I p1x0.Prop_.Value.Kind, .bool p1x0.Prop_.Value.Flag, I p1x0.Prop_.Value.Number, .str p1x0.Prop_.Value.Words, I p1x0.Stamp.At, .str p1x0.Stamp.By, I p1x0.Stamp.No]] (.bool r) := by
  unfold Stream_RightCells_1x at h
  refine ACall.bodyN Tryz.func96 rfl Tryz.ntmps96 Tryz.results96 rfl rfl ?_
  refine tSR <| n_box rfl rfl rfl rfl fun b1 => n_box rfl rfl rfl rfl fun b2 => rA rfl rfl <| rN <| tSR <| rF rfl rfl rfl <| rF rfl rfl rfl <| rL rfl rfl .p1 rfl rfl <| rF rfl rfl rfl <| rF rfl rfl rfl <| rL rfl rfl .p0 rfl rfl <| ARun.qv (q_seq rfl rfl) rfl <| rA rfl rfl <| rN <| ATodo.ret <| ?_
  obtain rfl := h
  exact ImpX.here ⟨_, .cons (.tmp _ _ rfl) .nil, rfl⟩

set_option maxHeartbeats 4000000 in
theorem slices_CompactFunc_Cell_Cell_c [GI : GTab] {b_0 : Bk} {p0x0 : List Cell} {fnb : Cell → Cell → Option Bool} {fnb_F : FuncId} [IsFn Tryz.prog fnb_F] {fnb_C : List AV} (fnb_h : ∀ {y0 y1 : _} {u : Bool}, fnb y0 y1 = some u → Pu Tryz.prog fnb_F (.agg [.str y0.Prop_.Name, I y0.Prop_.Value.Kind, .bool y0.Prop_.Value.Flag, I y0.Prop_.Value.Number, .str y0.Prop_.Value.Words, I y0.Stamp.At, .str y0.Stamp.By, I y0.Stamp.No] :: .agg [.str y1.Prop_.Name, I y1.Prop_.Value.Kind, .bool y1.Prop_.Value.Flag, I y1.Prop_.Value.Number, .str y1.Prop_.Value.Words, I y1.Stamp.At, .str y1.Stamp.By, I y1.Stamp.No] ::  fnb_C) (.bool u)) {r : (List Cell)} (h : slices_CompactFunc_Cell_Cell p0x0 fnb = some r) : ACall Tryz.prog 95 [.sl 8 b_0 0 p0x0.length, .func (.func fnb_F) fnb_C] [(b_0, .arr 8 (p0x0.map Cell.av))] (T1 (fun d_0 => [(d_0, .arr 8 (r.map Cell.av))]) (fun d_0 => .sl 8 d_0 0 r.length)) := by
  unfold slices_CompactFunc_Cell_Cell at h
  refine ACall.lessH ?_
  refine ACall.bodyN Tryz.func95 rfl Tryz.ntmps95 Tryz.results95 rfl rfl ?_
  refine tSR <| rA rfl rfl <| rN <| tS <| tSR <| rM rfl rfl <| ARun.qv (t_len_sl rfl) rfl <| ARun.qv (q_lss rfl rfl) rfl <| rN <| ATodo.cond_d rfl (fun hc => ?_) (fun hc => ?_)
  · refine have h := iteT hc h; tSR <| rM rfl rfl <| rA rfl rfl <| rN <| ATodo.ret <| ?_
    obtain rfl := Option.some.inj h
    exact ImpX.here ⟨_, .cons (.tmp _ _ rfl) .nil, _, .cons .p0 .nil, ⟨b_0, rfl, rfl⟩⟩
  · refine have h := iteF hc h; tK <| tS <| tSR <| rA rfl rfl <| rN <| ATodo.block <| ATodo.loopI (fun x : Int => slices_CompactFunc_Cell_Cell_b1 p0x0 fnb x) (fun x σ' => σ' = ⟨66, [(0, .sl 8 b_0 0 p0x0.length), (1, .func (.func fnb_F) fnb_C), (5, I x)], [(b_0, .arr 8 (p0x0.map Cell.av))]⟩) h ?_ ?_
    · exact ImpX.lq [0] rfl rfl rfl
    · intro n2 z1 σ' J1 hmk h hJ1 hA1
      obtain rfl := hmk
      replace h : slices_CompactFunc_Cell_Cell_b1 p0x0 fnb n2 = some z1 := h
      unfold slices_CompactFunc_Cell_Cell_b1 at h
      refine tS <| tSR <| rM rfl rfl <| rM rfl rfl <| ARun.qv (t_len_sl rfl) rfl <| ARun.qv (q_lss rfl rfl) rfl <| rN <| ATodo.cond_d rfl (fun hc => ?_) (fun hc => ?_)
      · refine have h := iteT hc h; tK <| tS <| ATodo.block <| tS <| ATodo.regionM (id := 6) (A := [0, 0, 0, 6, 14, 0, 0, 64, 224, 480, 1023]) 10 mixed rfl (by kernel_rfl) (by kernel_rfl) <| AM.qv (q_move rfl) rfl <| AM.qv (q_move rfl) rfl <| AM.qv (q_move rfl) rfl <| bndE h fun v3 e1 h => AM.qv (t_index_sl rfl rfl rfl e1) rfl <| AM.qv (t_load_aptr_agg (g := Cell.av) rfl rfl (.inl .p0) rfl e1 rfl) rfl <| AM.qv (q_move rfl) rfl <| AM.qv (q_move rfl) rfl <| AM.qv (q_subw rfl rfl) rfl <| bndE h fun v4 e2 h => AM.qv (t_index_sl rfl rfl rfl e2) rfl <| AM.qv (t_load_aptr_agg (g := Cell.av) rfl rfl (.inl .p0) rfl e2 rfl) rfl <| AM.nil <| bndE h fun v5 e3 h => r_callvp rfl rfl (fnb_h e3) (CoL.refl _) rfl <| rN <| ATodo.cond rfl (fun hc => ?_) (fun hc => ?_)
        · refine have h := iteT hc h; tSR <| rM rfl rfl <| rM rfl rfl <| bndE h fun l6 e4 h => ARun.qv (t_slice_sl rfl rfl (.some _ _ _ rfl) .none rfl rfl e4) rfl <| rA rfl rfl <| rN <| tS <| tSR <| rA rfl rfl <| rN <| ATodo.block <| ATodo.loopI (fun x : (List Cell) × Int × Int => slices_CompactFunc_Cell_Cell_b2 fnb n2 l6 x.1 x.2.1 x.2.2) (fun x σ' => σ' = ⟨66, [(0, .sl 8 b_0 0 x.1.length), (1, .func (.func fnb_F) fnb_C), (5, I x.2.1), (6, .sl 8 b_0 n2.toNat l6.length), (7, I x.2.2)], [(b_0, .arr 8 (x.1.map Cell.av))]⟩) h ?_ ?_
          · exact ImpX.lq [0] rfl rfl rfl
          · intro x z2 σ' J2 hmk h hJ2 hA2
            obtain ⟨l10, n11, n12⟩ := x
            obtain rfl := hmk
            replace h : slices_CompactFunc_Cell_Cell_b2 fnb n2 l6 l10 n11 n12 = some z2 := h
            unfold slices_CompactFunc_Cell_Cell_b2 at h
            refine tS <| tSR <| rM rfl rfl <| rM rfl rfl <| ARun.qv (t_len_sub rfl) rfl <| ARun.qv (q_lss rfl rfl) rfl <| rN <| ATodo.cond_d rfl (fun hc => ?_) (fun hc => ?_)
            · refine have h := iteT hc h; tK <| tS <| ATodo.block <| tS <| ATodo.regionM (id := 11) (A := [0, 0, 0, 6, 14, 0, 0, 64, 224, 480, 1023, 2047]) 10 mixed rfl (by kernel_rfl) (by kernel_rfl) <| AM.qv (q_move rfl) rfl <| AM.qv (q_move rfl) rfl <| AM.qv (q_move rfl) rfl <| bndE h fun v13 e5 h => AM.qv (t_index_sub (L := n2) rfl rfl rfl e5) rfl <| AM.qv (t_load_aptr_agg (g := Cell.av) rfl rfl (.inl .p0) rfl (idxS_some e5).2 rfl) rfl <| AM.qv (q_move rfl) rfl <| AM.qv (q_move rfl) rfl <| AM.qv (q_subw rfl rfl) rfl <| bndE h fun v14 e6 h => AM.qv (t_index_sub (L := n2) rfl rfl rfl e6) rfl <| AM.qv (t_load_aptr_agg (g := Cell.av) rfl rfl (.inl .p0) rfl (idxS_some e6).2 rfl) rfl <| AM.nil <| bndE h fun v15 e7 h => r_callvp rfl rfl (fnb_h e7) (CoL.refl _) rfl <| ARun.qv (q_not rfl) rfl <| rN <| ATodo.cut (fun σ' => ∃ (l16 : List Cell) (n17 : Int), slices_CompactFunc_Cell_Cell_j1 n12 l16 n17 = some z2 ∧ σ' = ⟨66, [(0, .sl 8 b_0 0 l16.length), (1, .func (.func fnb_F) fnb_C), (5, I n17), (6, .sl 8 b_0 n2.toNat l6.length), (7, I n12)], [(b_0, .arr 8 (l16.map Cell.av))]⟩) ?_ ?_
              · refine ATodo.cond rfl (fun hc => ?_) (fun hc => ?_)
                · exact have h := iteT hc h; tSR <| rM rfl rfl <| rM rfl rfl <| rM rfl rfl <| rM rfl rfl <| bndE h fun v18 e8 h => ARun.qv (t_index_sub (L := n2) rfl rfl rfl e8) rfl <| ARun.qv (t_load_aptr_agg (g := Cell.av) rfl rfl (.inl .p0) rfl (idxS_some e8).2 rfl) rfl <| bndE h fun v19 e9 h => ARun.qv (t_index_sl rfl rfl rfl e9) rfl <| t_store_aptr1 (g := Cell.av) (el' := v18) rfl rfl rfl rfl e9 rfl .p0 rfl <| ARun.ghost <| ImpX.eqs (s := 0) (av' := .sl 8 b_0 0 (l10.set n11.toNat v18).length) rfl (by rw [List.length_set]) <| ImpX.here <| ARun.ghost <| ImpX.eqs (s := 50) (av' := .sl 8 b_0 0 (l10.set n11.toNat v18).length) rfl (by rw [List.length_set]) <| ImpX.here <| rN <| tR <| rM rfl rfl <| ARun.qv (q_addw rfl rfl) rfl <| rA rfl rfl <| rN <| ATodo.stop <| ImpX.lq [0] ⟨l10.set n11.toNat v18, w64 (n11 + (1 : Int)), h, rfl⟩ rfl rfl
                · exact have h := iteFb hc h; tK <| ATodo.stop <| ImpX.lq [0] ⟨l10, n11, h, rfl⟩ rfl rfl
              · rintro σ' ⟨l16, n17, h, rfl⟩
                unfold slices_CompactFunc_Cell_Cell_j1 at h
                refine ATodo.blk <| tR <| rM rfl rfl <| ARun.qv (q_addw rfl rfl) rfl <| rA rfl rfl <| rN <| ATodo.stop <| ?_
                obtain rfl := Option.some.inj h
                exact hJ2 _ _ rfl <| ImpX.lq [0] rfl rfl rfl
            · refine have h := iteF hc h; ATodo.exit rfl <| have h := outL h hA2; ?_
              unfold slices_CompactFunc_Cell_Cell_k2 at h
              refine tSR <| rM rfl rfl <| rM rfl rfl <| bndE h fun l20 e10 h => ARun.qv (t_slice_sl rfl rfl (.some _ _ _ rfl) .none rfl rfl e10) rfl <| t_clear (g := Cell.av) (Z := (⟨(⟨[], (⟨(0 : Int), false, (0 : Int), []⟩ : ValueS)⟩ : PropS), (⟨(0 : Int), [], (0 : Int)⟩ : Stamp)⟩ : Cell)) (L := n11) rfl rfl rfl rfl rfl rfl e10 .p0 <| ARun.ghost <| ImpX.eqs (s := 0) (av' := .sl 8 b_0 0 (clr l10 n11 l20.length (⟨(⟨[], (⟨(0 : Int), false, (0 : Int), []⟩ : ValueS)⟩ : PropS), (⟨(0 : Int), [], (0 : Int)⟩ : Stamp)⟩ : Cell)).length) rfl (congrArg (AV.sl 8 b_0 0) (clr_len e10)) <| ImpX.here <| ARun.ghost <| ImpX.eqs (s := 59) (av' := .sl 8 b_0 0 (clr l10 n11 l20.length (⟨(⟨[], (⟨(0 : Int), false, (0 : Int), []⟩ : ValueS)⟩ : PropS), (⟨(0 : Int), [], (0 : Int)⟩ : Stamp)⟩ : Cell)).length) rfl (congrArg (AV.sl 8 b_0 0) (clr_len e10)) <| ImpX.here <| rN <| tSR <| rM rfl rfl <| rM rfl rfl <| bndE h fun l21 e11 h => ARun.qv (t_slice_sl rfl rfl .none (.some _ _ _ rfl) rfl rfl e11) rfl <| rA rfl rfl <| ARun.ghost <| ImpX.takeT e11 .p0 <| ImpX.here <| rN <| ATodo.ret <| have h := outL h hA1; ?_
              obtain rfl := Option.some.inj h
              exact ImpX.here ⟨_, .cons (.tmp _ _ rfl) .nil, _, .cons .p0 .nil, ⟨b_0, rfl, rfl⟩⟩
        · refine have h := iteFb hc h; tK <| ATodo.blk <| tR <| rM rfl rfl <| ARun.qv (q_addw rfl rfl) rfl <| rA rfl rfl <| rN <| ATodo.stop <| ?_
          obtain rfl := Option.some.inj h
          exact hJ1 _ _ rfl <| ImpX.lq [0] rfl rfl rfl
      · refine have h := iteF hc h; ATodo.exit rfl <| have h := outL h hA1; tSR <| rM rfl rfl <| rA rfl rfl <| rN <| ATodo.ret <| ?_
        obtain rfl := Option.some.inj h
        exact ImpX.here ⟨_, .cons (.tmp _ _ rfl) .nil, _, .cons .p0 .nil, ⟨b_0, rfl, rfl⟩⟩

set_option maxHeartbeats 4000000 in
theorem Stream_RightCells_c [GI : GTab] {b_0 : Bk} {p0x0 : Fleetmake_Stream} {r : (List Cell) × Fleetmake_Stream} (h : Stream_RightCells p0x0 = some r) : ACall Tryz.prog 41 [.ptr b_0 0] [(b_0, .cells [.list 1 (p0x0.L.map I), I p0x0.at_])] (T1 (fun d_0 => [(b_0, .cells [.list 1 (r.2.L.map I), I r.2.at_]), (d_0, .arr 8 (r.1.map Cell.av))]) (fun d_0 => .sl 8 d_0 0 r.1.length)) := by
  unfold Stream_RightCells at h
  refine ACall.lessH ?_
  refine ACall.bodyN Tryz.func41 rfl Tryz.ntmps41 Tryz.results41 rfl rfl ?_
  refine tSR <| rA rfl rfl <| rN <| tSR <| rA rfl rfl <| rN <| tS <| tSR <| rM rfl rfl <| bndE h fun v1 e1 h => t_call0 rfl (Stream_Range_c e1) (CoL.refl _) (.cons .p0 .nil) rfl rfl <| rM rfl rfl <| rN <| ATodo.block <| ATodo.loopI (fun x : (List Int) × Int × (List Cell) × Int => Stream_RightCells_b1 v1 x.1 x.2.1 x.2.2.1 x.2.2.2) (fun x σ' => ∃ (b9 : Bk), σ' = ⟨32, [(0, .ptr b_0 0), (3, .sl 8 b9 0 x.2.2.1.length), (6, I v1.1), (7, I x.2.2.2)], [(b_0, .cells [.list 1 (x.1.map I), I x.2.1]), (b9, .arr 8 (x.2.2.1.map Cell.av))]⟩) h ?_ ?_
  · exact ImpX.arr (s := 3) 8 rfl fun b12 => ImpX.lq [1, 0] ⟨b12, rfl⟩ rfl rfl
  · intro x z1 σ' J1 hmk h hJ1 hA1
    obtain ⟨l7, n8, l10, n11⟩ := x
    obtain ⟨b9, rfl⟩ := hmk
    replace h : Stream_RightCells_b1 v1 l7 n8 l10 n11 = some z1 := h
    unfold Stream_RightCells_b1 at h
    refine tSR <| ARun.qv (q_lss rfl rfl) rfl <| rN <| tS <| ATodo.cond_d rfl (fun hc => ?_) (fun hc => ?_)
    · refine have h := iteT hc h; tK <| tS <| ATodo.block <| tSR <| rM rfl rfl <| n_buildSliceL (xs := ([([97] : Str), ([97] : Str), ([97, 46, 120] : Str), ([97, 46, 121] : Str), ([97, 46, 120, 46, 112] : Str), ([98] : Str), ([98, 46, 122] : Str), ([97, 98] : Str)]).map AV.str) rfl rfl rfl rfl rfl rfl <| bndE h fun v13 e2 h => t_call0 rfl (Stream_Some_c e2) (CoL.refl _) (.cons .p0 .nil) rfl rfl <| rM rfl rfl <| bndE h fun v14 e3 h => t_call0 rfl (Stream_RightValue_c e3) (CoL.refl _) (.cons .p0 .nil) rfl rfl <| ARun.qv (n_build rfl rfl rfl rfl rfl) rfl <| rM rfl rfl <| bndE h fun v15 e4 h => t_call0 rfl (Stream_RightStamp_c e4) (CoL.refl _) (.cons .p0 .nil) rfl rfl <| ARun.qv (n_build rfl rfl rfl rfl rfl) rfl <| n_alloc rfl rfl rfl rfl fun b16 => n_store_ptr rfl rfl rfl rfl .p0 rfl rfl <| rN <| tS <| tSR <| rM rfl rfl <| bndE h fun v17 e5 h => t_call0 rfl (Stream_Flip_c e5) (CoL.refl _) (.cons .p1 .nil) rfl rfl <| rN <| ATodo.cut (fun σ' => ∃ (n18 : Int) (c19 : Bool) (n20 : Int) (q21 : Str), Stream_RightCells_j1 l10 n11 v13 v15 v17 n18 c19 n20 q21 = some z1 ∧ σ' = ⟨32, [(0, .ptr b_0 0), (3, .sl 8 b9 0 l10.length), (4, .ptr b16 0), (6, I v1.1), (7, I n11)], [(b_0, .cells [.list 1 (v17.2.L.map I), I v17.2.at_]), (b9, .arr 8 (l10.map Cell.av)), (b16, .cells [.str v13.1, I n18, .bool c19, I n20, .str q21, I v15.1.At, .str v15.1.By, I v15.1.No])]⟩) ?_ ?_
      · refine ATodo.cond rfl (fun hc => ?_) (fun hc => ?_)
        · exact have h := iteT hc h; tR <| ARun.qv (n_build rfl rfl rfl rfl rfl) rfl <| rF rfl rfl rfl <| rF rfl rfl rfl <| n_store_ptr rfl rfl rfl rfl .p1 rfl rfl <| rN <| ATodo.stop <| ImpX.lq [0, 1, 0] ⟨(0 : Int), false, (0 : Int), [], h, rfl⟩ rfl rfl
        · exact have h := iteFb hc h; tK <| ATodo.stop <| ImpX.lq [0, 1, 0] ⟨v14.1.Kind, v14.1.Flag, v14.1.Number, v14.1.Words, h, rfl⟩ rfl rfl
      · rintro σ' ⟨n18, c19, n20, q21, h, rfl⟩
        unfold Stream_RightCells_j1 at h
        refine tR <| rM rfl rfl <| ARun.qv (q_load_ptr_all rfl rfl .p2 rfl) rfl <| n_buildSliceL (xs := ([(⟨(⟨v13.1, (⟨n18, c19, n20, q21⟩ : ValueS)⟩ : PropS), v15.1⟩ : Cell)]).map Cell.av) rfl rfl rfl rfl rfl rfl <| bndE h fun l22 e6 h => t_append (g := Cell.av) rfl rfl rfl rfl rfl rfl rfl rfl (.list _) e6 (fun _ => .p1) rfl fun b23 => rA rfl rfl <| rN <| ATodo.blk <| tR <| ARun.qv (q_addw rfl rfl) rfl <| rM rfl rfl <| rN <| ATodo.stop <| ?_
        obtain rfl := Option.some.inj h
        exact hJ1 _ _ rfl <| ImpX.lq [0, 0] ⟨b23, rfl⟩ rfl rfl
    · refine have h := iteF hc h; ATodo.exit rfl <| have h := outL h hA1; ?_
      unfold Stream_RightCells_k2 at h
      refine tSR <| rM rfl rfl <| bndE h fun v24 e7 h => t_call0 rfl (slices_SortStableFunc_Cell_Cell_c (fun e => cellOrder_c (Option.some.inj e)) (lenOk_f e7)) (CoL.refl _) (.cons .p1 .nil) rfl rfl <| ARun.ghost <| ImpX.eqs (s := 3) (av' := .sl 8 b9 0 v24.length) rfl (congrArg (AV.sl 8 b9 0) (lenOk_l e7)) <| ImpX.here <| ARun.ghost <| ImpX.eqs (s := 28) (av' := .sl 8 b9 0 v24.length) rfl (congrArg (AV.sl 8 b9 0) (lenOk_l e7)) <| ImpX.here <| rN <| tSR <| rM rfl rfl <| bndE h fun v25 e8 h => t_call1 rfl (slices_CompactFunc_Cell_Cell_c (fun e => Stream_RightCells_1x_c (Option.some.inj e)) e8) (CoL.refl _) (.cons .p0 .nil) (fun _ => rfl) rfl fun b26 => rA rfl rfl <| rN <| ATodo.ret <| ?_
      obtain rfl := Option.some.inj h
      exact ImpX.here ⟨_, .cons (.tmp _ _ rfl) .nil, _, .cons .p1 (.cons .p0 .nil), ⟨b26, rfl, rfl⟩⟩

set_option maxHeartbeats 4000000 in
theorem Stream_PropName_c {b_0 : Bk} {p0x0 : Fleetmake_Stream} {r : Str × Fleetmake_Stream} (h : Stream_PropName p0x0 = some r) : ACall Tryz.prog 18 [.ptr b_0 0] [(b_0, .cells [.list 1 (p0x0.L.map I), I p0x0.at_])] (T0 ([(b_0, .cells [.list 1 (r.2.L.map I), I r.2.at_])]) (.str r.1)) := by
  unfold Stream_PropName at h
  refine ACall.lessH ?_
  refine ACall.bodyN Tryz.func18 rfl Tryz.ntmps18 Tryz.results18 rfl rfl ?_
  refine tSR <| rA rfl rfl <| rN <| tS <| tSR <| rM rfl rfl <| bndE h fun v1 e1 h => t_call0 rfl (Stream_Flip_c e1) (CoL.refl _) (.cons .p0 .nil) rfl rfl <| rN <| ATodo.cond rfl (fun hc => ?_) (fun hc => ?_)
  · refine have h := iteT hc h; tSR <| rM rfl rfl <| bndE h fun v2 e2 h => r_callp rfl (strings_Repeat_c e2) (CoL.refl _) rfl <| n_buildSliceL (xs := ([([] : Str), ([65] : Str), ([97, 46] : Str), ([46, 97] : Str), ([97, 46, 46, 98] : Str), ([97, 46, 98, 46, 99, 46, 100, 46, 101, 46, 102, 46, 103, 46, 104, 46, 105] : Str), ([97, 32, 98] : Str), v2]).map AV.str) rfl rfl rfl rfl rfl rfl <| bndE h fun v3 e3 h => t_call0 rfl (Stream_Some_c e3) (CoL.refl _) (.cons .p0 .nil) rfl rfl <| rA rfl rfl <| rN <| ATodo.ret <| ?_
    obtain rfl := Option.some.inj h
    exact ImpX.here ⟨_, .cons (.tmp _ _ rfl) .nil, _, .cons .p0 .nil, ⟨rfl, rfl⟩⟩
  · refine have h := iteFb hc h; tK <| tSR <| rM rfl rfl <| n_buildSliceL (xs := ([([97] : Str), ([97] : Str), ([97, 46, 120] : Str), ([97, 46, 120] : Str), ([97, 46, 121] : Str), ([97, 46, 120, 46, 112] : Str), ([98] : Str), ([98, 46, 122] : Str), ([97, 98] : Str), ([97, 45, 49] : Str)]).map AV.str) rfl rfl rfl rfl rfl rfl <| bndE h fun v4 e4 h => t_call0 rfl (Stream_Some_c e4) (CoL.refl _) (.cons .p0 .nil) rfl rfl <| rA rfl rfl <| rN <| ATodo.ret <| ?_
    obtain rfl := Option.some.inj h
    exact ImpX.here ⟨_, .cons (.tmp _ _ rfl) .nil, _, .cons .p0 .nil, ⟨rfl, rfl⟩⟩

set_option maxHeartbeats 4000000 in
theorem Stream_Odd_c [GI : GTab] {b_0 : Bk} {p0x0 : Fleetmake_Stream} {p1x0 : Int} {p2x0 : Int} {r : Int × Fleetmake_Stream} (h : Stream_Odd p0x0 p1x0 p2x0 = some r) : ACall Tryz.prog 61 [.ptr b_0 0, I p1x0, I p2x0] [(b_0, .cells [.list 1 (p0x0.L.map I), I p0x0.at_])] (T0 ([(b_0, .cells [.list 1 (r.2.L.map I), I r.2.at_])]) (I r.1)) := by
  unfold Stream_Odd at h
  refine ACall.lessH ?_
  refine ACall.bodyN Tryz.func61 rfl Tryz.ntmps61 Tryz.results61 rfl rfl ?_
  refine tSR <| rA rfl rfl <| rN <| tS <| tSR <| rM rfl rfl <| bndE h fun v1 e1 h => t_call0 rfl (Stream_Flip_c e1) (CoL.refl _) (.cons .p0 .nil) rfl rfl <| rN <| ATodo.cond rfl (fun hc => ?_) (fun hc => ?_)
  · refine have h := iteT hc h; tSR <| rM rfl rfl <| rM rfl rfl <| ARun.qv (q_subw rfl rfl) rfl <| rM rfl rfl <| ARun.qv (q_addw rfl rfl) rfl <| rM rfl rfl <| rM rfl rfl <| n_buildSliceL (xs := ([w64 (p1x0 - (1 : Int)), w64 (p2x0 + (1 : Int)), p1x0, p2x0, (-1099511627776 : Int), (1099511627776 : Int)]).map I) rfl rfl rfl rfl rfl rfl <| bndE h fun v2 e2 h => t_call0 rfl (Stream_Pick_c e2) (CoL.refl _) (.cons .p0 .nil) rfl rfl <| rA rfl rfl <| rN <| ATodo.ret <| ?_
    obtain rfl := Option.some.inj h
    exact ImpX.here ⟨_, .cons (.tmp _ _ rfl) .nil, _, .cons .p0 .nil, ⟨rfl, rfl⟩⟩
  · refine have h := iteFb hc h; tK <| tSR <| rM rfl rfl <| rM rfl rfl <| rM rfl rfl <| bndE h fun v3 e3 h => t_call0 rfl (Stream_Range_c e3) (CoL.refl _) (.cons .p0 .nil) rfl rfl <| rA rfl rfl <| rN <| ATodo.ret <| ?_
    obtain rfl := Option.some.inj h
    exact ImpX.here ⟨_, .cons (.tmp _ _ rfl) .nil, _, .cons .p0 .nil, ⟨rfl, rfl⟩⟩

set_option maxHeartbeats 4000000 in
theorem Stream_Value_c {b_0 : Bk} {p0x0 : Fleetmake_Stream} {r : ValueS × Fleetmake_Stream} (h : Stream_Value p0x0 = some r) : ACall Tryz.prog 19 [.ptr b_0 0] [(b_0, .cells [.list 1 (p0x0.L.map I), I p0x0.at_])] (T0 ([(b_0, .cells [.list 1 (r.2.L.map I), I r.2.at_])]) (.agg [I r.1.Kind, .bool r.1.Flag, I r.1.Number, .str r.1.Words])) := by
  unfold Stream_Value at h
  refine ACall.lessH ?_
  refine ACall.bodyN Tryz.func19 rfl Tryz.ntmps19 Tryz.results19 rfl rfl ?_
  refine tSR <| n_alloc rfl rfl rfl rfl fun b1 => rN <| tSR <| rM rfl rfl <| bndE h fun v2 e1 h => t_call0 rfl (Stream_RightValue_c e1) (CoL.refl _) (.cons .p1 .nil) rfl rfl <| n_alloc rfl rfl rfl rfl fun b3 => n_store_ptr rfl rfl rfl rfl .p0 rfl rfl <| rN <| tS <| tSR <| rM rfl rfl <| bndE h fun v4 e2 h => t_call0 rfl (Stream_Flip_c e2) (CoL.refl _) (.cons .p1 .nil) rfl rfl <| rN <| ATodo.cond rfl (fun hc => ?_) (fun hc => ?_)
  · refine have h := iteT hc h; tSR <| ARun.qv (n_build rfl rfl rfl rfl rfl) rfl <| n_store_ptr rfl rfl rfl rfl .p2 rfl rfl <| rN <| ATodo.ret <| ?_
    obtain rfl := Option.some.inj h
    exact ImpX.here ⟨_, .cons (.all _ _ _ _ _ _ rfl .p2 TUnder.h TInfo.h rfl rfl) .nil, _, .cons .p0 .nil, ⟨rfl, rfl⟩⟩
  · refine have h := iteFb hc h; tK <| tS <| tSR <| rM rfl rfl <| bndE h fun v5 e3 h => t_call0 rfl (Stream_Flip_c e3) (CoL.refl _) (.cons .p0 .nil) rfl rfl <| rN <| ATodo.cut (fun σ' => ∃ (l6 : List Int) (n7 : Int) (n8 : Int) (c9 : Bool) (n10 : Int) (q11 : Str), Stream_Value_j1 l6 n7 n8 c9 n10 q11 = some r ∧ σ' = ⟨39, [(2, .ptr b1 0), (3, .ptr b3 0)], [(b_0, .cells [.list 1 (l6.map I), I n7]), (b1, .cells [I (0 : Int), .bool false, I (0 : Int), .str []]), (b3, .cells [I n8, .bool c9, I n10, .str q11])]⟩) ?_ ?_
    · refine ATodo.cond rfl (fun hc => ?_) (fun hc => ?_)
      · refine have h := iteT hc h; tSR <| rM rfl rfl <| bndE h fun v12 e4 h => t_call0 rfl (Stream_Next_c e4) (CoL.refl _) (.cons .p0 .nil) rfl rfl <| rN <| ATodo.block <| tSR <| ARun.qv (q_eql rfl rfl) rfl <| rA rfl rfl <| rN <| ATodo.cut (fun σ' => ∃ (l13 : List Int) (n14 : Int) (n15 : Int) (c16 : Bool) (n17 : Int) (q18 : Str), Stream_Value_j2 l13 n14 n15 c16 n17 q18 = some r ∧ σ' = ⟨39, [(2, .ptr b1 0), (3, .ptr b3 0)], [(b_0, .cells [.list 1 (l13.map I), I n14]), (b1, .cells [I (0 : Int), .bool false, I (0 : Int), .str []]), (b3, .cells [I n15, .bool c16, I n17, .str q18])]⟩) ?_ ?_
        · refine ATodo.cond_d rfl (fun hc => ?_) (fun hc => ?_)
          · exact have h := iteT hc h; tR <| rM rfl rfl <| n_buildSliceL (xs := ([(-1 : Int), (4 : Int), (0 : Int)]).map I) rfl rfl rfl rfl rfl rfl <| bndE h fun v19 e5 h => t_call0 rfl (Stream_Pick_c e5) (CoL.refl _) (.cons .p0 .nil) rfl rfl <| rF rfl rfl rfl <| n_store_ptr rfl rfl rfl rfl .p1 rfl rfl <| rN <| ATodo.stop <| ImpX.lq [0, 1, 0] ⟨v19.2.L, v19.2.at_, v19.1, v2.1.Flag, v2.1.Number, v2.1.Words, h, rfl⟩ rfl rfl
          · refine have h := iteF hc h; tSR <| ARun.qv (q_eql rfl rfl) rfl <| rA rfl rfl <| rN <| ATodo.cut (fun σ' => ∃ (l20 : List Int) (n21 : Int) (n22 : Int) (c23 : Bool) (n24 : Int) (q25 : Str), Stream_Value_j3 l20 n21 n22 c23 n24 q25 = some r ∧ σ' = ⟨39, [(2, .ptr b1 0), (3, .ptr b3 0)], [(b_0, .cells [.list 1 (l20.map I), I n21]), (b1, .cells [I (0 : Int), .bool false, I (0 : Int), .str []]), (b3, .cells [I n22, .bool c23, I n24, .str q25])]⟩) ?_ ?_
            · refine ATodo.cond_d rfl (fun hc => ?_) (fun hc => ?_)
              · exact have h := iteT hc h; tR <| rF rfl rfl rfl <| rL rfl rfl .p1 rfl rfl <| ARun.qv (q_not rfl) rfl <| rF rfl rfl rfl <| n_store_ptr rfl rfl rfl rfl .p1 rfl rfl <| rN <| ATodo.stop <| ImpX.lq [0, 1, 0] ⟨v12.2.L, v12.2.at_, v2.1.Kind, !v2.1.Flag, v2.1.Number, v2.1.Words, h, rfl⟩ rfl rfl
              · refine have h := iteF hc h; tSR <| ARun.qv (q_eql rfl rfl) rfl <| rA rfl rfl <| rN <| ATodo.cut (fun σ' => ∃ (l26 : List Int) (n27 : Int) (n28 : Int) (c29 : Bool) (n30 : Int) (q31 : Str), Stream_Value_j4 l26 n27 n28 c29 n30 q31 = some r ∧ σ' = ⟨39, [(2, .ptr b1 0), (3, .ptr b3 0)], [(b_0, .cells [.list 1 (l26.map I), I n27]), (b1, .cells [I (0 : Int), .bool false, I (0 : Int), .str []]), (b3, .cells [I n28, .bool c29, I n30, .str q31])]⟩) ?_ ?_
                · refine ATodo.cond_d rfl (fun hc => ?_) (fun hc => ?_)
                  · exact have h := iteT hc h; tR <| rM rfl rfl <| bndE h fun v32 e6 h => t_call0 rfl (Stream_Odd_c e6) (CoL.refl _) (.cons .p0 .nil) rfl rfl <| rF rfl rfl rfl <| n_store_ptr rfl rfl rfl rfl .p1 rfl rfl <| rN <| ATodo.stop <| ImpX.lq [0, 1, 0] ⟨v32.2.L, v32.2.at_, v2.1.Kind, v2.1.Flag, v32.1, v2.1.Words, h, rfl⟩ rfl rfl
                  · refine have h := iteF hc h; tSR <| ARun.qv (q_eql rfl rfl) rfl <| rA rfl rfl <| rN <| ATodo.cut (fun σ' => ∃ (l33 : List Int) (n34 : Int) (n35 : Int) (c36 : Bool) (n37 : Int) (q38 : Str), Stream_Value_j5 l33 n34 n35 c36 n37 q38 = some r ∧ σ' = ⟨39, [(2, .ptr b1 0), (3, .ptr b3 0)], [(b_0, .cells [.list 1 (l33.map I), I n34]), (b1, .cells [I (0 : Int), .bool false, I (0 : Int), .str []]), (b3, .cells [I n35, .bool c36, I n37, .str q38])]⟩) ?_ ?_
                    · refine ATodo.cond_d rfl (fun hc => ?_) (fun hc => ?_)
                      · exact have h := iteT hc h; tR <| rM rfl rfl <| bndE h fun v39 e7 h => r_callp rfl (strings_Repeat_c e7) (CoL.refl _) rfl <| n_buildSliceL (xs := ([([10] : Str), ([127] : Str), ([255] : Str), v39]).map AV.str) rfl rfl rfl rfl rfl rfl <| bndE h fun v40 e8 h => t_call0 rfl (Stream_Some_c e8) (CoL.refl _) (.cons .p0 .nil) rfl rfl <| ARun.qv (n_build rfl rfl rfl rfl rfl) rfl <| n_store_ptr rfl rfl rfl rfl .p1 rfl rfl <| rN <| ATodo.stop <| ImpX.lq [0, 1, 0] ⟨v40.2.L, v40.2.at_, (3 : Int), false, (0 : Int), v40.1, h, rfl⟩ rfl rfl
                      · exact have h := iteF hc h; tR <| rF rfl rfl rfl <| n_store_ptr rfl rfl rfl rfl .p1 rfl rfl <| rN <| ATodo.stop <| ImpX.lq [0, 1, 0] ⟨v12.2.L, v12.2.at_, v2.1.Kind, v2.1.Flag, v2.1.Number, ([122] : Str), h, rfl⟩ rfl rfl
                    · rintro σ' ⟨l33, n34, n35, c36, n37, q38, h, rfl⟩
                      unfold Stream_Value_j5 at h
                      exact ATodo.stop <| ImpX.lq [0, 0, 0] ⟨l33, n34, n35, c36, n37, q38, h, rfl⟩ rfl rfl
                · rintro σ' ⟨l26, n27, n28, c29, n30, q31, h, rfl⟩
                  unfold Stream_Value_j4 at h
                  exact ATodo.stop <| ImpX.lq [0, 0, 0] ⟨l26, n27, n28, c29, n30, q31, h, rfl⟩ rfl rfl
            · rintro σ' ⟨l20, n21, n22, c23, n24, q25, h, rfl⟩
              unfold Stream_Value_j3 at h
              exact ATodo.stop <| ImpX.lq [0, 0, 0] ⟨l20, n21, n22, c23, n24, q25, h, rfl⟩ rfl rfl
        · rintro σ' ⟨l13, n14, n15, c16, n17, q18, h, rfl⟩
          unfold Stream_Value_j2 at h
          exact ATodo.blk <| ATodo.stop <| ImpX.lq [0, 0, 0] ⟨l13, n14, n15, c16, n17, q18, h, rfl⟩ rfl rfl
      · exact have h := iteFb hc h; tK <| ATodo.stop <| ImpX.lq [0, 1, 0] ⟨v5.2.L, v5.2.at_, v2.1.Kind, v2.1.Flag, v2.1.Number, v2.1.Words, h, rfl⟩ rfl rfl
    · rintro σ' ⟨l6, n7, n8, c9, n10, q11, h, rfl⟩
      unfold Stream_Value_j1 at h
      refine tSR <| ARun.qv (q_load_ptr_all rfl rfl .p2 rfl) rfl <| n_store_ptr rfl rfl rfl rfl .p1 rfl rfl <| rN <| ATodo.ret <| ?_
      obtain rfl := Option.some.inj h
      exact ImpX.here ⟨_, .cons (.all _ _ _ _ _ _ rfl .p1 TUnder.h TInfo.h rfl rfl) .nil, _, .cons .p0 .nil, ⟨rfl, rfl⟩⟩

set_option maxHeartbeats 4000000 in
theorem Stream_Stamp_c [GI : GTab] {b_0 : Bk} {p0x0 : Fleetmake_Stream} {r : Stamp × Fleetmake_Stream} (h : Stream_Stamp p0x0 = some r) : ACall Tryz.prog 20 [.ptr b_0 0] [(b_0, .cells [.list 1 (p0x0.L.map I), I p0x0.at_])] (T0 ([(b_0, .cells [.list 1 (r.2.L.map I), I r.2.at_])]) (.agg [I r.1.At, .str r.1.By, I r.1.No])) := by
  unfold Stream_Stamp at h
  refine ACall.lessH ?_
  refine ACall.bodyN Tryz.func20 rfl Tryz.ntmps20 Tryz.results20 rfl rfl ?_
  refine tSR <| n_alloc rfl rfl rfl rfl fun b1 => rN <| tSR <| rM rfl rfl <| bndE h fun v2 e1 h => t_call0 rfl (Stream_RightStamp_c e1) (CoL.refl _) (.cons .p1 .nil) rfl rfl <| n_alloc rfl rfl rfl rfl fun b3 => n_store_ptr rfl rfl rfl rfl .p0 rfl rfl <| rN <| tS <| tSR <| rM rfl rfl <| bndE h fun v4 e2 h => t_call0 rfl (Stream_Flip_c e2) (CoL.refl _) (.cons .p1 .nil) rfl rfl <| rN <| ATodo.cut (fun σ' => ∃ (l5 : List Int) (n6 : Int) (n7 : Int) (q8 : Str) (n9 : Int), Stream_Stamp_j1 l5 n6 n7 q8 n9 = some r ∧ σ' = ⟨17, [(2, .ptr b1 0), (3, .ptr b3 0)], [(b_0, .cells [.list 1 (l5.map I), I n6]), (b1, .cells [I (0 : Int), .str [], I (0 : Int)]), (b3, .cells [I n7, .str q8, I n9])]⟩) ?_ ?_
  · refine ATodo.cond rfl (fun hc => ?_) (fun hc => ?_)
    · exact have h := iteT hc h; tR <| rM rfl rfl <| bndE h fun v10 e3 h => t_call0 rfl (Stream_Odd_c e3) (CoL.refl _) (.cons .p0 .nil) rfl rfl <| rM rfl rfl <| n_buildSliceL (xs := ([([104] : Str), ([] : Str), ([65] : Str)]).map AV.str) rfl rfl rfl rfl rfl rfl <| bndE h fun v11 e4 h => t_call0 rfl (Stream_Some_c e4) (CoL.refl _) (.cons .p0 .nil) rfl rfl <| rM rfl rfl <| bndE h fun v12 e5 h => t_call0 rfl (Stream_Odd_c e5) (CoL.refl _) (.cons .p0 .nil) rfl rfl <| ARun.qv (n_build rfl rfl rfl rfl rfl) rfl <| n_store_ptr rfl rfl rfl rfl .p1 rfl rfl <| rN <| ATodo.stop <| ImpX.lq [0, 1, 0] ⟨v12.2.L, v12.2.at_, v10.1, v11.1, v12.1, h, rfl⟩ rfl rfl
    · exact have h := iteFb hc h; tK <| ATodo.stop <| ImpX.lq [0, 1, 0] ⟨v4.2.L, v4.2.at_, v2.1.At, v2.1.By, v2.1.No, h, rfl⟩ rfl rfl
  · rintro σ' ⟨l5, n6, n7, q8, n9, h, rfl⟩
    unfold Stream_Stamp_j1 at h
    refine tSR <| ARun.qv (q_load_ptr_all rfl rfl .p2 rfl) rfl <| n_store_ptr rfl rfl rfl rfl .p1 rfl rfl <| rN <| ATodo.ret <| ?_
    obtain rfl := Option.some.inj h
    exact ImpX.here ⟨_, .cons (.all _ _ _ _ _ _ rfl .p1 TUnder.h TInfo.h rfl rfl) .nil, _, .cons .p0 .nil, ⟨rfl, rfl⟩⟩

set_option maxHeartbeats 4000000 in
theorem Stream_Cells_c {b_0 : Bk} {p0x0 : Fleetmake_Stream} {r : (List Cell) × Fleetmake_Stream} (h : Stream_Cells p0x0 = some r) : ACall Tryz.prog 6 [.ptr b_0 0] [(b_0, .cells [.list 1 (p0x0.L.map I), I p0x0.at_])] (T1 (fun d_0 => [(b_0, .cells [.list 1 (r.2.L.map I), I r.2.at_]), (d_0, .arr 8 (r.1.map Cell.av))]) (fun d_0 => .sl 8 d_0 0 r.1.length)) := by
  unfold Stream_Cells at h
  refine ACall.lessH ?_
  refine ACall.bodyN Tryz.func6 rfl Tryz.ntmps6 Tryz.results6 rfl rfl ?_
  refine tSR <| rA rfl rfl <| rN <| tSR <| rM rfl rfl <| bndE h fun v1 e1 h => t_call1 rfl (Stream_RightCells_c e1) (CoL.refl _) (.cons .p0 .nil) (fun _ => rfl) rfl fun b2 => rA rfl rfl <| rN <| tS <| tSR <| rM rfl rfl <| bndE h fun v3 e2 h => t_call0 rfl (Stream_Flip_c e2) (CoL.refl _) (.cons .p0 .nil) rfl rfl <| rN <| ATodo.cut (fun σ' => ∃ (b6 : Bk) (l4 : List Int) (n5 : Int) (l7 : List Cell), Stream_Cells_j1 l4 n5 l7 = some r ∧ σ' = ⟨24, [(3, .sl 8 b6 0 l7.length)], [(b_0, .cells [.list 1 (l4.map I), I n5]), (b6, .arr 8 (l7.map Cell.av))]⟩) ?_ ?_
  · refine ATodo.cond rfl (fun hc => ?_) (fun hc => ?_)
    · refine have h := iteT hc h; tSR <| rM rfl rfl <| rM rfl rfl <| bndE h fun v8 e3 h => t_call0 rfl (Stream_PropName_c e3) (CoL.refl _) (.cons .p0 .nil) rfl rfl <| rM rfl rfl <| bndE h fun v9 e4 h => t_call0 rfl (Stream_Value_c e4) (CoL.refl _) (.cons .p0 .nil) rfl rfl <| ARun.qv (n_build rfl rfl rfl rfl rfl) rfl <| rM rfl rfl <| bndE h fun v10 e5 h => t_call0 rfl (Stream_Stamp_c e5) (CoL.refl _) (.cons .p0 .nil) rfl rfl <| ARun.qv (n_build rfl rfl rfl rfl rfl) rfl <| n_buildSliceL (xs := ([(⟨(⟨v8.1, v9.1⟩ : PropS), v10.1⟩ : Cell)]).map Cell.av) rfl rfl rfl rfl rfl rfl <| bndE h fun l11 e6 h => t_append (g := Cell.av) rfl rfl rfl rfl rfl rfl rfl rfl (.list _) e6 (fun _ => .p1) rfl fun b12 => rA rfl rfl <| rN <| tSR <| rM rfl rfl <| bndE h fun v13 e7 h => t_call0 rfl (Stream_Flip_c e7) (CoL.refl _) (.cons .p0 .nil) rfl rfl <| rN <| ATodo.cut (fun σ' => ∃ (l14 : List Cell), Stream_Cells_j2 v13 l14 = some r ∧ σ' = ⟨24, [(3, .sl 8 b12 0 l14.length)], [(b_0, .cells [.list 1 (v13.2.L.map I), I v13.2.at_]), (b12, .arr 8 (l14.map Cell.av))]⟩) ?_ ?_
      · refine ATodo.cond rfl (fun hc => ?_) (fun hc => ?_)
        · exact have h := iteT hc h; tR <| rM rfl rfl <| bndE h fun v15 e8 h => t_call0 rfl (slices_SortStableFunc_Cell_Cell_c (fun e => cellOrder_c (Option.some.inj e)) (lenOk_f e8)) (CoL.refl _) (.cons .p1 .nil) rfl rfl <| ARun.ghost <| ImpX.eqs (s := 3) (av' := .sl 8 b12 0 v15.length) rfl (congrArg (AV.sl 8 b12 0) (lenOk_l e8)) <| ImpX.here <| ARun.ghost <| ImpX.eqs (s := 18) (av' := .sl 8 b12 0 v15.length) rfl (congrArg (AV.sl 8 b12 0) (lenOk_l e8)) <| ImpX.here <| ARun.ghost <| ImpX.eqs (s := 21) (av' := .sl 8 b12 0 v15.length) rfl (congrArg (AV.sl 8 b12 0) (lenOk_l e8)) <| ImpX.here <| rN <| ATodo.stop <| ImpX.lq [1, 0] ⟨v15, h, rfl⟩ rfl rfl
        · exact have h := iteFb hc h; tK <| ATodo.stop <| ImpX.lq [0, 0] ⟨l11, h, rfl⟩ rfl rfl
      · rintro σ' ⟨l14, h, rfl⟩
        unfold Stream_Cells_j2 at h
        exact ATodo.stop <| ImpX.lq [0, 0] ⟨b12, v13.2.L, v13.2.at_, l14, h, rfl⟩ rfl rfl
    · exact have h := iteFb hc h; tK <| ATodo.stop <| ImpX.lq [0, 0] ⟨b2, v3.2.L, v3.2.at_, v1.1, h, rfl⟩ rfl rfl
  · rintro σ' ⟨b6, l4, n5, l7, h, rfl⟩
    unfold Stream_Cells_j1 at h
    refine tSR <| rM rfl rfl <| rA rfl rfl <| rN <| ATodo.ret <| ?_
    obtain rfl := Option.some.inj h
    exact ImpX.here ⟨_, .cons (.tmp _ _ rfl) .nil, _, .cons .p0 (.cons .p0 .nil), ⟨b6, rfl, rfl⟩⟩

set_option maxHeartbeats 4000000 in
theorem Stream_Twin_c {b_0 : Bk} {p0x0 : Fleetmake_Stream} {r : TwinS × Fleetmake_Stream} (h : Stream_Twin p0x0 = some r) : ACall Tryz.prog 27 [.ptr b_0 0] [(b_0, .cells [.list 1 (p0x0.L.map I), I p0x0.at_])] (T0 ([(b_0, .cells [.list 1 (r.2.L.map I), I r.2.at_])]) (.agg [.list 8 (r.1.Desired.map Cell.av), .list 8 (r.1.Reported.map Cell.av)])) := by
  unfold Stream_Twin at h
  refine ACall.lessH ?_
  refine ACall.bodyN Tryz.func27 rfl Tryz.ntmps27 Tryz.results27 rfl rfl ?_
  refine tSR <| n_alloc rfl rfl rfl rfl fun b1 => rN <| tSR <| rM rfl rfl <| bndE h fun v2 e1 h => t_call1 rfl (Stream_Cells_c e1) (CoL.refl _) (.cons .p1 .nil) (fun _ => rfl) rfl fun b3 => rM rfl rfl <| bndE h fun v4 e2 h => t_call1 rfl (Stream_Cells_c e2) (CoL.refl _) (.cons .p0 .nil) (fun _ => rfl) rfl fun b5 => ARun.qv (n_build rfl rfl rfl rfl rfl) rfl <| n_store_ptr rfl rfl rfl rfl .p3 rfl rfl <| rN <| ATodo.ret <| ?_
  obtain rfl := Option.some.inj h
  exact ImpX.freeze .p2 <| ImpX.coBox (j := 0) .p3 rfl (Co.froT .p2) rfl rfl <| ImpX.freeze .p1 <| ImpX.coBox (j := 1) .p3 rfl (Co.froT .p1) rfl rfl <| ImpX.here ⟨_, .cons (.all _ _ _ _ _ _ rfl .p3 TUnder.h TInfo.h rfl rfl) .nil, _, .cons .p0 .nil, ⟨rfl, rfl⟩⟩

set_option maxHeartbeats 4000000 in
theorem base_Key_c [GI : GTab] {p0x0 : Str} {r : Bool} (h : base_Key p0x0 = some r) : Pu Tryz.prog 118 [.str p0x0] (.bool r) := by
  unfold base_Key at h
  refine ACall.bodyN Tryz.func118 rfl Tryz.ntmps118 Tryz.results118 rfl rfl ?_
  refine tSR <| rA rfl rfl <| rN <| tS <| tS <| ATodo.cut (fun σ' => ∃ (c1 : Bool), base_Key_j1 p0x0 c1 = some r ∧ σ' = ⟨54, [(0, .str p0x0), (21, .bool c1)], []⟩) ?_ ?_
  · refine tR <| rM rfl rfl <| ARun.qv (q_seq rfl rfl) rfl <| rM rfl rfl <| ARun.guard_df rfl rfl rfl (fun hc => ?_) (fun hc => ?_)
    · refine have h := iteF hc h; rM rfl rfl <| rY rfl rfl rfl <| ARun.qv (q_len_str rfl) rfl <| rY rfl rfl rfl <| ARun.qv (q_gtr rfl rfl) rfl <| rE rfl rfl rfl <| rM rfl rfl <| ARun.guard_df rfl rfl rfl (fun hc => ?_) (fun hc => ?_)
      · refine have h := iteF hc h; rM rfl rfl <| rY rfl rfl rfl <| bndE h fun c2 e1 h => ARun.qv (t_index_str rfl rfl e1) rfl <| rY rfl rfl rfl <| ARun.qv (q_lss rfl rfl) rfl <| rE rfl rfl rfl <| rM rfl rfl <| ARun.guard_df rfl rfl rfl (fun hc => ?_) (fun hc => ?_)
        · exact have h := iteF hc h; rM rfl rfl <| rY rfl rfl rfl <| bndE h fun c3 e2 h => ARun.qv (t_index_str rfl rfl e2) rfl <| rY rfl rfl rfl <| ARun.qv (q_gtr rfl rfl) rfl <| rE rfl rfl rfl <| rN <| ATodo.stop <| ImpX.lq [] ⟨decide ((122 : Int) < (c3.toNat : Int)), h, rfl⟩ rfl rfl
        · exact have h := iteT hc h; rG rfl rfl rfl rfl <| rG rfl rfl rfl rfl <| rT rfl rfl rfl <| rN <| ATodo.stop <| ImpX.lq [] ⟨true, h, rfl⟩ rfl rfl
      · exact have h := iteT hc h; rG rfl rfl rfl rfl <| rG rfl rfl rfl rfl <| rT rfl rfl rfl <| rM rfl rfl <| rG rfl rfl rfl rfl <| rG rfl rfl rfl rfl <| rG rfl rfl rfl rfl <| rT rfl rfl rfl <| rN <| ATodo.stop <| ImpX.lq [] ⟨true, h, rfl⟩ rfl rfl
    · exact have h := iteT hc h; rG rfl rfl rfl rfl <| rG rfl rfl rfl rfl <| rT rfl rfl rfl <| rM rfl rfl <| rG rfl rfl rfl rfl <| rG rfl rfl rfl rfl <| rG rfl rfl rfl rfl <| rT rfl rfl rfl <| rM rfl rfl <| rG rfl rfl rfl rfl <| rG rfl rfl rfl rfl <| rG rfl rfl rfl rfl <| rT rfl rfl rfl <| rN <| ATodo.stop <| ImpX.lq [] ⟨true, h, rfl⟩ rfl rfl
  · rintro σ' ⟨c1, h, rfl⟩
    unfold base_Key_j1 at h
    refine ATodo.cond rfl (fun hc => ?_) (fun hc => ?_)
    · refine have h := iteT hc h; tSR <| rA rfl rfl <| rN <| ATodo.ret <| ?_
      obtain rfl := Option.some.inj h
      exact ImpX.here ⟨_, .cons (.tmp _ _ rfl) .nil, rfl⟩
    · refine have h := iteFb hc h; tK <| tS <| tSR <| rM rfl rfl <| ARun.qv (q_len_str rfl) rfl <| rM rfl rfl <| rN <| ATodo.block <| ATodo.loopI (fun x : Int => base_Key_b1 p0x0 x) (fun x σ' => σ' = ⟨54, [(0, .str p0x0), (23, I (p0x0.length : Int)), (24, I x)], []⟩) h ?_ ?_
      · exact ImpX.lq [] rfl rfl rfl
      · intro n5 z1 σ' J1 hmk h hJ1 hA1
        obtain rfl := hmk
        replace h : base_Key_b1 p0x0 n5 = some z1 := h
        unfold base_Key_b1 at h
        refine tSR <| ARun.qv (q_lss rfl rfl) rfl <| rN <| tS <| ATodo.cond_d rfl (fun hc => ?_) (fun hc => ?_)
        · refine have h := iteT hc h; tK <| tS <| ATodo.block <| tSR <| rM rfl rfl <| rA rfl rfl <| rN <| tSR <| rM rfl rfl <| rM rfl rfl <| bndE h fun c6 e3 h => ARun.qv (t_index_str rfl rfl e3) rfl <| rA rfl rfl <| rN <| tS <| ATodo.cut (fun σ' => ∃ (c7 : Bool), base_Key_j2 n5 c7 = some z1 ∧ σ' = ⟨54, [(0, .str p0x0), (23, I (p0x0.length : Int)), (24, I n5), (52, .bool c7)], []⟩) ?_ ?_
          · refine tR <| rM rfl rfl <| ARun.qv (q_geq rfl rfl) rfl <| rM rfl rfl <| ARun.guard_dt rfl rfl rfl (fun hc => ?_) (fun hc => ?_)
            · rw [if_pos hc] at h
              refine rM rfl rfl <| rY rfl rfl rfl <| ARun.qv (q_leq rfl rfl) rfl <| rT rfl rfl rfl <| rM rfl rfl <| ARun.guard_df rfl rfl rfl (fun hc => ?_) (fun hc => ?_)
              · rw [if_neg hc] at h
                refine rM rfl rfl <| rY rfl rfl rfl <| ARun.qv (q_geq rfl rfl) rfl <| rY rfl rfl rfl <| rM rfl rfl <| ARun.guard_dt rfl rfl rfl (fun hc => ?_) (fun hc => ?_)
                · rw [if_pos hc] at h
                  refine rM rfl rfl <| rY rfl rfl rfl <| ARun.qv (q_leq rfl rfl) rfl <| rY rfl rfl rfl <| rT rfl rfl rfl <| rE rfl rfl rfl <| rM rfl rfl <| ARun.guard_df rfl rfl rfl (fun hc => ?_) (fun hc => ?_)
                  · rw [if_neg hc] at h
                    refine rM rfl rfl <| rY rfl rfl rfl <| ARun.qv (q_eql rfl rfl) rfl <| rE rfl rfl rfl <| rM rfl rfl <| ARun.guard_df rfl rfl rfl (fun hc => ?_) (fun hc => ?_)
                    · rw [if_neg hc] at h
                      exact rM rfl rfl <| rY rfl rfl rfl <| ARun.qv (q_eql rfl rfl) rfl <| rE rfl rfl rfl <| ARun.qv (q_not_d rfl) rfl <| rN <| ATodo.stop <| ImpX.lq [] ⟨decide (¬ ((c6.toNat : Int) = (95 : Int))), h, rfl⟩ rfl rfl
                    · rw [if_pos hc] at h
                      exact rG rfl rfl rfl rfl <| rT rfl rfl rfl <| ARun.qv (q_not rfl) rfl <| rN <| ATodo.stop <| ImpX.lq [] ⟨!true, h, rfl⟩ rfl rfl
                  · rw [if_pos hc] at h
                    exact rG rfl rfl rfl rfl <| rT rfl rfl rfl <| rM rfl rfl <| rG rfl rfl rfl rfl <| rG rfl rfl rfl rfl <| rT rfl rfl rfl <| ARun.qv (q_not rfl) rfl <| rN <| ATodo.stop <| ImpX.lq [] ⟨!true, h, rfl⟩ rfl rfl
                · rw [if_neg hc] at h
                  refine rG rfl rfl rfl rfl <| rY rfl rfl rfl <| rE rfl rfl rfl <| rE rfl rfl rfl <| rM rfl rfl <| rY rfl rfl rfl <| rM rfl rfl <| rY rfl rfl rfl <| ARun.qv (q_eql rfl rfl) rfl <| rE rfl rfl rfl <| rM rfl rfl <| ARun.guard_df rfl rfl rfl (fun hc => ?_) (fun hc => ?_)
                  · rw [if_neg hc] at h
                    exact rM rfl rfl <| rY rfl rfl rfl <| ARun.qv (q_eql rfl rfl) rfl <| rE rfl rfl rfl <| ARun.qv (q_not_d rfl) rfl <| rN <| ATodo.stop <| ImpX.lq [] ⟨decide (¬ ((c6.toNat : Int) = (95 : Int))), h, rfl⟩ rfl rfl
                  · rw [if_pos hc] at h
                    exact rG rfl rfl rfl rfl <| rT rfl rfl rfl <| ARun.qv (q_not rfl) rfl <| rN <| ATodo.stop <| ImpX.lq [] ⟨!true, h, rfl⟩ rfl rfl
              · rw [if_pos hc] at h
                exact rG rfl rfl rfl rfl <| rG rfl rfl rfl rfl <| ARun.guard_und rfl rfl rfl <| ARun.guard_und rfl rfl rfl <| rG rfl rfl rfl rfl <| rT rfl rfl rfl <| rM rfl rfl <| rG rfl rfl rfl rfl <| rG rfl rfl rfl rfl <| rT rfl rfl rfl <| rM rfl rfl <| rG rfl rfl rfl rfl <| rG rfl rfl rfl rfl <| rT rfl rfl rfl <| ARun.qv (q_not rfl) rfl <| rN <| ATodo.stop <| ImpX.lq [] ⟨!true, h, rfl⟩ rfl rfl
            · rw [if_neg hc] at h
              refine rG rfl rfl rfl rfl <| rE rfl rfl rfl <| rM rfl rfl <| rY rfl rfl rfl <| rM rfl rfl <| rY rfl rfl rfl <| ARun.qv (q_geq rfl rfl) rfl <| rY rfl rfl rfl <| rM rfl rfl <| ARun.guard_dt rfl rfl rfl (fun hc => ?_) (fun hc => ?_)
              · rw [if_pos hc] at h
                refine rM rfl rfl <| rY rfl rfl rfl <| ARun.qv (q_leq rfl rfl) rfl <| rY rfl rfl rfl <| rT rfl rfl rfl <| rE rfl rfl rfl <| rM rfl rfl <| ARun.guard_df rfl rfl rfl (fun hc => ?_) (fun hc => ?_)
                · rw [if_neg hc] at h
                  refine rM rfl rfl <| rY rfl rfl rfl <| ARun.qv (q_eql rfl rfl) rfl <| rE rfl rfl rfl <| rM rfl rfl <| ARun.guard_df rfl rfl rfl (fun hc => ?_) (fun hc => ?_)
                  · rw [if_neg hc] at h
                    exact rM rfl rfl <| rY rfl rfl rfl <| ARun.qv (q_eql rfl rfl) rfl <| rE rfl rfl rfl <| ARun.qv (q_not_d rfl) rfl <| rN <| ATodo.stop <| ImpX.lq [] ⟨decide (¬ ((c6.toNat : Int) = (95 : Int))), h, rfl⟩ rfl rfl
                  · rw [if_pos hc] at h
                    exact rG rfl rfl rfl rfl <| rT rfl rfl rfl <| ARun.qv (q_not rfl) rfl <| rN <| ATodo.stop <| ImpX.lq [] ⟨!true, h, rfl⟩ rfl rfl
                · rw [if_pos hc] at h
                  exact rG rfl rfl rfl rfl <| rT rfl rfl rfl <| rM rfl rfl <| rG rfl rfl rfl rfl <| rG rfl rfl rfl rfl <| rT rfl rfl rfl <| ARun.qv (q_not rfl) rfl <| rN <| ATodo.stop <| ImpX.lq [] ⟨!true, h, rfl⟩ rfl rfl
              · rw [if_neg hc] at h
                refine rG rfl rfl rfl rfl <| rY rfl rfl rfl <| rE rfl rfl rfl <| rE rfl rfl rfl <| rM rfl rfl <| rY rfl rfl rfl <| rM rfl rfl <| rY rfl rfl rfl <| ARun.qv (q_eql rfl rfl) rfl <| rE rfl rfl rfl <| rM rfl rfl <| ARun.guard_df rfl rfl rfl (fun hc => ?_) (fun hc => ?_)
                · rw [if_neg hc] at h
                  exact rM rfl rfl <| rY rfl rfl rfl <| ARun.qv (q_eql rfl rfl) rfl <| rE rfl rfl rfl <| ARun.qv (q_not_d rfl) rfl <| rN <| ATodo.stop <| ImpX.lq [] ⟨decide (¬ ((c6.toNat : Int) = (95 : Int))), h, rfl⟩ rfl rfl
                · rw [if_pos hc] at h
                  exact rG rfl rfl rfl rfl <| rT rfl rfl rfl <| ARun.qv (q_not rfl) rfl <| rN <| ATodo.stop <| ImpX.lq [] ⟨!true, h, rfl⟩ rfl rfl
          · rintro σ' ⟨c7, h, rfl⟩
            unfold base_Key_j2 at h
            refine ATodo.cond rfl (fun hc => ?_) (fun hc => ?_)
            · refine have h := iteT hc h; tSR <| rA rfl rfl <| rN <| ATodo.ret <| have h := outL h hA1; ?_
              obtain rfl := Option.some.inj h
              exact ImpX.here ⟨_, .cons (.tmp _ _ rfl) .nil, rfl⟩
            · refine have h := iteFb hc h; tK <| ATodo.blk <| tR <| ARun.qv (q_addw rfl rfl) rfl <| rM rfl rfl <| rN <| ATodo.stop <| ?_
              obtain rfl := Option.some.inj h
              exact hJ1 _ _ rfl <| ImpX.lq [] rfl rfl rfl
        · refine have h := iteF hc h; ATodo.exit rfl <| have h := outL h hA1; tSR <| rA rfl rfl <| rN <| ATodo.ret <| ?_
          obtain rfl := Option.some.inj h
          exact ImpX.here ⟨_, .cons (.tmp _ _ rfl) .nil, rfl⟩

set_option maxHeartbeats 4000000 in
theorem base_Dotted_c {p0x0 : Str} {p1x0 : Int} {r : Bool} (h : base_Dotted p0x0 p1x0 = some r) : Pu Tryz.prog 115 [.str p0x0, I p1x0] (.bool r) := by
  unfold base_Dotted at h
  refine ACall.bodyN Tryz.func115 rfl Tryz.ntmps115 Tryz.results115 rfl rfl ?_
  refine tSR <| rA rfl rfl <| rN <| tS <| tSR <| rA rfl rfl <| rN <| ATodo.block <| ATodo.loopI (fun x : Str × Int => base_Dotted_b1 p1x0 x.1 x.2) (fun x σ' => σ' = ⟨26, [(0, .str x.1), (1, I p1x0), (5, I x.2)], []⟩) h ?_ ?_
  · exact ImpX.lq [] rfl rfl rfl
  · intro x z1 σ' J1 hmk h hJ1 hA1
    obtain ⟨q3, n4⟩ := x
    obtain rfl := hmk
    replace h : base_Dotted_b1 p1x0 q3 n4 = some z1 := h
    unfold base_Dotted_b1 at h
    refine tS <| tSR <| rM rfl rfl <| rM rfl rfl <| ARun.qv (q_lss rfl rfl) rfl <| rN <| ATodo.cond_d rfl (fun hc => ?_) (fun hc => ?_)
    · refine have h := iteT hc h; tK <| tS <| ATodo.block <| tSR <| rM rfl rfl <| bndE h fun v5 e1 h => r_callp rfl (strings_Cut_c e1) (CoL.refl _) rfl <| rM rfl rfl <| rX rfl rfl rfl <| rX rfl rfl rfl <| rX rfl rfl rfl <| rA rfl rfl <| rA rfl rfl <| rA rfl rfl <| rN <| tS <| tSR <| rM rfl rfl <| bndE h fun v6 e2 h => r_callp rfl (base_Key_c e2) (CoL.refl _) rfl <| ARun.qv (q_not rfl) rfl <| rN <| ATodo.cond rfl (fun hc => ?_) (fun hc => ?_)
      · refine have h := iteT hc h; tSR <| rA rfl rfl <| rN <| ATodo.ret <| have h := outL h hA1; ?_
        obtain rfl := Option.some.inj h
        exact ImpX.here ⟨_, .cons (.tmp _ _ rfl) .nil, rfl⟩
      · refine have h := iteFb hc h; tK <| tS <| tSR <| rM rfl rfl <| ARun.qv (q_not rfl) rfl <| rN <| ATodo.cond rfl (fun hc => ?_) (fun hc => ?_)
        · refine have h := iteT hc h; tSR <| rA rfl rfl <| rN <| ATodo.ret <| have h := outL h hA1; ?_
          obtain rfl := Option.some.inj h
          exact ImpX.here ⟨_, .cons (.tmp _ _ rfl) .nil, rfl⟩
        · refine have h := iteFb hc h; tK <| tR <| rM rfl rfl <| rA rfl rfl <| rN <| ATodo.blk <| tR <| rM rfl rfl <| ARun.qv (q_addw rfl rfl) rfl <| rA rfl rfl <| rN <| ATodo.stop <| ?_
          obtain rfl := Option.some.inj h
          exact hJ1 _ _ rfl <| ImpX.lq [] rfl rfl rfl
    · refine have h := iteF hc h; ATodo.exit rfl <| have h := outL h hA1; tSR <| rA rfl rfl <| rN <| ATodo.ret <| ?_
      obtain rfl := Option.some.inj h
      exact ImpX.here ⟨_, .cons (.tmp _ _ rfl) .nil, rfl⟩

set_option maxHeartbeats 4000000 in
theorem twin_isName_c {p0x0 : Str} {r : Bool} (h : twin_isName p0x0 = some r) : Pu Tryz.prog 65 [.str p0x0] (.bool r) := by
  unfold twin_isName at h
  refine ACall.bodyN Tryz.func65 rfl Tryz.ntmps65 Tryz.results65 rfl rfl ?_
  refine tSR <| rA rfl rfl <| rN <| tSR <| rM rfl rfl <| bndE h fun v1 e1 h => r_callp rfl (base_Dotted_c e1) (CoL.refl _) rfl <| rA rfl rfl <| rN <| ATodo.ret <| ?_
  obtain rfl := Option.some.inj h
  exact ImpX.here ⟨_, .cons (.tmp _ _ rfl) .nil, rfl⟩

set_option maxHeartbeats 4000000 in
theorem base_Out_c [GI : GTab] {p0x0 : Int} {p1x0 : Int} {p2x0 : Int} {r : Bool} (h : base_Out p0x0 p1x0 p2x0 = r) : Pu Tryz.prog 46 [I p0x0, I p1x0, I p2x0] (.bool r) := by
  unfold base_Out at h
  refine ACall.bodyN Tryz.func46 rfl Tryz.ntmps46 Tryz.results46 rfl rfl ?_
  refine tSR <| rA rfl rfl <| rN <| tS <| ATodo.cut (fun σ' => ∃ (c1 : Bool), base_Out_j1 c1 = r ∧ σ' = ⟨15, [(6, .bool c1)], []⟩) ?_ ?_
  · refine tR <| rM rfl rfl <| rM rfl rfl <| ARun.qv (q_lss rfl rfl) rfl <| rM rfl rfl <| ARun.guard_df rfl rfl rfl (fun hc => ?_) (fun hc => ?_)
    · rw [orFd hc] at h
      exact rM rfl rfl <| rY rfl rfl rfl <| rM rfl rfl <| rY rfl rfl rfl <| ARun.qv (q_gtr rfl rfl) rfl <| rE rfl rfl rfl <| rA rfl rfl <| rN <| ATodo.stop <| ImpX.lq [] ⟨decide (p2x0 < p0x0), h, rfl⟩ rfl rfl
    · rw [orTd hc] at h
      exact rG rfl rfl rfl rfl <| rG rfl rfl rfl rfl <| rT rfl rfl rfl <| rA rfl rfl <| rN <| ATodo.stop <| ImpX.lq [] ⟨true, h, rfl⟩ rfl rfl
  · rintro σ' ⟨c1, h, rfl⟩
    unfold base_Out_j1 at h
    refine ATodo.ret <| ?_
    obtain rfl := h
    exact ImpX.here ⟨_, .cons (.tmp _ _ rfl) .nil, rfl⟩

set_option maxHeartbeats 4000000 in
theorem base_Unmarked_c {p0x0 : Str} {r : Bool} (h : base_Unmarked p0x0 = some r) : Pu Tryz.prog 116 [.str p0x0] (.bool r) := by
  unfold base_Unmarked at h
  refine ACall.bodyN Tryz.func116 rfl Tryz.ntmps116 Tryz.results116 rfl rfl ?_
  refine tSR <| rA rfl rfl <| rN <| tS <| tSR <| rM rfl rfl <| ARun.qv (q_len_str rfl) rfl <| rM rfl rfl <| rN <| ATodo.block <| ATodo.loopI (fun x : Int => base_Unmarked_b1 p0x0 x) (fun x σ' => σ' = ⟨22, [(0, .str p0x0), (5, I (p0x0.length : Int)), (6, I x)], []⟩) h ?_ ?_
  · exact ImpX.lq [] rfl rfl rfl
  · intro n2 z1 σ' J1 hmk h hJ1 hA1
    obtain rfl := hmk
    replace h : base_Unmarked_b1 p0x0 n2 = some z1 := h
    unfold base_Unmarked_b1 at h
    refine tSR <| ARun.qv (q_lss rfl rfl) rfl <| rN <| tS <| ATodo.cond_d rfl (fun hc => ?_) (fun hc => ?_)
    · refine have h := iteT hc h; tK <| tS <| ATodo.block <| tSR <| rM rfl rfl <| rA rfl rfl <| rN <| tS <| ATodo.cut (fun σ' => ∃ (c3 : Bool), base_Unmarked_j1 n2 c3 = some z1 ∧ σ' = ⟨22, [(0, .str p0x0), (5, I (p0x0.length : Int)), (6, I n2), (18, .bool c3)], []⟩) ?_ ?_
      · refine tR <| rM rfl rfl <| rM rfl rfl <| bndE h fun c4 e1 h => ARun.qv (t_index_str rfl rfl e1) rfl <| ARun.qv (q_lss rfl rfl) rfl <| rM rfl rfl <| ARun.guard_df rfl rfl rfl (fun hc => ?_) (fun hc => ?_)
        · exact have h := iteF hc h; rM rfl rfl <| rY rfl rfl rfl <| rM rfl rfl <| rY rfl rfl rfl <| bndE h fun c5 e2 h => ARun.qv (t_index_str rfl rfl e2) rfl <| rY rfl rfl rfl <| ARun.qv (q_eql rfl rfl) rfl <| rE rfl rfl rfl <| rN <| ATodo.stop <| ImpX.lq [] ⟨decide ((c5.toNat : Int) = (127 : Int)), h, rfl⟩ rfl rfl
        · exact have h := iteT hc h; rG rfl rfl rfl rfl <| rG rfl rfl rfl rfl <| rG rfl rfl rfl rfl <| rT rfl rfl rfl <| rN <| ATodo.stop <| ImpX.lq [] ⟨true, h, rfl⟩ rfl rfl
      · rintro σ' ⟨c3, h, rfl⟩
        unfold base_Unmarked_j1 at h
        refine ATodo.cond rfl (fun hc => ?_) (fun hc => ?_)
        · refine have h := iteT hc h; tSR <| rA rfl rfl <| rN <| ATodo.ret <| have h := outL h hA1; ?_
          obtain rfl := Option.some.inj h
          exact ImpX.here ⟨_, .cons (.tmp _ _ rfl) .nil, rfl⟩
        · refine have h := iteFb hc h; tK <| ATodo.blk <| tR <| ARun.qv (q_addw rfl rfl) rfl <| rM rfl rfl <| rN <| ATodo.stop <| ?_
          obtain rfl := Option.some.inj h
          exact hJ1 _ _ rfl <| ImpX.lq [] rfl rfl rfl
    · refine have h := iteF hc h; ATodo.exit rfl <| have h := outL h hA1; ?_
      unfold base_Unmarked_k2 at h
      refine tSR <| rM rfl rfl <| bndE h fun v6 e3 h => r_callp rfl (utf8_ValidString_c e3) (CoL.refl _) rfl <| rA rfl rfl <| rN <| ATodo.ret <| ?_
      obtain rfl := Option.some.inj h
      exact ImpX.here ⟨_, .cons (.tmp _ _ rfl) .nil, rfl⟩

set_option maxHeartbeats 4000000 in
theorem twin_valueFault_c {p0x0 : ValueS} {r : Int} (h : twin_valueFault p0x0 = some r) : Pu Tryz.prog 66 [.agg [I p0x0.Kind, .bool p0x0.Flag, I p0x0.Number, .str p0x0.Words]] (I r) := by
  unfold twin_valueFault at h
  refine ACall.bodyN Tryz.func66 rfl Tryz.ntmps66 Tryz.results66 rfl rfl ?_
  refine tSR <| n_box rfl rfl rfl rfl fun b1 => rA rfl rfl <| rN <| tSR <| rF rfl rfl rfl <| rL rfl rfl .p0 rfl rfl <| ARun.qv (n_build rfl rfl rfl rfl rfl) rfl <| n_alloc rfl rfl rfl rfl fun b2 => n_store_ptr rfl rfl rfl rfl .p0 rfl rfl <| rN <| tS <| tSR <| rF rfl rfl rfl <| rL rfl rfl .p1 rfl rfl <| rN <| ATodo.block <| tSR <| ARun.qv (q_eql rfl rfl) rfl <| rA rfl rfl <| rN <| ATodo.cut (fun σ' => ∃ (c3 : Bool) (n4 : Int) (q5 : Str), twin_valueFault_j1 p0x0 c3 n4 q5 = some r ∧ σ' = ⟨44, [(1, .ptr b1 0), (3, .ptr b2 0)], [(b1, .cells [I p0x0.Kind, .bool p0x0.Flag, I p0x0.Number, .str p0x0.Words]), (b2, .cells [I p0x0.Kind, .bool c3, I n4, .str q5])]⟩) ?_ ?_
  · refine ATodo.cond_d rfl (fun hc => ?_) (fun hc => ?_)
    · exact have h := iteT hc h; tK <| ATodo.stop <| ImpX.lq [1, 0] ⟨false, (0 : Int), [], h, rfl⟩ rfl rfl
    · refine have h := iteF hc h; tSR <| ARun.qv (q_eql rfl rfl) rfl <| rA rfl rfl <| rN <| ATodo.cut (fun σ' => ∃ (c6 : Bool) (n7 : Int) (q8 : Str), twin_valueFault_j2 p0x0 c6 n7 q8 = some r ∧ σ' = ⟨44, [(1, .ptr b1 0), (3, .ptr b2 0)], [(b1, .cells [I p0x0.Kind, .bool p0x0.Flag, I p0x0.Number, .str p0x0.Words]), (b2, .cells [I p0x0.Kind, .bool c6, I n7, .str q8])]⟩) ?_ ?_
      · refine ATodo.cond_d rfl (fun hc => ?_) (fun hc => ?_)
        · exact have h := iteT hc h; tR <| rF rfl rfl rfl <| rL rfl rfl .p1 rfl rfl <| rF rfl rfl rfl <| n_store_ptr rfl rfl rfl rfl .p0 rfl rfl <| rN <| ATodo.stop <| ImpX.lq [1, 0] ⟨p0x0.Flag, (0 : Int), [], h, rfl⟩ rfl rfl
        · refine have h := iteF hc h; tSR <| ARun.qv (q_eql rfl rfl) rfl <| rA rfl rfl <| rN <| ATodo.cut (fun σ' => ∃ (n9 : Int) (q10 : Str), twin_valueFault_j3 p0x0 n9 q10 = some r ∧ σ' = ⟨44, [(1, .ptr b1 0), (3, .ptr b2 0)], [(b1, .cells [I p0x0.Kind, .bool p0x0.Flag, I p0x0.Number, .str p0x0.Words]), (b2, .cells [I p0x0.Kind, .bool false, I n9, .str q10])]⟩) ?_ ?_
          · refine ATodo.cond_d rfl (fun hc => ?_) (fun hc => ?_)
            · exact have h := iteT hc h; tR <| rF rfl rfl rfl <| rL rfl rfl .p1 rfl rfl <| rF rfl rfl rfl <| n_store_ptr rfl rfl rfl rfl .p0 rfl rfl <| rN <| ATodo.stop <| ImpX.lq [1, 0] ⟨p0x0.Number, [], h, rfl⟩ rfl rfl
            · refine have h := iteF hc h; tSR <| ARun.qv (q_eql rfl rfl) rfl <| rA rfl rfl <| rN <| ATodo.cond_d rfl (fun hc => ?_) (fun hc => ?_)
              · exact have h := iteT hc h; tR <| rF rfl rfl rfl <| rL rfl rfl .p1 rfl rfl <| rF rfl rfl rfl <| n_store_ptr rfl rfl rfl rfl .p0 rfl rfl <| rN <| ATodo.stop <| ImpX.lq [1, 0] ⟨(0 : Int), p0x0.Words, h, rfl⟩ rfl rfl
              · refine have h := iteF hc h; tSR <| rA rfl rfl <| rN <| ATodo.ret <| ?_
                obtain rfl := Option.some.inj h
                exact ImpX.here ⟨_, .cons (.tmp _ _ rfl) .nil, rfl⟩
          · rintro σ' ⟨n9, q10, h, rfl⟩
            unfold twin_valueFault_j3 at h
            exact ATodo.stop <| ImpX.lq [0, 0] ⟨false, n9, q10, h, rfl⟩ rfl rfl
      · rintro σ' ⟨c6, n7, q8, h, rfl⟩
        unfold twin_valueFault_j2 at h
        exact ATodo.stop <| ImpX.lq [0, 0] ⟨c6, n7, q8, h, rfl⟩ rfl rfl
  · rintro σ' ⟨c3, n4, q5, h, rfl⟩
    unfold twin_valueFault_j1 at h
    refine ATodo.blk <| tS <| ATodo.block <| tSR <| ARun.qv (q_load_ptr_all rfl rfl .p0 rfl) rfl <| ARun.qv (q_load_ptr_all rfl rfl .p1 rfl) rfl <| ARun.qv (t_tne (g := ValueS.av) (X := p0x0) (Y := (⟨p0x0.Kind, c3, n4, q5⟩ : ValueS)) rfl rfl rfl rfl rfl) rfl <| rA rfl rfl <| rN <| ATodo.cond_d rfl (fun hc => ?_) (fun hc => ?_)
    · refine have h := iteT hc h; tSR <| rA rfl rfl <| rN <| ATodo.ret <| ?_
      obtain rfl := Option.some.inj h
      exact ImpX.here ⟨_, .cons (.tmp _ _ rfl) .nil, rfl⟩
    · refine have h := iteF hc h; tSR <| rF rfl rfl rfl <| rL rfl rfl .p0 rfl rfl <| r_callp rfl (base_Out_c rfl) (CoL.refl _) rfl <| rA rfl rfl <| rN <| ATodo.cond rfl (fun hc => ?_) (fun hc => ?_)
      · refine have h := iteT hc h; tSR <| rA rfl rfl <| rN <| ATodo.ret <| ?_
        obtain rfl := Option.some.inj h
        exact ImpX.here ⟨_, .cons (.tmp _ _ rfl) .nil, rfl⟩
      · refine have h := iteFb hc h; tSR <| rF rfl rfl rfl <| rL rfl rfl .p0 rfl rfl <| ARun.qv (q_len_str rfl) rfl <| ARun.qv (q_gtr rfl rfl) rfl <| rA rfl rfl <| rN <| ATodo.cond_d rfl (fun hc => ?_) (fun hc => ?_)
        · refine have h := iteT hc h; tSR <| rA rfl rfl <| rN <| ATodo.ret <| ?_
          obtain rfl := Option.some.inj h
          exact ImpX.here ⟨_, .cons (.tmp _ _ rfl) .nil, rfl⟩
        · refine have h := iteF hc h; tSR <| rF rfl rfl rfl <| rL rfl rfl .p0 rfl rfl <| bndE h fun v11 e1 h => r_callp rfl (base_Unmarked_c e1) (CoL.refl _) rfl <| ARun.qv (q_not rfl) rfl <| rA rfl rfl <| rN <| ATodo.cond rfl (fun hc => ?_) (fun hc => ?_)
          · refine have h := iteT hc h; tSR <| rA rfl rfl <| rN <| ATodo.ret <| ?_
            obtain rfl := Option.some.inj h
            exact ImpX.here ⟨_, .cons (.tmp _ _ rfl) .nil, rfl⟩
          · refine have h := iteFb hc h; tK <| ATodo.blk <| tSR <| rA rfl rfl <| rN <| ATodo.ret <| ?_
            obtain rfl := Option.some.inj h
            exact ImpX.here ⟨_, .cons (.tmp _ _ rfl) .nil, rfl⟩

set_option maxHeartbeats 4000000 in
theorem base_Moment_c [GI : GTab] {p0x0 : Int} {r : Bool} (h : base_Moment p0x0 = r) : Pu Tryz.prog 117 [I p0x0] (.bool r) := by
  unfold base_Moment at h
  refine ACall.bodyN Tryz.func117 rfl Tryz.ntmps117 Tryz.results117 rfl rfl ?_
  refine tSR <| rA rfl rfl <| rN <| tSR <| rM rfl rfl <| r_callp rfl (base_Out_c rfl) (CoL.refl _) rfl <| ARun.qv (q_not rfl) rfl <| rA rfl rfl <| rN <| ATodo.ret <| ?_
  obtain rfl := h
  exact ImpX.here ⟨_, .cons (.tmp _ _ rfl) .nil, rfl⟩

set_option maxHeartbeats 4000000 in
theorem twin_stampFault_c [GI : GTab] {p0x0 : Stamp} {r : Int} (h : twin_stampFault p0x0 = some r) : Pu Tryz.prog 67 [.agg [I p0x0.At, .str p0x0.By, I p0x0.No]] (I r) := by
  unfold twin_stampFault at h
  refine ACall.bodyN Tryz.func67 rfl Tryz.ntmps67 Tryz.results67 rfl rfl ?_
  refine tSR <| n_box rfl rfl rfl rfl fun b1 => rA rfl rfl <| rN <| tS <| ATodo.block <| tSR <| rF rfl rfl rfl <| rL rfl rfl .p0 rfl rfl <| r_callp rfl (base_Moment_c rfl) (CoL.refl _) rfl <| ARun.qv (q_not rfl) rfl <| rA rfl rfl <| rN <| ATodo.cond rfl (fun hc => ?_) (fun hc => ?_)
  · refine have h := iteT hc h; tSR <| rA rfl rfl <| rN <| ATodo.ret <| ?_
    obtain rfl := Option.some.inj h
    exact ImpX.here ⟨_, .cons (.tmp _ _ rfl) .nil, rfl⟩
  · refine have h := iteFb hc h; tSR <| rF rfl rfl rfl <| rL rfl rfl .p0 rfl rfl <| bndE h fun v2 e1 h => r_callp rfl (base_Key_c e1) (CoL.refl _) rfl <| ARun.qv (q_not rfl) rfl <| rA rfl rfl <| rN <| ATodo.cond rfl (fun hc => ?_) (fun hc => ?_)
    · refine have h := iteT hc h; tSR <| rA rfl rfl <| rN <| ATodo.ret <| ?_
      obtain rfl := Option.some.inj h
      exact ImpX.here ⟨_, .cons (.tmp _ _ rfl) .nil, rfl⟩
    · refine have h := iteFb hc h; tSR <| rF rfl rfl rfl <| rL rfl rfl .p0 rfl rfl <| r_callp rfl (base_Out_c rfl) (CoL.refl _) rfl <| rA rfl rfl <| rN <| ATodo.cond rfl (fun hc => ?_) (fun hc => ?_)
      · refine have h := iteT hc h; tSR <| rA rfl rfl <| rN <| ATodo.ret <| ?_
        obtain rfl := Option.some.inj h
        exact ImpX.here ⟨_, .cons (.tmp _ _ rfl) .nil, rfl⟩
      · refine have h := iteFb hc h; tK <| ATodo.blk <| tSR <| rA rfl rfl <| rN <| ATodo.ret <| ?_
        obtain rfl := Option.some.inj h
        exact ImpX.here ⟨_, .cons (.tmp _ _ rfl) .nil, rfl⟩

set_option maxHeartbeats 4000000 in
theorem base_First_c [GI : GTab] {p0x0 : List Int} {r : Int} (h : base_First p0x0 = some r) : Pu Tryz.prog 63 [.list 1 (p0x0.map I)] (I r) := by
  unfold base_First at h
  refine ACall.bodyN Tryz.func63 rfl Tryz.ntmps63 Tryz.results63 rfl rfl ?_
  refine tSR <| rA rfl rfl <| rN <| tS <| tSR <| rM rfl rfl <| ARun.qv (t_len rfl) rfl <| rM rfl rfl <| rN <| ATodo.block <| ATodo.loopI (fun x : Int => base_First_b1 p0x0 x) (fun x σ' => σ' = ⟨15, [(5, .list 1 (p0x0.map I)), (6, I (p0x0.length : Int)), (7, I x)], []⟩) h ?_ ?_
  · exact ImpX.lq [] rfl rfl rfl
  · intro n2 z1 σ' J1 hmk h hJ1 hA1
    obtain rfl := hmk
    replace h : base_First_b1 p0x0 n2 = some z1 := h
    unfold base_First_b1 at h
    refine tSR <| ARun.qv (q_lss rfl rfl) rfl <| rN <| tS <| ATodo.cond_d rfl (fun hc => ?_) (fun hc => ?_)
    · refine have h := iteT hc h; tK <| tS <| ATodo.block <| tSR <| bndE h fun v3 e1 h => ARun.qv (t_index rfl rfl rfl e1 rfl rfl) rfl <| ARun.qv (q_load_rptr rfl rfl rfl) rfl <| rA rfl rfl <| rN <| tSR <| rM rfl rfl <| ARun.qv (q_neq rfl rfl) rfl <| rN <| ATodo.cond_d rfl (fun hc => ?_) (fun hc => ?_)
      · refine have h := iteT hc h; tSR <| rM rfl rfl <| rA rfl rfl <| rN <| ATodo.ret <| have h := outL h hA1; ?_
        obtain rfl := Option.some.inj h
        exact ImpX.here ⟨_, .cons (.tmp _ _ rfl) .nil, rfl⟩
      · refine have h := iteF hc h; tK <| ATodo.blk <| tR <| ARun.qv (q_addw rfl rfl) rfl <| rM rfl rfl <| rN <| ATodo.stop <| ?_
        obtain rfl := Option.some.inj h
        exact hJ1 _ _ rfl <| ImpX.lq [] rfl rfl rfl
    · refine have h := iteF hc h; ATodo.exit rfl <| have h := outL h hA1; tSR <| rA rfl rfl <| rN <| ATodo.ret <| ?_
      obtain rfl := Option.some.inj h
      exact ImpX.here ⟨_, .cons (.tmp _ _ rfl) .nil, rfl⟩

set_option maxHeartbeats 4000000 in
theorem twin_CheckCells_c {p0x0 : List Cell} {r : Int} (h : twin_CheckCells p0x0 = some r) : Pu Tryz.prog 24 [.list 8 (p0x0.map Cell.av)] (I r) := by
  unfold twin_CheckCells at h
  refine ACall.bodyN Tryz.func24 rfl Tryz.ntmps24 Tryz.results24 rfl rfl ?_
  refine tSR <| rA rfl rfl <| rN <| tS <| tSR <| rM rfl rfl <| ARun.qv (t_len rfl) rfl <| ARun.qv (q_gtr rfl rfl) rfl <| rN <| ATodo.cond_d rfl (fun hc => ?_) (fun hc => ?_)
  · refine have h := iteT hc h; tSR <| rA rfl rfl <| rN <| ATodo.ret <| ?_
    obtain rfl := Option.some.inj h
    exact ImpX.here ⟨_, .cons (.tmp _ _ rfl) .nil, rfl⟩
  · refine have h := iteF hc h; tK <| tS <| tSR <| rM rfl rfl <| ARun.qv (t_len rfl) rfl <| rM rfl rfl <| rN <| ATodo.block <| ATodo.loopI (fun x : Int => twin_CheckCells_b1 p0x0 x) (fun x σ' => σ' = ⟨49, [(0, .list 8 (p0x0.map Cell.av)), (9, .list 8 (p0x0.map Cell.av)), (10, I (p0x0.length : Int)), (11, I x)], []⟩) h ?_ ?_
    · exact ImpX.lq [] rfl rfl rfl
    · intro n2 z1 σ' J1 hmk h hJ1 hA1
      obtain rfl := hmk
      replace h : twin_CheckCells_b1 p0x0 n2 = some z1 := h
      unfold twin_CheckCells_b1 at h
      refine tSR <| ARun.qv (q_lss rfl rfl) rfl <| rN <| tS <| ATodo.cond_d rfl (fun hc => ?_) (fun hc => ?_)
      · refine have h := iteT hc h; tK <| tS <| ATodo.block <| tSR <| rM rfl rfl <| bndE h fun v3 e1 h => ARun.qv (t_index rfl rfl rfl e1 rfl rfl) rfl <| ARun.qv (q_load_rptr_agg rfl rfl rfl) rfl <| n_alloc rfl rfl rfl rfl fun b4 => rA rfl rfl <| n_store_ptr rfl rfl rfl rfl .p0 rfl rfl <| rN <| tS <| tSR <| rF rfl rfl rfl <| rF rfl rfl rfl <| rL rfl rfl .p0 rfl rfl <| bndE h fun v5 e2 h => r_callp rfl (twin_isName_c e2) (CoL.refl _) rfl <| ARun.qv (q_not rfl) rfl <| rN <| ATodo.cond rfl (fun hc => ?_) (fun hc => ?_)
        · refine have h := iteT hc h; tSR <| rA rfl rfl <| rN <| ATodo.ret <| have h := outL h hA1; ?_
          obtain rfl := Option.some.inj h
          exact ImpX.here ⟨_, .cons (.tmp _ _ rfl) .nil, rfl⟩
        · refine have h := iteFb hc h; tK <| tS <| tS <| ATodo.regionM (id := 8) (A := [0, 1, 3, 7, 0, 16, 63, 127, 255, 511]) 10 mixed rfl (by kernel_rfl) (by kernel_rfl) <| AM.qv (n_field_ptr rfl rfl) rfl <| AM.qv (n_field_ptr rfl rfl) rfl <| AM.qv (n_load_ptr_part rfl rfl .p0 rfl rfl) rfl <| bndE h fun v6 e3 h => AM.callp rfl (twin_valueFault_c e3) (CoL.refl _) rfl <| AM.qv (n_field_ptr rfl rfl) rfl <| AM.qv (n_load_ptr_part rfl rfl .p0 rfl rfl) rfl <| bndE h fun v7 e4 h => AM.callp rfl (twin_stampFault_c e4) (CoL.refl _) rfl <| AM.buildSliceL (xs := ([v6, v7] : List Int).map I) rfl rfl rfl rfl rfl rfl <| bndE h fun v8 e5 h => AM.callp rfl (base_First_c e5) (CoL.refl _) rfl <| AM.qv (q_assign rfl) rfl <| AM.nil <| rN <| tSR <| rM rfl rfl <| ARun.qv (q_neq rfl rfl) rfl <| rN <| ATodo.cond_d rfl (fun hc => ?_) (fun hc => ?_)
          · refine have h := iteT hc h; tSR <| rM rfl rfl <| rA rfl rfl <| rN <| ATodo.ret <| have h := outL h hA1; ?_
            obtain rfl := Option.some.inj h
            exact ImpX.here ⟨_, .cons (.tmp _ _ rfl) .nil, rfl⟩
          · refine have h := iteF hc h; tK <| tS <| ATodo.cut (fun σ' => ∃ (c9 : Bool), twin_CheckCells_j1 n2 c9 = some z1 ∧ σ' = ⟨49, [(0, .list 8 (p0x0.map Cell.av)), (9, .list 8 (p0x0.map Cell.av)), (10, I (p0x0.length : Int)), (11, I n2), (47, .bool c9)], []⟩) ?_ ?_
            · refine ATodo.regionM (id := 11) (A := [0, 1, 3, 7, 15, 31, 7, 7, 135, 455, 967, 1991, 4039, 8191, 16383]) 15 mixed rfl (by kernel_rfl) (by kernel_rfl) <| AM.qv (q_move rfl) rfl <| AM.qv (q_gtr rfl rfl) rfl <| AM.qv (q_move rfl) rfl <| AM.guard_dt rfl rfl rfl (fun hc => ?_) (fun hc => ?_)
              · exact have h := iteT hc h; AM.qv (n_field_ptr rfl rfl) rfl <| AM.guard_yes rfl rfl rfl <| AM.qv (n_field_ptr rfl rfl) rfl <| AM.guard_yes rfl rfl rfl <| AM.qv (q_load_ptr rfl rfl .p0 rfl) rfl <| AM.guard_yes rfl rfl rfl <| AM.qv (q_move rfl) rfl <| AM.guard_yes rfl rfl rfl <| AM.qv (q_move rfl) rfl <| AM.guard_yes rfl rfl rfl <| AM.qv (q_subw rfl rfl) rfl <| AM.guard_yes rfl rfl rfl <| bndE h fun v10 e6 h => AM.qv (t_index rfl rfl rfl e6 rfl rfl) rfl <| AM.guard_yes rfl rfl rfl <| AM.qv (n_field_rptr rfl rfl) rfl <| AM.guard_yes rfl rfl rfl <| AM.qv (n_field_rptr rfl rfl) rfl <| AM.guard_yes rfl rfl rfl <| AM.qv (q_load_rptr rfl rfl rfl) rfl <| AM.guard_yes rfl rfl rfl <| AM.qv (t_sleq rfl rfl) rfl <| AM.qv (q_pick_t rfl rfl) rfl <| AM.nil <| rN <| ATodo.stop <| ImpX.lq [] ⟨Op.bytesLess v3.Prop_.Name v10.Prop_.Name || v3.Prop_.Name == v10.Prop_.Name, h, rfl⟩ rfl rfl
              · exact have h := iteF hc h; AM.guard_no rfl rfl rfl rfl <| AM.guard_no rfl rfl rfl rfl <| AM.guard_no rfl rfl rfl rfl <| AM.guard_no rfl rfl rfl rfl <| AM.guard_no rfl rfl rfl rfl <| AM.guard_no rfl rfl rfl rfl <| AM.guard_no rfl rfl rfl rfl <| AM.guard_no rfl rfl rfl rfl <| AM.guard_no rfl rfl rfl rfl <| AM.guard_no rfl rfl rfl rfl <| AM.qv (q_pick_f rfl rfl) rfl <| AM.nil <| rN <| ATodo.stop <| ImpX.lq [] ⟨false, h, rfl⟩ rfl rfl
            · rintro σ' ⟨c9, h, rfl⟩
              unfold twin_CheckCells_j1 at h
              refine ATodo.cond rfl (fun hc => ?_) (fun hc => ?_)
              · refine have h := iteT hc h; tSR <| rA rfl rfl <| rN <| ATodo.ret <| have h := outL h hA1; ?_
                obtain rfl := Option.some.inj h
                exact ImpX.here ⟨_, .cons (.tmp _ _ rfl) .nil, rfl⟩
              · refine have h := iteFb hc h; tK <| ATodo.blk <| tR <| ARun.qv (q_addw rfl rfl) rfl <| rM rfl rfl <| rN <| ATodo.stop <| ?_
                obtain rfl := Option.some.inj h
                exact hJ1 _ _ rfl <| ImpX.lq [] rfl rfl rfl
      · refine have h := iteF hc h; ATodo.exit rfl <| have h := outL h hA1; tSR <| rA rfl rfl <| rN <| ATodo.ret <| ?_
        obtain rfl := Option.some.inj h
        exact ImpX.here ⟨_, .cons (.tmp _ _ rfl) .nil, rfl⟩

set_option maxHeartbeats 4000000 in
theorem twin_twinFault_c {p0x0 : TwinS} {r : Int} (h : twin_twinFault p0x0 = some r) : Pu Tryz.prog 74 [.agg [.list 8 (p0x0.Desired.map Cell.av), .list 8 (p0x0.Reported.map Cell.av)]] (I r) := by
  unfold twin_twinFault at h
  refine ACall.bodyN Tryz.func74 rfl Tryz.ntmps74 Tryz.results74 rfl rfl ?_
  refine tSR <| n_box rfl rfl rfl rfl fun b1 => rA rfl rfl <| rN <| tS <| ATodo.regionM (id := 1) (A := [0, 1, 3, 0, 8, 31, 63, 127, 255]) 9 mixed rfl (by kernel_rfl) (by kernel_rfl) <| AM.qv (n_field_ptr rfl rfl) rfl <| AM.qv (q_load_ptr rfl rfl .p0 rfl) rfl <| bndE h fun v2 e1 h => AM.callp rfl (twin_CheckCells_c e1) (CoL.refl _) rfl <| AM.qv (n_field_ptr rfl rfl) rfl <| AM.qv (q_load_ptr rfl rfl .p0 rfl) rfl <| bndE h fun v3 e2 h => AM.callp rfl (twin_CheckCells_c e2) (CoL.refl _) rfl <| AM.buildSliceL (xs := ([v2, v3] : List Int).map I) rfl rfl rfl rfl rfl rfl <| bndE h fun v4 e3 h => AM.callp rfl (base_First_c e3) (CoL.refl _) rfl <| AM.qv (q_assign rfl) rfl <| AM.nil <| rN <| ATodo.ret <| ?_
  obtain rfl := Option.some.inj h
  exact ImpX.here ⟨_, .cons (.tmp _ _ rfl) .nil, rfl⟩

set_option maxHeartbeats 4000000 in
theorem twin_every_c [GI : GTab] {p0x0 : Cell} {r : Bool} (h : twin_every p0x0 = r) : Pu Tryz.prog 75 [.agg [.str p0x0.Prop_.Name, I p0x0.Prop_.Value.Kind, .bool p0x0.Prop_.Value.Flag, I p0x0.Prop_.Value.Number, .str p0x0.Prop_.Value.Words, I p0x0.Stamp.At, .str p0x0.Stamp.By, I p0x0.Stamp.No]] (.bool r) := by
  unfold twin_every at h
  refine ACall.bodyN Tryz.func75 rfl Tryz.ntmps75 Tryz.results75 rfl rfl ?_
  refine tSR <| n_box rfl rfl rfl rfl fun b1 => rA rfl rfl <| rN <| tSR <| rA rfl rfl <| rN <| ATodo.ret <| ?_
  obtain rfl := h
  exact ImpX.here ⟨_, .cons (.tmp _ _ rfl) .nil, rfl⟩

set_option maxHeartbeats 4000000 in
theorem base_Below_c [GI : GTab] {p0x0 : Str} {p1x0 : Str} {r : Bool} (h : base_Below p0x0 p1x0 = some r) : Pu Tryz.prog 50 [.str p0x0, .str p1x0] (.bool r) := by
  unfold base_Below at h
  refine ACall.bodyN Tryz.func50 rfl Tryz.ntmps50 Tryz.results50 rfl rfl ?_
  refine tSR <| rA rfl rfl <| rN <| tS <| ATodo.cut (fun σ' => ∃ (c1 : Bool), base_Below_j1 c1 = some r ∧ σ' = ⟨25, [(4, .bool c1)], []⟩) ?_ ?_
  · refine tR <| rM rfl rfl <| ARun.qv (q_len_str rfl) rfl <| rM rfl rfl <| ARun.qv (q_len_str rfl) rfl <| ARun.qv (q_gtr rfl rfl) rfl <| rM rfl rfl <| ARun.guard_dt rfl rfl rfl (fun hc => ?_) (fun hc => ?_)
    · refine have h := iteT hc h; rM rfl rfl <| rY rfl rfl rfl <| rM rfl rfl <| rY rfl rfl rfl <| ARun.qv (q_len_str rfl) rfl <| rY rfl rfl rfl <| bndE h fun c2 e1 h => ARun.qv (t_index_str rfl rfl e1) rfl <| rY rfl rfl rfl <| ARun.qv (q_eql rfl rfl) rfl <| rT rfl rfl rfl <| rM rfl rfl <| ARun.guard_dt rfl rfl rfl (fun hc => ?_) (fun hc => ?_)
      · exact have h := iteT hc h; rM rfl rfl <| rY rfl rfl rfl <| rM rfl rfl <| rY rfl rfl rfl <| ARun.qv (q_len_str rfl) rfl <| rY rfl rfl rfl <| bndE h fun l3 e2 h => ARun.qv (t_slice_str rfl .none (.some _ _ _ rfl) rfl rfl e2) rfl <| rY rfl rfl rfl <| rM rfl rfl <| rY rfl rfl rfl <| ARun.qv (q_seq rfl rfl) rfl <| rT rfl rfl rfl <| rA rfl rfl <| rN <| ATodo.stop <| ImpX.lq [] ⟨decide (l3 = p1x0), h, rfl⟩ rfl rfl
      · exact have h := iteF hc h; rG rfl rfl rfl rfl <| rG rfl rfl rfl rfl <| rG rfl rfl rfl rfl <| rG rfl rfl rfl rfl <| rG rfl rfl rfl rfl <| rE rfl rfl rfl <| rA rfl rfl <| rN <| ATodo.stop <| ImpX.lq [] ⟨false, h, rfl⟩ rfl rfl
    · exact have h := iteF hc h; rG rfl rfl rfl rfl <| rG rfl rfl rfl rfl <| rG rfl rfl rfl rfl <| rG rfl rfl rfl rfl <| rE rfl rfl rfl <| rM rfl rfl <| rG rfl rfl rfl rfl <| rG rfl rfl rfl rfl <| rG rfl rfl rfl rfl <| rG rfl rfl rfl rfl <| rG rfl rfl rfl rfl <| rG rfl rfl rfl rfl <| rE rfl rfl rfl <| rA rfl rfl <| rN <| ATodo.stop <| ImpX.lq [] ⟨false, h, rfl⟩ rfl rfl
  · rintro σ' ⟨c1, h, rfl⟩
    unfold base_Below_j1 at h
    refine ATodo.ret <| ?_
    obtain rfl := Option.some.inj h
    exact ImpX.here ⟨_, .cons (.tmp _ _ rfl) .nil, rfl⟩

set_option maxHeartbeats 4000000 in
theorem cmp_isNaN_int_c [GI : GTab] {p0x0 : Int} {r : Bool} (h : cmp_isNaN_int p0x0 = r) : Pu Tryz.prog 165 [I p0x0] (.bool r) := by
  unfold cmp_isNaN_int at h
  refine ACall.bodyN Tryz.func165 rfl Tryz.ntmps165 Tryz.results165 rfl rfl ?_
  refine tSR <| rA rfl rfl <| rN <| tSR <| rM rfl rfl <| rM rfl rfl <| ARun.qv (q_neq rfl rfl) rfl <| rA rfl rfl <| rN <| ATodo.ret <| ?_
  obtain rfl := h
  exact ImpX.here ⟨_, .cons (.tmp _ _ rfl) .nil, rfl⟩

set_option maxHeartbeats 4000000 in
theorem cmp_Compare_int_c [GI : GTab] {p0x0 : Int} {p1x0 : Int} {r : Int} (h : cmp_Compare_int p0x0 p1x0 = r) : Pu Tryz.prog 134 [I p0x0, I p1x0] (I r) := by
  unfold cmp_Compare_int at h
  refine ACall.bodyN Tryz.func134 rfl Tryz.ntmps134 Tryz.results134 rfl rfl ?_
  refine tSR <| rA rfl rfl <| rN <| tSR <| rM rfl rfl <| r_callp rfl (cmp_isNaN_int_c rfl) (CoL.refl _) rfl <| rA rfl rfl <| rN <| tSR <| rM rfl rfl <| r_callp rfl (cmp_isNaN_int_c rfl) (CoL.refl _) rfl <| rA rfl rfl <| rN <| tS <| tSR <| rM rfl rfl <| rN <| ATodo.cond rfl (fun hc => ?_) (fun hc => ?_)
  · refine have h := iteT hc h; tS <| tSR <| rM rfl rfl <| rN <| ATodo.cond rfl (fun hc => ?_) (fun hc => ?_)
    · refine have h := iteT hc h; tSR <| rA rfl rfl <| rN <| ATodo.ret <| ?_
      obtain rfl := h
      exact ImpX.here ⟨_, .cons (.tmp _ _ rfl) .nil, rfl⟩
    · refine have h := iteFb hc h; tK <| tSR <| rA rfl rfl <| rN <| ATodo.ret <| ?_
      obtain rfl := h
      exact ImpX.here ⟨_, .cons (.tmp _ _ rfl) .nil, rfl⟩
  · refine have h := iteFb hc h; tK <| tS <| tSR <| rM rfl rfl <| rN <| ATodo.cond rfl (fun hc => ?_) (fun hc => ?_)
    · refine have h := iteT hc h; tSR <| rA rfl rfl <| rN <| ATodo.ret <| ?_
      obtain rfl := h
      exact ImpX.here ⟨_, .cons (.tmp _ _ rfl) .nil, rfl⟩
    · refine have h := iteFb hc h; tK <| tS <| tSR <| rM rfl rfl <| rM rfl rfl <| ARun.qv (q_lss rfl rfl) rfl <| rN <| ATodo.cond_d rfl (fun hc => ?_) (fun hc => ?_)
      · refine have h := iteT hc h; tSR <| rA rfl rfl <| rN <| ATodo.ret <| ?_
        obtain rfl := h
        exact ImpX.here ⟨_, .cons (.tmp _ _ rfl) .nil, rfl⟩
      · refine have h := iteF hc h; tK <| tS <| tSR <| rM rfl rfl <| rM rfl rfl <| ARun.qv (q_gtr rfl rfl) rfl <| rN <| ATodo.cond_d rfl (fun hc => ?_) (fun hc => ?_)
        · refine have h := iteT hc h; tSR <| rA rfl rfl <| rN <| ATodo.ret <| ?_
          obtain rfl := h
          exact ImpX.here ⟨_, .cons (.tmp _ _ rfl) .nil, rfl⟩
        · refine have h := iteF hc h; tK <| tSR <| rA rfl rfl <| rN <| ATodo.ret <| ?_
          obtain rfl := h
          exact ImpX.here ⟨_, .cons (.tmp _ _ rfl) .nil, rfl⟩

set_option maxHeartbeats 4000000 in
theorem cmp_Or_int_c [GI : GTab] {p0x0 : List Int} {r : Int} (h : cmp_Or_int p0x0 = some r) : Pu Tryz.prog 133 [.list 1 (p0x0.map I)] (I r) := by
  unfold cmp_Or_int at h
  refine ACall.bodyN Tryz.func133 rfl Tryz.ntmps133 Tryz.results133 rfl rfl ?_
  refine tSR <| rA rfl rfl <| rN <| tSR <| rA rfl rfl <| rN <| tS <| tSR <| rM rfl rfl <| ARun.qv (t_len rfl) rfl <| rM rfl rfl <| rN <| ATodo.block <| ATodo.loopI (fun x : Int => cmp_Or_int_b1 p0x0 x) (fun x σ' => σ' = ⟨18, [(3, I (0 : Int)), (6, .list 1 (p0x0.map I)), (7, I (p0x0.length : Int)), (8, I x)], []⟩) h ?_ ?_
  · exact ImpX.lq [] rfl rfl rfl
  · intro n2 z1 σ' J1 hmk h hJ1 hA1
    obtain rfl := hmk
    replace h : cmp_Or_int_b1 p0x0 n2 = some z1 := h
    unfold cmp_Or_int_b1 at h
    refine tSR <| ARun.qv (q_lss rfl rfl) rfl <| rN <| tS <| ATodo.cond_d rfl (fun hc => ?_) (fun hc => ?_)
    · refine have h := iteT hc h; tK <| tS <| ATodo.block <| tSR <| bndE h fun v3 e1 h => ARun.qv (t_index rfl rfl rfl e1 rfl rfl) rfl <| ARun.qv (q_load_rptr rfl rfl rfl) rfl <| rA rfl rfl <| rN <| tSR <| rM rfl rfl <| rM rfl rfl <| ARun.qv (q_neq rfl rfl) rfl <| rN <| ATodo.cond_d rfl (fun hc => ?_) (fun hc => ?_)
      · refine have h := iteT hc h; tSR <| rM rfl rfl <| rA rfl rfl <| rN <| ATodo.ret <| have h := outL h hA1; ?_
        obtain rfl := Option.some.inj h
        exact ImpX.here ⟨_, .cons (.tmp _ _ rfl) .nil, rfl⟩
      · refine have h := iteF hc h; tK <| ATodo.blk <| tR <| ARun.qv (q_addw rfl rfl) rfl <| rM rfl rfl <| rN <| ATodo.stop <| ?_
        obtain rfl := Option.some.inj h
        exact hJ1 _ _ rfl <| ImpX.lq [] rfl rfl rfl
    · refine have h := iteF hc h; ATodo.exit rfl <| have h := outL h hA1; tSR <| rM rfl rfl <| rA rfl rfl <| rN <| ATodo.ret <| ?_
      obtain rfl := Option.some.inj h
      exact ImpX.here ⟨_, .cons (.tmp _ _ rfl) .nil, rfl⟩

set_option maxHeartbeats 4000000 in
theorem twin_byStamp_c [GI : GTab] {p0x0 : Stamp} {p1x0 : Stamp} {r : Int} (h : twin_byStamp p0x0 p1x0 = some r) : Pu Tryz.prog 88 [.agg [I p0x0.At, .str p0x0.By, I p0x0.No], .agg [I p1x0.At, .str p1x0.By, I p1x0.No]] (I r) := by
  unfold twin_byStamp at h
  refine ACall.bodyN Tryz.func88 rfl Tryz.ntmps88 Tryz.results88 rfl rfl ?_
  refine tSR <| n_box rfl rfl rfl rfl fun b1 => n_box rfl rfl rfl rfl fun b2 => rA rfl rfl <| rN <| tS <| ATodo.regionM (id := 1) (A := [0, 1, 0, 4, 15, 0, 32, 0, 128, 511, 0, 1024, 0, 4096, 16383, 32767, 65535, 131071]) 18 mixed rfl (by kernel_rfl) (by kernel_rfl) <| AM.qv (n_field_ptr rfl rfl) rfl <| AM.qv (q_load_ptr rfl rfl .p1 rfl) rfl <| AM.qv (n_field_ptr rfl rfl) rfl <| AM.qv (q_load_ptr rfl rfl .p0 rfl) rfl <| AM.callp rfl (cmp_Compare_int_c rfl) (CoL.refl _) rfl <| AM.qv (n_field_ptr rfl rfl) rfl <| AM.qv (q_load_ptr rfl rfl .p1 rfl) rfl <| AM.qv (n_field_ptr rfl rfl) rfl <| AM.qv (q_load_ptr rfl rfl .p0 rfl) rfl <| AM.callp rfl (strings_Compare_c rfl) (CoL.refl _) rfl <| AM.qv (n_field_ptr rfl rfl) rfl <| AM.qv (q_load_ptr rfl rfl .p1 rfl) rfl <| AM.qv (n_field_ptr rfl rfl) rfl <| AM.qv (q_load_ptr rfl rfl .p0 rfl) rfl <| AM.callp rfl (cmp_Compare_int_c rfl) (CoL.refl _) rfl <| AM.buildSliceL (xs := ([(cmp_Compare_int p0x0.At p1x0.At), (Lib.compareBytes p0x0.By p1x0.By), (cmp_Compare_int p0x0.No p1x0.No)] : List Int).map I) rfl rfl rfl rfl rfl rfl <| bndE h fun v3 e1 h => AM.callp rfl (cmp_Or_int_c e1) (CoL.refl _) rfl <| AM.qv (q_assign rfl) rfl <| AM.nil <| rN <| ATodo.ret <| ?_
  obtain rfl := Option.some.inj h
  exact ImpX.here ⟨_, .cons (.tmp _ _ rfl) .nil, rfl⟩

set_option maxHeartbeats 4000000 in
theorem twin_hides_c [GI : GTab] {p0x0 : Cell} {p1x0 : Cell} {r : Bool} (h : twin_hides p0x0 p1x0 = some r) : Pu Tryz.prog 100 [.agg [.str p0x0.Prop_.Name, I p0x0.Prop_.Value.Kind, .bool p0x0.Prop_.Value.Flag, I p0x0.Prop_.Value.Number, .str p0x0.Prop_.Value.Words, I p0x0.Stamp.At, .str p0x0.Stamp.By, I p0x0.Stamp.No], .agg [.str p1x0.Prop_.Name, I p1x0.Prop_.Value.Kind, .bool p1x0.Prop_.Value.Flag, I p1x0.Prop_.Value.Number, .str p1x0.Prop_.Value.Words, I p1x0.Stamp.At, .str p1x0.Stamp.By, I p1x0.Stamp.No]] (.bool r) := by
  unfold twin_hides at h
  refine ACall.bodyN Tryz.func100 rfl Tryz.ntmps100 Tryz.results100 rfl rfl ?_
  refine tSR <| n_box rfl rfl rfl rfl fun b1 => n_box rfl rfl rfl rfl fun b2 => rA rfl rfl <| rN <| tS <| ATodo.regionM (id := 1) (A := [0, 1, 3, 0, 8, 24, 63, 0, 128, 384, 0, 1024, 3072, 8191, 16383, 32767]) 16 mixed rfl (by kernel_rfl) (by kernel_rfl) <| AM.qv (n_field_ptr rfl rfl) rfl <| AM.qv (n_field_ptr rfl rfl) rfl <| AM.qv (q_load_ptr rfl rfl .p0 rfl) rfl <| AM.qv (n_field_ptr rfl rfl) rfl <| AM.qv (n_field_ptr rfl rfl) rfl <| AM.qv (q_load_ptr rfl rfl .p1 rfl) rfl <| bndE h fun v3 e1 h => AM.callp rfl (base_Below_c e1) (CoL.refl _) rfl <| AM.qv (n_field_ptr rfl rfl) rfl <| AM.qv (n_field_ptr rfl rfl) rfl <| AM.qv (q_load_ptr rfl rfl .p1 rfl) rfl <| AM.qv (n_field_ptr rfl rfl) rfl <| AM.qv (n_field_ptr rfl rfl) rfl <| AM.qv (q_load_ptr rfl rfl .p0 rfl) rfl <| bndE h fun v4 e2 h => AM.callp rfl (base_Below_c e2) (CoL.refl _) rfl <| AM.qv (q_assign rfl) rfl <| AM.qv (q_assign rfl) rfl <| AM.nil <| rN <| tSR <| rF rfl rfl rfl <| rF rfl rfl rfl <| rF rfl rfl rfl <| rL rfl rfl .p1 rfl rfl <| ARun.qv (q_neq rfl rfl) rfl <| rA rfl rfl <| rN <| tS <| tSR <| rF rfl rfl rfl <| ARun.qv (n_load_ptr_part rfl rfl .p1 rfl rfl) rfl <| rF rfl rfl rfl <| ARun.qv (n_load_ptr_part rfl rfl .p0 rfl rfl) rfl <| bndE h fun v5 e3 h => r_callp rfl (twin_byStamp_c e3) (CoL.refl _) rfl <| rA rfl rfl <| rN <| ATodo.block <| tSR <| rM rfl rfl <| ARun.qv (q_gtr rfl rfl) rfl <| rA rfl rfl <| rN <| ATodo.cond_d rfl (fun hc => ?_) (fun hc => ?_)
  · refine have h := iteT hc h; tS <| ATodo.cut (fun σ' => ∃ (c6 : Bool), twin_hides_j1 c6 = some r ∧ σ' = ⟨61, [(4, .bool c6)], []⟩) ?_ ?_
    · refine tR <| rM rfl rfl <| rM rfl rfl <| ARun.guard rfl rfl rfl (fun hc => ?_) (fun hc => ?_)
      · rw [orFb hc] at h
        refine rM rfl rfl <| rY rfl rfl rfl <| rM rfl rfl <| ARun.guard rfl rfl rfl (fun hc => ?_) (fun hc => ?_)
        · rw [andTb hc] at h
          exact rF rfl rfl rfl <| rY rfl rfl rfl <| rF rfl rfl rfl <| rY rfl rfl rfl <| rF rfl rfl rfl <| rY rfl rfl rfl <| rL rfl rfl .p0 rfl rfl <| rY rfl rfl rfl <| ARun.qv (q_neq rfl rfl) rfl <| rY rfl rfl rfl <| rT rfl rfl rfl <| rE rfl rfl rfl <| rA rfl rfl <| rN <| ATodo.stop <| ImpX.lq [] ⟨decide (p1x0.Prop_.Value.Kind ≠ (0 : Int)), h, rfl⟩ rfl rfl
        · rw [andFb hc] at h
          exact rG rfl rfl rfl rfl <| rG rfl rfl rfl rfl <| rG rfl rfl rfl rfl <| rG rfl rfl rfl rfl <| rY rfl rfl rfl <| rE rfl rfl rfl <| rE rfl rfl rfl <| rA rfl rfl <| rN <| ATodo.stop <| ImpX.lq [] ⟨false, h, rfl⟩ rfl rfl
      · rw [orTb hc] at h
        exact rG rfl rfl rfl rfl <| ARun.guard_und rfl rfl rfl <| ARun.guard_und rfl rfl rfl <| ARun.guard_und rfl rfl rfl <| ARun.guard_und rfl rfl rfl <| ARun.guard_und rfl rfl rfl <| rG rfl rfl rfl rfl <| rT rfl rfl rfl <| rA rfl rfl <| rN <| ATodo.stop <| ImpX.lq [] ⟨true, h, rfl⟩ rfl rfl
    · rintro σ' ⟨c6, h, rfl⟩
      unfold twin_hides_j1 at h
      refine ATodo.ret <| ?_
      obtain rfl := Option.some.inj h
      exact ImpX.here ⟨_, .cons (.tmp _ _ rfl) .nil, rfl⟩
  · refine have h := iteF hc h; tSR <| rM rfl rfl <| ARun.qv (q_eql rfl rfl) rfl <| rA rfl rfl <| rN <| ATodo.cond_d rfl (fun hc => ?_) (fun hc => ?_)
    · refine have h := iteT hc h; tS <| ATodo.cut (fun σ' => ∃ (c7 : Bool), twin_hides_j2 c7 = some r ∧ σ' = ⟨61, [(4, .bool c7)], []⟩) ?_ ?_
      · refine tR <| rM rfl rfl <| rM rfl rfl <| ARun.guard rfl rfl rfl (fun hc => ?_) (fun hc => ?_)
        · rw [andTb hc] at h
          refine rM rfl rfl <| rT rfl rfl rfl <| rM rfl rfl <| ARun.guard_dt rfl rfl rfl (fun hc => ?_) (fun hc => ?_)
          · rw [andTd hc] at h
            exact rF rfl rfl rfl <| rY rfl rfl rfl <| rF rfl rfl rfl <| rY rfl rfl rfl <| rF rfl rfl rfl <| rY rfl rfl rfl <| rL rfl rfl .p0 rfl rfl <| rY rfl rfl rfl <| ARun.qv (q_neq rfl rfl) rfl <| rT rfl rfl rfl <| rA rfl rfl <| rN <| ATodo.stop <| ImpX.lq [] ⟨decide (p1x0.Prop_.Value.Kind ≠ (0 : Int)), h, rfl⟩ rfl rfl
          · rw [andFd hc] at h
            exact rG rfl rfl rfl rfl <| rG rfl rfl rfl rfl <| rG rfl rfl rfl rfl <| rG rfl rfl rfl rfl <| rE rfl rfl rfl <| rA rfl rfl <| rN <| ATodo.stop <| ImpX.lq [] ⟨false, h, rfl⟩ rfl rfl
        · rw [andFb hc] at h
          exact rE rfl rfl rfl <| rM rfl rfl <| rG rfl rfl rfl rfl <| rG rfl rfl rfl rfl <| rG rfl rfl rfl rfl <| rG rfl rfl rfl rfl <| rG rfl rfl rfl rfl <| rE rfl rfl rfl <| rA rfl rfl <| rN <| ATodo.stop <| ImpX.lq [] ⟨false, h, rfl⟩ rfl rfl
      · rintro σ' ⟨c7, h, rfl⟩
        unfold twin_hides_j2 at h
        refine ATodo.ret <| ?_
        obtain rfl := Option.some.inj h
        exact ImpX.here ⟨_, .cons (.tmp _ _ rfl) .nil, rfl⟩
    · refine have h := iteF hc h; tK <| ATodo.blk <| tSR <| rA rfl rfl <| rN <| ATodo.ret <| ?_
      obtain rfl := Option.some.inj h
      exact ImpX.here ⟨_, .cons (.tmp _ _ rfl) .nil, rfl⟩

set_option maxHeartbeats 4000000 in
theorem twin_hidden_1x_c [GI : GTab] {p0x0 : Cell} {p1x0 : Cell} {fnc : Cell → Option Bool} {fnc_F : FuncId} [IsFn Tryz.prog fnc_F] {fnc_C : List AV} (fnc_h : ∀ {y0 : _} {u : Bool}, fnc y0 = some u → Pu Tryz.prog fnc_F (.agg [.str y0.Prop_.Name, I y0.Prop_.Value.Kind, .bool y0.Prop_.Value.Flag, I y0.Prop_.Value.Number, .str y0.Prop_.Value.Words, I y0.Stamp.At, .str y0.Stamp.By, I y0.Stamp.No] ::  fnc_C) (.bool u)) {r : Bool} (h : twin_hidden_1x p0x0 p1x0 fnc = some r) : Pu Tryz.prog 99 [.agg [.str p0x0.Prop_.Name, I p0x0.Prop_.Value.Kind, .bool p0x0.Prop_.Value.Flag, I p0x0.Prop_.Value.Number, .str p0x0.Prop_.Value.Words, I p0x0.Stamp.At, .str p0x0.Stamp.By, I p0x0.Stamp.No], .rptr [.str p1x0.Prop_.Name, I p1x0.Prop_.Value.Kind, .bool p1x0.Prop_.Value.Flag, I p1x0.Prop_.Value.Number, .str p1x0.Prop_.Value.Words, I p1x0.Stamp.At, .str p1x0.Stamp.By, I p1x0.Stamp.No], .rptr [.func (.func fnc_F) fnc_C]] (.bool r) := by
  unfold twin_hidden_1x at h
  refine ACall.bodyN Tryz.func99 rfl Tryz.ntmps99 Tryz.results99 rfl rfl ?_
  refine tSR <| n_box rfl rfl rfl rfl fun b1 => rA rfl rfl <| rN <| tS <| ATodo.cut (fun σ' => ∃ (c2 : Bool), twin_hidden_1x_j1 c2 = some r ∧ σ' = ⟨13, [(4, .bool c2)], []⟩) ?_ ?_
  · refine tR <| ARun.qv (q_load_ptr_all rfl rfl .p0 rfl) rfl <| ARun.qv (q_load_rptr_agg rfl rfl rfl) rfl <| bndE h fun v3 e1 h => r_callp rfl (twin_hides_c e1) (CoL.refl _) rfl <| rM rfl rfl <| ARun.guard rfl rfl rfl (fun hc => ?_) (fun hc => ?_)
    · exact have h := iteT hc h; ARun.qv (q_load_rptr rfl rfl rfl) rfl <| rY rfl rfl rfl <| ARun.qv (q_load_ptr_all rfl rfl .p0 rfl) rfl <| rY rfl rfl rfl <| bndE h fun v4 e2 h => r_callvp rfl rfl (fnc_h e2) (CoL.refl _) rfl <| rT rfl rfl rfl <| rA rfl rfl <| rN <| ATodo.stop <| ImpX.lq [] ⟨v4, h, rfl⟩ rfl rfl
    · exact have h := iteFb hc h; rG rfl rfl rfl rfl <| rG rfl rfl rfl rfl <| rE rfl rfl rfl <| rA rfl rfl <| rN <| ATodo.stop <| ImpX.lq [] ⟨false, h, rfl⟩ rfl rfl
  · rintro σ' ⟨c2, h, rfl⟩
    unfold twin_hidden_1x_j1 at h
    refine ATodo.ret <| ?_
    obtain rfl := Option.some.inj h
    exact ImpX.here ⟨_, .cons (.tmp _ _ rfl) .nil, rfl⟩

set_option maxHeartbeats 4000000 in
theorem slices_IndexFunc_Cell_Cell_c [GI : GTab] {p0x0 : List Cell} {fnb : Cell → Option Bool} {fnb_F : FuncId} [IsFn Tryz.prog fnb_F] {fnb_C : List AV} (fnb_h : ∀ {y0 : _} {u : Bool}, fnb y0 = some u → Pu Tryz.prog fnb_F (.agg [.str y0.Prop_.Name, I y0.Prop_.Value.Kind, .bool y0.Prop_.Value.Flag, I y0.Prop_.Value.Number, .str y0.Prop_.Value.Words, I y0.Stamp.At, .str y0.Stamp.By, I y0.Stamp.No] ::  fnb_C) (.bool u)) {r : Int} (h : slices_IndexFunc_Cell_Cell p0x0 fnb = some r) : Pu Tryz.prog 101 [.list 8 (p0x0.map Cell.av), .func (.func fnb_F) fnb_C] (I r) := by
  unfold slices_IndexFunc_Cell_Cell at h
  refine ACall.bodyN Tryz.func101 rfl Tryz.ntmps101 Tryz.results101 rfl rfl ?_
  refine tSR <| rA rfl rfl <| rN <| tS <| tSR <| rM rfl rfl <| ARun.qv (t_len rfl) rfl <| rM rfl rfl <| rN <| ATodo.block <| ATodo.loopI (fun x : Int => slices_IndexFunc_Cell_Cell_b1 p0x0 fnb x) (fun x σ' => σ' = ⟨19, [(0, .list 8 (p0x0.map Cell.av)), (1, .func (.func fnb_F) fnb_C), (7, I (p0x0.length : Int)), (8, I x)], []⟩) h ?_ ?_
  · exact ImpX.lq [] rfl rfl rfl
  · intro n2 z1 σ' J1 hmk h hJ1 hA1
    obtain rfl := hmk
    replace h : slices_IndexFunc_Cell_Cell_b1 p0x0 fnb n2 = some z1 := h
    unfold slices_IndexFunc_Cell_Cell_b1 at h
    refine tSR <| ARun.qv (q_lss rfl rfl) rfl <| rN <| tS <| ATodo.cond_d rfl (fun hc => ?_) (fun hc => ?_)
    · refine have h := iteT hc h; tK <| tS <| ATodo.block <| tSR <| rM rfl rfl <| rA rfl rfl <| rN <| tSR <| rM rfl rfl <| rM rfl rfl <| rM rfl rfl <| bndE h fun v3 e1 h => ARun.qv (t_index rfl rfl rfl e1 rfl rfl) rfl <| ARun.qv (q_load_rptr_agg rfl rfl rfl) rfl <| bndE h fun v4 e2 h => r_callvp rfl rfl (fnb_h e2) (CoL.refl _) rfl <| rN <| ATodo.cond rfl (fun hc => ?_) (fun hc => ?_)
      · refine have h := iteT hc h; tSR <| rM rfl rfl <| rA rfl rfl <| rN <| ATodo.ret <| have h := outL h hA1; ?_
        obtain rfl := Option.some.inj h
        exact ImpX.here ⟨_, .cons (.tmp _ _ rfl) .nil, rfl⟩
      · refine have h := iteFb hc h; tK <| ATodo.blk <| tR <| ARun.qv (q_addw rfl rfl) rfl <| rM rfl rfl <| rN <| ATodo.stop <| ?_
        obtain rfl := Option.some.inj h
        exact hJ1 _ _ rfl <| ImpX.lq [] rfl rfl rfl
    · refine have h := iteF hc h; ATodo.exit rfl <| have h := outL h hA1; tSR <| rA rfl rfl <| rN <| ATodo.ret <| ?_
      obtain rfl := Option.some.inj h
      exact ImpX.here ⟨_, .cons (.tmp _ _ rfl) .nil, rfl⟩

set_option maxHeartbeats 4000000 in
theorem slices_ContainsFunc_Cell_Cell_c [GI : GTab] {p0x0 : List Cell} {fnb : Cell → Option Bool} {fnb_F : FuncId} [IsFn Tryz.prog fnb_F] {fnb_C : List AV} (fnb_h : ∀ {y0 : _} {u : Bool}, fnb y0 = some u → Pu Tryz.prog fnb_F (.agg [.str y0.Prop_.Name, I y0.Prop_.Value.Kind, .bool y0.Prop_.Value.Flag, I y0.Prop_.Value.Number, .str y0.Prop_.Value.Words, I y0.Stamp.At, .str y0.Stamp.By, I y0.Stamp.No] ::  fnb_C) (.bool u)) {r : Bool} (h : slices_ContainsFunc_Cell_Cell p0x0 fnb = some r) : Pu Tryz.prog 51 [.list 8 (p0x0.map Cell.av), .func (.func fnb_F) fnb_C] (.bool r) := by
  unfold slices_ContainsFunc_Cell_Cell at h
  refine ACall.bodyN Tryz.func51 rfl Tryz.ntmps51 Tryz.results51 rfl rfl ?_
  refine tSR <| rA rfl rfl <| rN <| tSR <| rM rfl rfl <| rM rfl rfl <| bndE h fun v1 e1 h => r_callpB rfl (slices_IndexFunc_Cell_Cell_c fnb_h e1) (.cons (.co (.refl _)) (.cons (.co (.refl _)) .nil)) rfl rfl <| ARun.qv (q_geq rfl rfl) rfl <| rA rfl rfl <| rN <| ATodo.ret <| ?_
  obtain rfl := Option.some.inj h
  exact ImpX.here ⟨_, .cons (.tmp _ _ rfl) .nil, rfl⟩

set_option maxHeartbeats 4000000 in
theorem twin_hidden_c [GI : GTab] {p0x0 : List Cell} {p1x0 : Cell} {fnc : Cell → Option Bool} {fnc_F : FuncId} [IsFn Tryz.prog fnc_F] {fnc_C : List AV} (fnc_h : ∀ {y0 : _} {u : Bool}, fnc y0 = some u → Pu Tryz.prog fnc_F (.agg [.str y0.Prop_.Name, I y0.Prop_.Value.Kind, .bool y0.Prop_.Value.Flag, I y0.Prop_.Value.Number, .str y0.Prop_.Value.Words, I y0.Stamp.At, .str y0.Stamp.By, I y0.Stamp.No] ::  fnc_C) (.bool u)) {r : Bool} (h : twin_hidden p0x0 p1x0 fnc = some r) : Pu Tryz.prog 48 [.list 8 (p0x0.map Cell.av), .agg [.str p1x0.Prop_.Name, I p1x0.Prop_.Value.Kind, .bool p1x0.Prop_.Value.Flag, I p1x0.Prop_.Value.Number, .str p1x0.Prop_.Value.Words, I p1x0.Stamp.At, .str p1x0.Stamp.By, I p1x0.Stamp.No], .func (.func fnc_F) fnc_C] (.bool r) := by
  unfold twin_hidden at h
  refine ACall.bodyN Tryz.func48 rfl Tryz.ntmps48 Tryz.results48 rfl rfl ?_
  refine tSR <| n_box rfl rfl rfl rfl fun b1 => n_box rfl rfl rfl rfl fun b2 => rA rfl rfl <| rN <| tSR <| rM rfl rfl <| ARun.qv (q_makeFunc rfl) rfl <| bndE h fun v3 e1 h => r_callpB rfl (slices_ContainsFunc_Cell_Cell_c (fun e => twin_hidden_1x_c fnc_h e) e1) (.cons (.co (.refl _)) (.cons (.funcL _ _ _ (.cons (.boxL _ _ _ .p1 (.cons (.co (.refl _)) (.cons (.co (.refl _)) (.cons (.co (.refl _)) (.cons (.co (.refl _)) (.cons (.co (.refl _)) (.cons (.co (.refl _)) (.cons (.co (.refl _)) (.cons (.co (.refl _)) .nil))))))))) (.cons (.boxL _ _ _ .p0 (.cons (.co (.refl _)) .nil)) .nil))) .nil)) rfl rfl <| rA rfl rfl <| rN <| ATodo.ret <| ?_
  obtain rfl := Option.some.inj h
  exact ImpX.here ⟨_, .cons (.tmp _ _ rfl) .nil, rfl⟩

set_option maxHeartbeats 4000000 in
theorem twin_visible_c [GI : GTab] {p0x0 : List Cell} {r : (List PropS)} (h : twin_visible p0x0 = some r) : ACall Tryz.prog 45 [.list 8 (p0x0.map Cell.av)] [] (T1 (fun d_0 => [(d_0, .arr 5 (r.map PropS.av))]) (fun d_0 => .sl 5 d_0 0 r.length)) := by
  unfold twin_visible at h
  refine ACall.lessH ?_
  refine ACall.bodyN Tryz.func45 rfl Tryz.ntmps45 Tryz.results45 rfl rfl ?_
  refine tSR <| rA rfl rfl <| rN <| tSR <| rA rfl rfl <| rN <| tS <| tSR <| rM rfl rfl <| ARun.qv (t_len rfl) rfl <| rM rfl rfl <| rN <| ATodo.block <| ATodo.loopI (fun x : (List PropS) × Int => twin_visible_b1 p0x0 x.1 x.2) (fun x σ' => ∃ (b4 : Bk), σ' = ⟨30, [(0, .list 8 (p0x0.map Cell.av)), (3, .sl 5 b4 0 x.1.length), (6, .list 8 (p0x0.map Cell.av)), (7, I (p0x0.length : Int)), (8, I x.2)], [(b4, .arr 5 (x.1.map PropS.av))]⟩) h ?_ ?_
  · exact ImpX.arr (s := 3) 5 rfl fun b7 => ImpX.lq [0] ⟨b7, rfl⟩ rfl rfl
  · intro x z1 σ' J1 hmk h hJ1 hA1
    obtain ⟨l5, n6⟩ := x
    obtain ⟨b4, rfl⟩ := hmk
    replace h : twin_visible_b1 p0x0 l5 n6 = some z1 := h
    unfold twin_visible_b1 at h
    refine tSR <| ARun.qv (q_lss rfl rfl) rfl <| rN <| tS <| ATodo.cond_d rfl (fun hc => ?_) (fun hc => ?_)
    · refine have h := iteT hc h; tK <| tS <| ATodo.block <| tSR <| bndE h fun v8 e1 h => ARun.qv (t_index rfl rfl rfl e1 rfl rfl) rfl <| ARun.qv (q_load_rptr_agg rfl rfl rfl) rfl <| n_alloc rfl rfl rfl rfl fun b9 => n_store_ptr rfl rfl rfl rfl .p0 rfl rfl <| rN <| tS <| ATodo.cut (fun σ' => ∃ (c10 : Bool), twin_visible_j1 l5 n6 v8 c10 = some z1 ∧ σ' = ⟨30, [(0, .list 8 (p0x0.map Cell.av)), (3, .sl 5 b4 0 l5.length), (5, .ptr b9 0), (6, .list 8 (p0x0.map Cell.av)), (7, I (p0x0.length : Int)), (8, I n6), (22, .bool c10)], [(b4, .arr 5 (l5.map PropS.av)), (b9, .cells [.str v8.Prop_.Name, I v8.Prop_.Value.Kind, .bool v8.Prop_.Value.Flag, I v8.Prop_.Value.Number, .str v8.Prop_.Value.Words, I v8.Stamp.At, .str v8.Stamp.By, I v8.Stamp.No])]⟩) ?_ ?_
      · refine tR <| rF rfl rfl rfl <| rF rfl rfl rfl <| rF rfl rfl rfl <| rL rfl rfl .p0 rfl rfl <| ARun.qv (q_neq rfl rfl) rfl <| rM rfl rfl <| ARun.guard_dt rfl rfl rfl (fun hc => ?_) (fun hc => ?_)
        · exact have h := iteT hc h; rM rfl rfl <| rY rfl rfl rfl <| ARun.qv (q_load_ptr_all rfl rfl .p0 rfl) rfl <| rY rfl rfl rfl <| bndE h fun v11 e2 h => r_callpB rfl (twin_hidden_c (fun e => twin_every_c (Option.some.inj e)) e2) (.cons (.co (.refl _)) (.cons (.co (.refl _)) (.cons (.funcL _ _ _ .nil) .nil))) rfl rfl <| rY rfl rfl rfl <| ARun.qv (q_not rfl) rfl <| rT rfl rfl rfl <| rN <| ATodo.stop <| ImpX.lq [1, 0] ⟨!v11, h, rfl⟩ rfl rfl
        · exact have h := iteF hc h; rG rfl rfl rfl rfl <| rG rfl rfl rfl rfl <| rG rfl rfl rfl rfl <| rE rfl rfl rfl <| rN <| ATodo.stop <| ImpX.lq [1, 0] ⟨false, h, rfl⟩ rfl rfl
      · rintro σ' ⟨c10, h, rfl⟩
        unfold twin_visible_j1 at h
        refine ATodo.cut (fun σ' => ∃ (b12 : Bk) (l13 : List PropS), twin_visible_j2 n6 l13 = some z1 ∧ σ' = ⟨30, [(0, .list 8 (p0x0.map Cell.av)), (3, .sl 5 b12 0 l13.length), (6, .list 8 (p0x0.map Cell.av)), (7, I (p0x0.length : Int)), (8, I n6)], [(b12, .arr 5 (l13.map PropS.av))]⟩) ?_ ?_
        · refine ATodo.cond rfl (fun hc => ?_) (fun hc => ?_)
          · exact have h := iteT hc h; tR <| rM rfl rfl <| rF rfl rfl rfl <| ARun.qv (n_load_ptr_part rfl rfl .p1 rfl rfl) rfl <| n_buildSliceL (xs := ([v8.Prop_] : List PropS).map PropS.av) rfl rfl rfl rfl rfl rfl <| bndE h fun l14 e3 h => t_append (g := PropS.av) rfl rfl rfl rfl rfl rfl rfl rfl (.list _) e3 (fun _ => .p0) rfl fun b15 => rA rfl rfl <| rN <| ATodo.stop <| ImpX.lq [0] ⟨b15, l14, h, rfl⟩ rfl rfl
          · exact have h := iteFb hc h; tK <| ATodo.stop <| ImpX.lq [0] ⟨b4, l5, h, rfl⟩ rfl rfl
        · rintro σ' ⟨b12, l13, h, rfl⟩
          unfold twin_visible_j2 at h
          refine ATodo.blk <| tR <| ARun.qv (q_addw rfl rfl) rfl <| rM rfl rfl <| rN <| ATodo.stop <| ?_
          obtain rfl := Option.some.inj h
          exact hJ1 _ _ rfl <| ImpX.lq [0] ⟨b12, rfl⟩ rfl rfl
    · refine have h := iteF hc h; ATodo.exit rfl <| have h := outL h hA1; tSR <| rM rfl rfl <| rA rfl rfl <| rN <| ATodo.ret <| ?_
      obtain rfl := Option.some.inj h
      exact ImpX.here ⟨_, .cons (.tmp _ _ rfl) .nil, _, .cons .p0 .nil, ⟨b4, rfl, rfl⟩⟩

set_option maxHeartbeats 4000000 in
theorem slices_Sort_string_string_k : Sort1 Tryz.prog 124 (fun l => Value.string ⟨l.toArray⟩) srtS := ⟨fun blk off cap zs w hH hb hs => Tryz.slices_Sort_string blk off cap zs w hH hb hs, fun p cap w => Tryz.slices_Sort_string_none p cap w⟩
theorem slices_Sort_string_string_c [GI : GTab] {b_0 : Bk} {p0x0 : List Str} {r : (List Str)} (h : slices_Sort_string_string p0x0 = some r) : ACall Tryz.prog 124 [.sl 1 b_0 0 p0x0.length] [(b_0, .arr 1 (p0x0.map AV.str))] (T0 [(b_0, .arr 1 (r.map AV.str))] (.tup [])) :=
  sort1_acall slices_Sort_string_string_k (g := AV.str) (fun h => h.str_inv) (fun w S x => .str _) (fun _ => rfl) (fun xs => List.length_mergeSort _) (fun _ => rfl) h

set_option maxHeartbeats 4000000 in
theorem slices_Compact_string_string_c [GI : GTab] {b_0 : Bk} {p0x0 : List Str} {r : (List Str)} (h : slices_Compact_string_string p0x0 = some r) : ACall Tryz.prog 125 [.sl 1 b_0 0 p0x0.length] [(b_0, .arr 1 (p0x0.map AV.str))] (T1 (fun d_0 => [(d_0, .arr 1 (r.map AV.str))]) (fun d_0 => .sl 1 d_0 0 r.length)) := by
  unfold slices_Compact_string_string at h
  refine ACall.lessH ?_
  refine ACall.bodyN Tryz.func125 rfl Tryz.ntmps125 Tryz.results125 rfl rfl ?_
  refine tSR <| rA rfl rfl <| rN <| tS <| tSR <| rM rfl rfl <| ARun.qv (t_len_sl rfl) rfl <| ARun.qv (q_lss rfl rfl) rfl <| rN <| ATodo.cond_d rfl (fun hc => ?_) (fun hc => ?_)
  · refine have h := iteT hc h; tSR <| rM rfl rfl <| rA rfl rfl <| rN <| ATodo.ret <| ?_
    obtain rfl := Option.some.inj h
    exact ImpX.here ⟨_, .cons (.tmp _ _ rfl) .nil, _, .cons .p0 .nil, ⟨b_0, rfl, rfl⟩⟩
  · refine have h := iteF hc h; tK <| tS <| tSR <| rA rfl rfl <| rN <| ATodo.block <| ATodo.loopI (fun x : Int => slices_Compact_string_string_b1 p0x0 x) (fun x σ' => σ' = ⟨61, [(0, .sl 1 b_0 0 p0x0.length), (3, I x)], [(b_0, .arr 1 (p0x0.map AV.str))]⟩) h ?_ ?_
    · exact ImpX.lq [0] rfl rfl rfl
    · intro n2 z1 σ' J1 hmk h hJ1 hA1
      obtain rfl := hmk
      replace h : slices_Compact_string_string_b1 p0x0 n2 = some z1 := h
      unfold slices_Compact_string_string_b1 at h
      refine tS <| tSR <| rM rfl rfl <| rM rfl rfl <| ARun.qv (t_len_sl rfl) rfl <| ARun.qv (q_lss rfl rfl) rfl <| rN <| ATodo.cond_d rfl (fun hc => ?_) (fun hc => ?_)
      · refine have h := iteT hc h; tK <| tS <| ATodo.block <| tS <| ATodo.regionM (id := 6) (A := [0, 0, 3, 7, 0, 0, 32, 112, 240, 511]) 10 mixed rfl (by kernel_rfl) (by kernel_rfl) <| AM.qv (q_move rfl) rfl <| AM.qv (q_move rfl) rfl <| bndE h fun v3 e1 h => AM.qv (t_index_sl rfl rfl rfl e1) rfl <| AM.qv (t_load_aptr (g := AV.str) rfl rfl (.inl .p0) e1 rfl) rfl <| AM.qv (q_move rfl) rfl <| AM.qv (q_move rfl) rfl <| AM.qv (q_subw rfl rfl) rfl <| bndE h fun v4 e2 h => AM.qv (t_index_sl rfl rfl rfl e2) rfl <| AM.qv (t_load_aptr (g := AV.str) rfl rfl (.inl .p0) e2 rfl) rfl <| AM.qv (q_seq rfl rfl) rfl <| AM.nil <| rN <| ATodo.cond_d rfl (fun hc => ?_) (fun hc => ?_)
        · refine have h := iteT hc h; tSR <| rM rfl rfl <| rM rfl rfl <| bndE h fun l5 e3 h => ARun.qv (t_slice_sl rfl rfl (.some _ _ _ rfl) .none rfl rfl e3) rfl <| rA rfl rfl <| rN <| tS <| tSR <| rA rfl rfl <| rN <| ATodo.block <| ATodo.loopI (fun x : (List Str) × Int × Int => slices_Compact_string_string_b2 n2 l5 x.1 x.2.1 x.2.2) (fun x σ' => σ' = ⟨61, [(0, .sl 1 b_0 0 x.1.length), (3, I x.2.1), (4, .sl 1 b_0 n2.toNat l5.length), (5, I x.2.2)], [(b_0, .arr 1 (x.1.map AV.str))]⟩) h ?_ ?_
          · exact ImpX.lq [0] rfl rfl rfl
          · intro x z2 σ' J2 hmk h hJ2 hA2
            obtain ⟨l9, n10, n11⟩ := x
            obtain rfl := hmk
            replace h : slices_Compact_string_string_b2 n2 l5 l9 n10 n11 = some z2 := h
            unfold slices_Compact_string_string_b2 at h
            refine tS <| tSR <| rM rfl rfl <| rM rfl rfl <| ARun.qv (t_len_sub rfl) rfl <| ARun.qv (q_lss rfl rfl) rfl <| rN <| ATodo.cond_d rfl (fun hc => ?_) (fun hc => ?_)
            · refine have h := iteT hc h; tK <| tS <| ATodo.block <| tS <| ATodo.regionM (id := 11) (A := [0, 0, 3, 7, 0, 0, 32, 112, 240, 511]) 10 mixed rfl (by kernel_rfl) (by kernel_rfl) <| AM.qv (q_move rfl) rfl <| AM.qv (q_move rfl) rfl <| bndE h fun v12 e4 h => AM.qv (t_index_sub (L := n2) rfl rfl rfl e4) rfl <| AM.qv (t_load_aptr (g := AV.str) rfl rfl (.inl .p0) (idxS_some e4).2 rfl) rfl <| AM.qv (q_move rfl) rfl <| AM.qv (q_move rfl) rfl <| AM.qv (q_subw rfl rfl) rfl <| bndE h fun v13 e5 h => AM.qv (t_index_sub (L := n2) rfl rfl rfl e5) rfl <| AM.qv (t_load_aptr (g := AV.str) rfl rfl (.inl .p0) (idxS_some e5).2 rfl) rfl <| AM.qv (q_sne rfl rfl) rfl <| AM.nil <| rN <| ATodo.cut (fun σ' => ∃ (l14 : List Str) (n15 : Int), slices_Compact_string_string_j1 n11 l14 n15 = some z2 ∧ σ' = ⟨61, [(0, .sl 1 b_0 0 l14.length), (3, I n15), (4, .sl 1 b_0 n2.toNat l5.length), (5, I n11)], [(b_0, .arr 1 (l14.map AV.str))]⟩) ?_ ?_
              · refine ATodo.cond_d rfl (fun hc => ?_) (fun hc => ?_)
                · exact have h := iteT hc h; tSR <| rM rfl rfl <| rM rfl rfl <| rM rfl rfl <| rM rfl rfl <| bndE h fun v16 e6 h => ARun.qv (t_index_sub (L := n2) rfl rfl rfl e6) rfl <| ARun.qv (t_load_aptr (g := AV.str) rfl rfl (.inl .p0) (idxS_some e6).2 rfl) rfl <| bndE h fun v17 e7 h => ARun.qv (t_index_sl rfl rfl rfl e7) rfl <| t_store_aptr1 (g := AV.str) (el' := v16) rfl rfl rfl rfl e7 rfl .p0 rfl <| ARun.ghost <| ImpX.eqs (s := 0) (av' := .sl 1 b_0 0 (l9.set n10.toNat v16).length) rfl (by rw [List.length_set]) <| ImpX.here <| ARun.ghost <| ImpX.eqs (s := 45) (av' := .sl 1 b_0 0 (l9.set n10.toNat v16).length) rfl (by rw [List.length_set]) <| ImpX.here <| rN <| tR <| rM rfl rfl <| ARun.qv (q_addw rfl rfl) rfl <| rA rfl rfl <| rN <| ATodo.stop <| ImpX.lq [0] ⟨l9.set n10.toNat v16, w64 (n10 + (1 : Int)), h, rfl⟩ rfl rfl
                · exact have h := iteF hc h; tK <| ATodo.stop <| ImpX.lq [0] ⟨l9, n10, h, rfl⟩ rfl rfl
              · rintro σ' ⟨l14, n15, h, rfl⟩
                unfold slices_Compact_string_string_j1 at h
                refine ATodo.blk <| tR <| rM rfl rfl <| ARun.qv (q_addw rfl rfl) rfl <| rA rfl rfl <| rN <| ATodo.stop <| ?_
                obtain rfl := Option.some.inj h
                exact hJ2 _ _ rfl <| ImpX.lq [0] rfl rfl rfl
            · refine have h := iteF hc h; ATodo.exit rfl <| have h := outL h hA2; ?_
              unfold slices_Compact_string_string_k2 at h
              refine tSR <| rM rfl rfl <| rM rfl rfl <| bndE h fun l18 e8 h => ARun.qv (t_slice_sl rfl rfl (.some _ _ _ rfl) .none rfl rfl e8) rfl <| t_clear (g := AV.str) (Z := []) (L := n10) rfl rfl rfl rfl rfl rfl e8 .p0 <| ARun.ghost <| ImpX.eqs (s := 0) (av' := .sl 1 b_0 0 (clr l9 n10 l18.length []).length) rfl (congrArg (AV.sl 1 b_0 0) (clr_len e8)) <| ImpX.here <| ARun.ghost <| ImpX.eqs (s := 54) (av' := .sl 1 b_0 0 (clr l9 n10 l18.length []).length) rfl (congrArg (AV.sl 1 b_0 0) (clr_len e8)) <| ImpX.here <| rN <| tSR <| rM rfl rfl <| rM rfl rfl <| bndE h fun l19 e9 h => ARun.qv (t_slice_sl rfl rfl .none (.some _ _ _ rfl) rfl rfl e9) rfl <| rA rfl rfl <| ARun.ghost <| ImpX.takeT e9 .p0 <| ImpX.here <| rN <| ATodo.ret <| have h := outL h hA1; ?_
              obtain rfl := Option.some.inj h
              exact ImpX.here ⟨_, .cons (.tmp _ _ rfl) .nil, _, .cons .p0 .nil, ⟨b_0, rfl, rfl⟩⟩
        · refine have h := iteF hc h; tK <| ATodo.blk <| tR <| rM rfl rfl <| ARun.qv (q_addw rfl rfl) rfl <| rA rfl rfl <| rN <| ATodo.stop <| ?_
          obtain rfl := Option.some.inj h
          exact hJ1 _ _ rfl <| ImpX.lq [0] rfl rfl rfl
      · refine have h := iteF hc h; ATodo.exit rfl <| have h := outL h hA1; tSR <| rM rfl rfl <| rA rfl rfl <| rN <| ATodo.ret <| ?_
        obtain rfl := Option.some.inj h
        exact ImpX.here ⟨_, .cons (.tmp _ _ rfl) .nil, _, .cons .p0 .nil, ⟨b_0, rfl, rfl⟩⟩

set_option maxHeartbeats 4000000 in
theorem twin_names_c [GI : GTab] {p0x0 : List (List PropS)} {r : (List Str)} (h : twin_names p0x0 = some r) : ACall Tryz.prog 76 [.list 1 (p0x0.map (encL 5 PropS.av))] [] (T1 (fun d_0 => [(d_0, .arr 1 (r.map AV.str))]) (fun d_0 => .sl 1 d_0 0 r.length)) := by
  unfold twin_names at h
  refine ACall.lessH ?_
  refine ACall.bodyN Tryz.func76 rfl Tryz.ntmps76 Tryz.results76 rfl rfl ?_
  refine tSR <| rA rfl rfl <| rN <| tSR <| rA rfl rfl <| rN <| tS <| tSR <| rM rfl rfl <| ARun.qv (t_len rfl) rfl <| rM rfl rfl <| rN <| ATodo.block <| ATodo.loopI (fun x : (List Str) × Int => twin_names_b1 p0x0 x.1 x.2) (fun x σ' => ∃ (b4 : Bk), σ' = ⟨31, [(3, .sl 1 b4 0 x.1.length), (8, .list 1 (p0x0.map (encL 5 PropS.av))), (9, I (p0x0.length : Int)), (10, I x.2)], [(b4, .arr 1 (x.1.map AV.str))]⟩) h ?_ ?_
  · exact ImpX.arr (s := 3) 1 rfl fun b7 => ImpX.lq [0] ⟨b7, rfl⟩ rfl rfl
  · intro x z1 σ' J1 hmk h hJ1 hA1
    obtain ⟨l5, n6⟩ := x
    obtain ⟨b4, rfl⟩ := hmk
    replace h : twin_names_b1 p0x0 l5 n6 = some z1 := h
    unfold twin_names_b1 at h
    refine tSR <| ARun.qv (q_lss rfl rfl) rfl <| rN <| tS <| ATodo.cond_d rfl (fun hc => ?_) (fun hc => ?_)
    · refine have h := iteT hc h; tK <| tS <| ATodo.block <| tSR <| bndE h fun v8 e1 h => ARun.qv (t_index rfl rfl rfl e1 rfl rfl) rfl <| ARun.qv (q_load_rptr rfl rfl rfl) rfl <| rA rfl rfl <| rN <| tSR <| rM rfl rfl <| ARun.qv (t_len rfl) rfl <| rM rfl rfl <| rN <| ATodo.block <| ATodo.loopI (fun x : (List Str) × Int => twin_names_b2 n6 v8 x.1 x.2) (fun x σ' => ∃ (b12 : Bk), σ' = ⟨31, [(3, .sl 1 b12 0 x.1.length), (8, .list 1 (p0x0.map (encL 5 PropS.av))), (9, I (p0x0.length : Int)), (10, I n6), (14, .list 5 (v8.map PropS.av)), (15, I (v8.length : Int)), (16, I x.2)], [(b12, .arr 1 (x.1.map AV.str))]⟩) h ?_ ?_
      · exact ImpX.lq [0] ⟨b4, rfl⟩ rfl rfl
      · intro x z2 σ' J2 hmk h hJ2 hA2
        obtain ⟨l13, n14⟩ := x
        obtain ⟨b12, rfl⟩ := hmk
        replace h : twin_names_b2 n6 v8 l13 n14 = some z2 := h
        unfold twin_names_b2 at h
        refine tSR <| ARun.qv (q_lss rfl rfl) rfl <| rN <| tS <| ATodo.cond_d rfl (fun hc => ?_) (fun hc => ?_)
        · refine have h := iteT hc h; tK <| tS <| ATodo.block <| tSR <| bndE h fun v15 e2 h => ARun.qv (t_index rfl rfl rfl e2 rfl rfl) rfl <| ARun.qv (q_load_rptr_agg rfl rfl rfl) rfl <| n_alloc rfl rfl rfl rfl fun b16 => n_store_ptr rfl rfl rfl rfl .p0 rfl rfl <| rN <| tR <| rM rfl rfl <| rF rfl rfl rfl <| rL rfl rfl .p0 rfl rfl <| n_buildSliceL (xs := ([v15.Name] : List Str).map AV.str) rfl rfl rfl rfl rfl rfl <| bndE h fun l17 e3 h => t_append (g := AV.str) rfl rfl rfl rfl rfl rfl rfl rfl (.list _) e3 (fun _ => .p1) rfl fun b18 => rA rfl rfl <| rN <| ATodo.blk <| tR <| ARun.qv (q_addw rfl rfl) rfl <| rM rfl rfl <| rN <| ATodo.stop <| ?_
          obtain rfl := Option.some.inj h
          exact hJ2 _ _ rfl <| ImpX.lq [1] ⟨b18, rfl⟩ rfl rfl
        · refine have h := iteF hc h; ATodo.exit rfl <| have h := outL h hA2; ATodo.blk <| tR <| ARun.qv (q_addw rfl rfl) rfl <| rM rfl rfl <| rN <| ATodo.stop <| ?_
          obtain rfl := Option.some.inj h
          exact hJ1 _ _ rfl <| ImpX.lq [0] ⟨b12, rfl⟩ rfl rfl
    · refine have h := iteF hc h; ATodo.exit rfl <| have h := outL h hA1; ?_
      unfold twin_names_k1 at h
      refine tSR <| rM rfl rfl <| bndE h fun v19 e4 h => t_call0 rfl (slices_Sort_string_string_c (lenOk_f e4)) (CoL.refl _) (.cons .p0 .nil) rfl rfl <| ARun.ghost <| ImpX.eqs (s := 3) (av' := .sl 1 b4 0 v19.length) rfl (congrArg (AV.sl 1 b4 0) (lenOk_l e4)) <| ImpX.here <| ARun.ghost <| ImpX.eqs (s := 27) (av' := .sl 1 b4 0 v19.length) rfl (congrArg (AV.sl 1 b4 0) (lenOk_l e4)) <| ImpX.here <| rN <| tSR <| rM rfl rfl <| bndE h fun v20 e5 h => t_call1 rfl (slices_Compact_string_string_c e5) (CoL.refl _) (.cons .p0 .nil) (fun _ => rfl) rfl fun b21 => rA rfl rfl <| rN <| ATodo.ret <| ?_
      obtain rfl := Option.some.inj h
      exact ImpX.here ⟨_, .cons (.tmp _ _ rfl) .nil, _, .cons .p0 .nil, ⟨b21, rfl, rfl⟩⟩

set_option maxHeartbeats 4000000 in
theorem twin_find_1x_c [GI : GTab] {p0x0 : PropS} {p1x0 : Str} {r : Int} (h : twin_find_1x p0x0 p1x0 = r) : Pu Tryz.prog 162 [.agg [.str p0x0.Name, I p0x0.Value.Kind, .bool p0x0.Value.Flag, I p0x0.Value.Number, .str p0x0.Value.Words], .str p1x0] (I r) := by
  unfold twin_find_1x at h
  refine ACall.bodyN Tryz.func162 rfl Tryz.ntmps162 Tryz.results162 rfl rfl ?_
  refine tSR <| n_box rfl rfl rfl rfl fun b1 => rA rfl rfl <| rN <| tSR <| rF rfl rfl rfl <| rL rfl rfl .p0 rfl rfl <| rM rfl rfl <| r_callp rfl (strings_Compare_c rfl) (CoL.refl _) rfl <| rA rfl rfl <| rN <| ATodo.ret <| ?_
  obtain rfl := h
  exact ImpX.here ⟨_, .cons (.tmp _ _ rfl) .nil, rfl⟩

set_option maxHeartbeats 4000000 in
theorem slices_BinarySearchFunc_Prop_Prop_string_c [GI : GTab] {p0x0 : List PropS} {p1x0 : Str} {fnc : PropS → Str → Option Int} {fnc_F : FuncId} [IsFn Tryz.prog fnc_F] {fnc_C : List AV} (fnc_h : ∀ {y0 y1 : _} {u : Int}, fnc y0 y1 = some u → Pu Tryz.prog fnc_F (.agg [.str y0.Name, I y0.Value.Kind, .bool y0.Value.Flag, I y0.Value.Number, .str y0.Value.Words] :: .str y1 ::  fnc_C) (I u)) {r : Int × Bool} (h : slices_BinarySearchFunc_Prop_Prop_string p0x0 p1x0 fnc = some r) : Pu Tryz.prog 161 [.list 5 (p0x0.map PropS.av), .str p1x0, .func (.func fnc_F) fnc_C] (.tup [I r.1, .bool r.2]) := by
  unfold slices_BinarySearchFunc_Prop_Prop_string at h
  refine ACall.bodyN Tryz.func161 rfl Tryz.ntmps161 Tryz.results161 rfl rfl ?_
  refine tSR <| rA rfl rfl <| rA rfl rfl <| rN <| tSR <| rM rfl rfl <| ARun.qv (t_len rfl) rfl <| rA rfl rfl <| rN <| tSR <| rM rfl rfl <| rA rfl rfl <| rA rfl rfl <| rN <| tS <| ATodo.block <| ATodo.loopI (fun x : Int × Int => slices_BinarySearchFunc_Prop_Prop_string_b1 p0x0 p1x0 fnc x.1 x.2) (fun x σ' => σ' = ⟨49, [(0, .list 5 (p0x0.map PropS.av)), (1, .str p1x0), (2, .func (.func fnc_F) fnc_C), (8, I (p0x0.length : Int)), (9, I x.1), (10, I x.2)], []⟩) h ?_ ?_
  · exact ImpX.lq [] rfl rfl rfl
  · intro x z1 σ' J1 hmk h hJ1 hA1
    obtain ⟨n3, n4⟩ := x
    obtain rfl := hmk
    replace h : slices_BinarySearchFunc_Prop_Prop_string_b1 p0x0 p1x0 fnc n3 n4 = some z1 := h
    unfold slices_BinarySearchFunc_Prop_Prop_string_b1 at h
    refine tS <| tSR <| rM rfl rfl <| rM rfl rfl <| ARun.qv (q_lss rfl rfl) rfl <| rN <| ATodo.cond_d rfl (fun hc => ?_) (fun hc => ?_)
    · refine have h := iteT hc h; tK <| ATodo.block <| tSR <| rM rfl rfl <| rM rfl rfl <| ARun.qv (q_addw rfl rfl) rfl <| ARun.qv (q_conv_int rfl) rfl <| ARun.qv (t_shr rfl rfl (by decide)) rfl <| ARun.qv (q_conv_int rfl) rfl <| rA rfl rfl <| rN <| tSR <| rM rfl rfl <| rM rfl rfl <| rM rfl rfl <| bndE h fun v5 e1 h => ARun.qv (t_index rfl rfl rfl e1 rfl rfl) rfl <| ARun.qv (q_load_rptr_agg rfl rfl rfl) rfl <| rM rfl rfl <| bndE h fun v6 e2 h => r_callvp rfl rfl (fnc_h e2) (CoL.refl _) rfl <| ARun.qv (q_lss rfl rfl) rfl <| rN <| ATodo.cut (fun σ' => ∃ (n7 : Int) (n8 : Int), slices_BinarySearchFunc_Prop_Prop_string_j1 n7 n8 = some z1 ∧ σ' = ⟨49, [(0, .list 5 (p0x0.map PropS.av)), (1, .str p1x0), (2, .func (.func fnc_F) fnc_C), (8, I (p0x0.length : Int)), (9, I n7), (10, I n8)], []⟩) ?_ ?_
      · refine ATodo.cond_d rfl (fun hc => ?_) (fun hc => ?_)
        · exact have h := iteT hc h; tR <| rM rfl rfl <| ARun.qv (q_addw rfl rfl) rfl <| rA rfl rfl <| rN <| ATodo.stop <| ImpX.lq [] ⟨w64 ((w64 (shrI .u64 (IntKind.u64.wrap (w64 (n3 + n4))) (1 : Int))) + (1 : Int)), n4, h, rfl⟩ rfl rfl
        · exact have h := iteF hc h; tR <| rM rfl rfl <| rA rfl rfl <| rN <| ATodo.stop <| ImpX.lq [] ⟨n3, w64 (shrI .u64 (IntKind.u64.wrap (w64 (n3 + n4))) (1 : Int)), h, rfl⟩ rfl rfl
      · rintro σ' ⟨n7, n8, h, rfl⟩
        unfold slices_BinarySearchFunc_Prop_Prop_string_j1 at h
        refine ATodo.blk <| ATodo.stop <| ?_
        obtain rfl := Option.some.inj h
        exact hJ1 _ _ rfl <| ImpX.lq [] rfl rfl rfl
    · refine have h := iteF hc h; ATodo.exit rfl <| have h := outL h hA1; ?_
      unfold slices_BinarySearchFunc_Prop_Prop_string_k3 at h
      refine tS <| ATodo.cut (fun σ' => ∃ (c9 : Bool), slices_BinarySearchFunc_Prop_Prop_string_j2 n3 c9 = some r ∧ σ' = ⟨49, [(6, I n3), (7, .bool c9)], []⟩) ?_ ?_
      · refine tR <| rM rfl rfl <| rM rfl rfl <| rM rfl rfl <| ARun.qv (q_lss rfl rfl) rfl <| rM rfl rfl <| ARun.guard_dt rfl rfl rfl (fun hc => ?_) (fun hc => ?_)
        · exact have h := iteT hc h; rM rfl rfl <| rY rfl rfl rfl <| rM rfl rfl <| rY rfl rfl rfl <| rM rfl rfl <| rY rfl rfl rfl <| bndE h fun v10 e3 h => ARun.qv (t_index rfl rfl rfl e3 rfl rfl) rfl <| rY rfl rfl rfl <| ARun.qv (q_load_rptr_agg rfl rfl rfl) rfl <| rY rfl rfl rfl <| rM rfl rfl <| rY rfl rfl rfl <| bndE h fun v11 e4 h => r_callvp rfl rfl (fnc_h e4) (CoL.refl _) rfl <| rY rfl rfl rfl <| ARun.qv (q_eql rfl rfl) rfl <| rT rfl rfl rfl <| rA rfl rfl <| rA rfl rfl <| rN <| ATodo.stop <| ImpX.lq [] ⟨decide (v11 = (0 : Int)), h, rfl⟩ rfl rfl
        · exact have h := iteF hc h; rG rfl rfl rfl rfl <| rG rfl rfl rfl rfl <| rG rfl rfl rfl rfl <| rG rfl rfl rfl rfl <| rG rfl rfl rfl rfl <| rG rfl rfl rfl rfl <| rG rfl rfl rfl rfl <| rE rfl rfl rfl <| rA rfl rfl <| rA rfl rfl <| rN <| ATodo.stop <| ImpX.lq [] ⟨false, h, rfl⟩ rfl rfl
      · rintro σ' ⟨c9, h, rfl⟩
        unfold slices_BinarySearchFunc_Prop_Prop_string_j2 at h
        refine ATodo.ret <| ?_
        obtain rfl := Option.some.inj h
        exact ImpX.here ⟨_, .cons (.tmp _ _ rfl) (.cons (.tmp _ _ rfl) .nil), rfl⟩

set_option maxHeartbeats 4000000 in
theorem twin_find_c [GI : GTab] {p0x0 : List PropS} {p1x0 : Str} {r : Int} (h : twin_find p0x0 p1x0 = some r) : Pu Tryz.prog 126 [.list 5 (p0x0.map PropS.av), .str p1x0] (I r) := by
  unfold twin_find at h
  refine ACall.bodyN Tryz.func126 rfl Tryz.ntmps126 Tryz.results126 rfl rfl ?_
  refine tSR <| rA rfl rfl <| rN <| tSR <| rM rfl rfl <| rM rfl rfl <| bndE h fun v1 e1 h => r_callpB rfl (slices_BinarySearchFunc_Prop_Prop_string_c (fun e => twin_find_1x_c (Option.some.inj e)) e1) (.cons (.co (.refl _)) (.cons (.co (.refl _)) (.cons (.funcL _ _ _ .nil) .nil))) rfl rfl <| rM rfl rfl <| rX rfl rfl rfl <| rX rfl rfl rfl <| rA rfl rfl <| rA rfl rfl <| rN <| tS <| tSR <| rM rfl rfl <| ARun.qv (q_not rfl) rfl <| rN <| ATodo.cond rfl (fun hc => ?_) (fun hc => ?_)
  · refine have h := iteT hc h; tSR <| rA rfl rfl <| rN <| ATodo.ret <| ?_
    obtain rfl := Option.some.inj h
    exact ImpX.here ⟨_, .cons (.tmp _ _ rfl) .nil, rfl⟩
  · refine have h := iteFb hc h; tK <| tSR <| rM rfl rfl <| rA rfl rfl <| rN <| ATodo.ret <| ?_
    obtain rfl := Option.some.inj h
    exact ImpX.here ⟨_, .cons (.tmp _ _ rfl) .nil, rfl⟩

set_option maxHeartbeats 4000000 in
theorem twin_valueOf_c [GI : GTab] {p0x0 : List PropS} {p1x0 : Str} {r : ValueS} (h : twin_valueOf p0x0 p1x0 = some r) : Pu Tryz.prog 77 [.list 5 (p0x0.map PropS.av), .str p1x0] (.agg [I r.Kind, .bool r.Flag, I r.Number, .str r.Words]) := by
  unfold twin_valueOf at h
  refine ACall.bodyN Tryz.func77 rfl Tryz.ntmps77 Tryz.results77 rfl rfl ?_
  refine tSR <| n_alloc rfl rfl rfl rfl fun b1 => rN <| tS <| tSR <| rM rfl rfl <| rM rfl rfl <| bndE h fun v2 e1 h => r_callp rfl (twin_find_c e1) (CoL.refl _) rfl <| rA rfl rfl <| rN <| tSR <| rM rfl rfl <| ARun.qv (q_geq rfl rfl) rfl <| rN <| ATodo.cond_d rfl (fun hc => ?_) (fun hc => ?_)
  · refine have h := iteT hc h; tSR <| rM rfl rfl <| rM rfl rfl <| bndE h fun v3 e2 h => ARun.qv (t_index rfl rfl rfl e2 rfl rfl) rfl <| ARun.qv (n_field_rptr rfl rfl) rfl <| ARun.qv (q_load_rptr_agg rfl rfl rfl) rfl <| n_store_ptr rfl rfl rfl rfl .p0 rfl rfl <| rN <| ATodo.ret <| ?_
    obtain rfl := Option.some.inj h
    exact ImpX.here ⟨_, .cons (.all _ _ _ _ _ _ rfl .p0 TUnder.h TInfo.h rfl rfl) .nil, rfl⟩
  · refine have h := iteF hc h; tK <| tSR <| ARun.qv (n_build rfl rfl rfl rfl rfl) rfl <| n_store_ptr rfl rfl rfl rfl .p0 rfl rfl <| rN <| ATodo.ret <| ?_
    obtain rfl := Option.some.inj h
    exact ImpX.here ⟨_, .cons (.all _ _ _ _ _ _ rfl .p0 TUnder.h TInfo.h rfl rfl) .nil, rfl⟩

set_option maxHeartbeats 4000000 in
theorem twin_Owed_1x_c [GI : GTab] {p0x0 : Str} {p1x0 : Str} {r : Bool} (h : twin_Owed_1x p0x0 p1x0 = some r) : Pu Tryz.prog 79 [.str p0x0, .rptr [.str p1x0]] (.bool r) := by
  unfold twin_Owed_1x at h
  refine ACall.bodyN Tryz.func79 rfl Tryz.ntmps79 Tryz.results79 rfl rfl ?_
  refine tSR <| rA rfl rfl <| rN <| tS <| ATodo.cut (fun σ' => ∃ (c1 : Bool), twin_Owed_1x_j1 c1 = some r ∧ σ' = ⟨12, [(3, .bool c1)], []⟩) ?_ ?_
  · refine tR <| rM rfl rfl <| ARun.qv (q_load_rptr rfl rfl rfl) rfl <| ARun.qv (q_seq rfl rfl) rfl <| rM rfl rfl <| ARun.guard_df rfl rfl rfl (fun hc => ?_) (fun hc => ?_)
    · exact have h := iteF hc h; ARun.qv (q_load_rptr rfl rfl rfl) rfl <| rY rfl rfl rfl <| rM rfl rfl <| rY rfl rfl rfl <| bndE h fun v2 e1 h => r_callp rfl (base_Below_c e1) (CoL.refl _) rfl <| rE rfl rfl rfl <| rA rfl rfl <| rN <| ATodo.stop <| ImpX.lq [] ⟨v2, h, rfl⟩ rfl rfl
    · exact have h := iteT hc h; rG rfl rfl rfl rfl <| rG rfl rfl rfl rfl <| rT rfl rfl rfl <| rA rfl rfl <| rN <| ATodo.stop <| ImpX.lq [] ⟨true, h, rfl⟩ rfl rfl
  · rintro σ' ⟨c1, h, rfl⟩
    unfold twin_Owed_1x_j1 at h
    refine ATodo.ret <| ?_
    obtain rfl := Option.some.inj h
    exact ImpX.here ⟨_, .cons (.tmp _ _ rfl) .nil, rfl⟩

set_option maxHeartbeats 4000000 in
theorem slices_IndexFunc_string_string_c [GI : GTab] {p0x0 : List Str} {fnb : Str → Option Bool} {fnb_F : FuncId} [IsFn Tryz.prog fnb_F] {fnb_C : List AV} (fnb_h : ∀ {y0 : _} {u : Bool}, fnb y0 = some u → Pu Tryz.prog fnb_F (.str y0 ::  fnb_C) (.bool u)) {r : Int} (h : slices_IndexFunc_string_string p0x0 fnb = some r) : Pu Tryz.prog 127 [.list 1 (p0x0.map AV.str), .func (.func fnb_F) fnb_C] (I r) := by
  unfold slices_IndexFunc_string_string at h
  refine ACall.bodyN Tryz.func127 rfl Tryz.ntmps127 Tryz.results127 rfl rfl ?_
  refine tSR <| rA rfl rfl <| rN <| tS <| tSR <| rM rfl rfl <| ARun.qv (t_len rfl) rfl <| rM rfl rfl <| rN <| ATodo.block <| ATodo.loopI (fun x : Int => slices_IndexFunc_string_string_b1 p0x0 fnb x) (fun x σ' => σ' = ⟨19, [(0, .list 1 (p0x0.map AV.str)), (1, .func (.func fnb_F) fnb_C), (7, I (p0x0.length : Int)), (8, I x)], []⟩) h ?_ ?_
  · exact ImpX.lq [] rfl rfl rfl
  · intro n2 z1 σ' J1 hmk h hJ1 hA1
    obtain rfl := hmk
    replace h : slices_IndexFunc_string_string_b1 p0x0 fnb n2 = some z1 := h
    unfold slices_IndexFunc_string_string_b1 at h
    refine tSR <| ARun.qv (q_lss rfl rfl) rfl <| rN <| tS <| ATodo.cond_d rfl (fun hc => ?_) (fun hc => ?_)
    · refine have h := iteT hc h; tK <| tS <| ATodo.block <| tSR <| rM rfl rfl <| rA rfl rfl <| rN <| tSR <| rM rfl rfl <| rM rfl rfl <| rM rfl rfl <| bndE h fun v3 e1 h => ARun.qv (t_index rfl rfl rfl e1 rfl rfl) rfl <| ARun.qv (q_load_rptr rfl rfl rfl) rfl <| bndE h fun v4 e2 h => r_callvp rfl rfl (fnb_h e2) (CoL.refl _) rfl <| rN <| ATodo.cond rfl (fun hc => ?_) (fun hc => ?_)
      · refine have h := iteT hc h; tSR <| rM rfl rfl <| rA rfl rfl <| rN <| ATodo.ret <| have h := outL h hA1; ?_
        obtain rfl := Option.some.inj h
        exact ImpX.here ⟨_, .cons (.tmp _ _ rfl) .nil, rfl⟩
      · refine have h := iteFb hc h; tK <| ATodo.blk <| tR <| ARun.qv (q_addw rfl rfl) rfl <| rM rfl rfl <| rN <| ATodo.stop <| ?_
        obtain rfl := Option.some.inj h
        exact hJ1 _ _ rfl <| ImpX.lq [] rfl rfl rfl
    · refine have h := iteF hc h; ATodo.exit rfl <| have h := outL h hA1; tSR <| rA rfl rfl <| rN <| ATodo.ret <| ?_
      obtain rfl := Option.some.inj h
      exact ImpX.here ⟨_, .cons (.tmp _ _ rfl) .nil, rfl⟩

set_option maxHeartbeats 4000000 in
theorem slices_ContainsFunc_string_string_c [GI : GTab] {p0x0 : List Str} {fnb : Str → Option Bool} {fnb_F : FuncId} [IsFn Tryz.prog fnb_F] {fnb_C : List AV} (fnb_h : ∀ {y0 : _} {u : Bool}, fnb y0 = some u → Pu Tryz.prog fnb_F (.str y0 ::  fnb_C) (.bool u)) {r : Bool} (h : slices_ContainsFunc_string_string p0x0 fnb = some r) : Pu Tryz.prog 78 [.list 1 (p0x0.map AV.str), .func (.func fnb_F) fnb_C] (.bool r) := by
  unfold slices_ContainsFunc_string_string at h
  refine ACall.bodyN Tryz.func78 rfl Tryz.ntmps78 Tryz.results78 rfl rfl ?_
  refine tSR <| rA rfl rfl <| rN <| tSR <| rM rfl rfl <| rM rfl rfl <| bndE h fun v1 e1 h => r_callpB rfl (slices_IndexFunc_string_string_c fnb_h e1) (.cons (.co (.refl _)) (.cons (.co (.refl _)) .nil)) rfl rfl <| ARun.qv (q_geq rfl rfl) rfl <| rA rfl rfl <| rN <| ATodo.ret <| ?_
  obtain rfl := Option.some.inj h
  exact ImpX.here ⟨_, .cons (.tmp _ _ rfl) .nil, rfl⟩

set_option maxHeartbeats 4000000 in
theorem twin_Owed_2x_c [GI : GTab] {p0x0 : PropS} {p1x0 : Str} {r : Bool} (h : twin_Owed_2x p0x0 p1x0 = some r) : Pu Tryz.prog 81 [.agg [.str p0x0.Name, I p0x0.Value.Kind, .bool p0x0.Value.Flag, I p0x0.Value.Number, .str p0x0.Value.Words], .rptr [.str p1x0]] (.bool r) := by
  unfold twin_Owed_2x at h
  refine ACall.bodyN Tryz.func81 rfl Tryz.ntmps81 Tryz.results81 rfl rfl ?_
  refine tSR <| n_box rfl rfl rfl rfl fun b1 => rA rfl rfl <| rN <| tSR <| rF rfl rfl rfl <| rL rfl rfl .p0 rfl rfl <| ARun.qv (q_load_rptr rfl rfl rfl) rfl <| bndE h fun v2 e1 h => r_callp rfl (base_Below_c e1) (CoL.refl _) rfl <| rA rfl rfl <| rN <| ATodo.ret <| ?_
  obtain rfl := Option.some.inj h
  exact ImpX.here ⟨_, .cons (.tmp _ _ rfl) .nil, rfl⟩

set_option maxHeartbeats 4000000 in
theorem slices_IndexFunc_Prop_Prop_c [GI : GTab] {p0x0 : List PropS} {fnb : PropS → Option Bool} {fnb_F : FuncId} [IsFn Tryz.prog fnb_F] {fnb_C : List AV} (fnb_h : ∀ {y0 : _} {u : Bool}, fnb y0 = some u → Pu Tryz.prog fnb_F (.agg [.str y0.Name, I y0.Value.Kind, .bool y0.Value.Flag, I y0.Value.Number, .str y0.Value.Words] ::  fnb_C) (.bool u)) {r : Int} (h : slices_IndexFunc_Prop_Prop p0x0 fnb = some r) : Pu Tryz.prog 128 [.list 5 (p0x0.map PropS.av), .func (.func fnb_F) fnb_C] (I r) := by
  unfold slices_IndexFunc_Prop_Prop at h
  refine ACall.bodyN Tryz.func128 rfl Tryz.ntmps128 Tryz.results128 rfl rfl ?_
  refine tSR <| rA rfl rfl <| rN <| tS <| tSR <| rM rfl rfl <| ARun.qv (t_len rfl) rfl <| rM rfl rfl <| rN <| ATodo.block <| ATodo.loopI (fun x : Int => slices_IndexFunc_Prop_Prop_b1 p0x0 fnb x) (fun x σ' => σ' = ⟨19, [(0, .list 5 (p0x0.map PropS.av)), (1, .func (.func fnb_F) fnb_C), (7, I (p0x0.length : Int)), (8, I x)], []⟩) h ?_ ?_
  · exact ImpX.lq [] rfl rfl rfl
  · intro n2 z1 σ' J1 hmk h hJ1 hA1
    obtain rfl := hmk
    replace h : slices_IndexFunc_Prop_Prop_b1 p0x0 fnb n2 = some z1 := h
    unfold slices_IndexFunc_Prop_Prop_b1 at h
    refine tSR <| ARun.qv (q_lss rfl rfl) rfl <| rN <| tS <| ATodo.cond_d rfl (fun hc => ?_) (fun hc => ?_)
    · refine have h := iteT hc h; tK <| tS <| ATodo.block <| tSR <| rM rfl rfl <| rA rfl rfl <| rN <| tSR <| rM rfl rfl <| rM rfl rfl <| rM rfl rfl <| bndE h fun v3 e1 h => ARun.qv (t_index rfl rfl rfl e1 rfl rfl) rfl <| ARun.qv (q_load_rptr_agg rfl rfl rfl) rfl <| bndE h fun v4 e2 h => r_callvp rfl rfl (fnb_h e2) (CoL.refl _) rfl <| rN <| ATodo.cond rfl (fun hc => ?_) (fun hc => ?_)
      · refine have h := iteT hc h; tSR <| rM rfl rfl <| rA rfl rfl <| rN <| ATodo.ret <| have h := outL h hA1; ?_
        obtain rfl := Option.some.inj h
        exact ImpX.here ⟨_, .cons (.tmp _ _ rfl) .nil, rfl⟩
      · refine have h := iteFb hc h; tK <| ATodo.blk <| tR <| ARun.qv (q_addw rfl rfl) rfl <| rM rfl rfl <| rN <| ATodo.stop <| ?_
        obtain rfl := Option.some.inj h
        exact hJ1 _ _ rfl <| ImpX.lq [] rfl rfl rfl
    · refine have h := iteF hc h; ATodo.exit rfl <| have h := outL h hA1; tSR <| rA rfl rfl <| rN <| ATodo.ret <| ?_
      obtain rfl := Option.some.inj h
      exact ImpX.here ⟨_, .cons (.tmp _ _ rfl) .nil, rfl⟩

set_option maxHeartbeats 4000000 in
theorem slices_ContainsFunc_Prop_Prop_c [GI : GTab] {p0x0 : List PropS} {fnb : PropS → Option Bool} {fnb_F : FuncId} [IsFn Tryz.prog fnb_F] {fnb_C : List AV} (fnb_h : ∀ {y0 : _} {u : Bool}, fnb y0 = some u → Pu Tryz.prog fnb_F (.agg [.str y0.Name, I y0.Value.Kind, .bool y0.Value.Flag, I y0.Value.Number, .str y0.Value.Words] ::  fnb_C) (.bool u)) {r : Bool} (h : slices_ContainsFunc_Prop_Prop p0x0 fnb = some r) : Pu Tryz.prog 80 [.list 5 (p0x0.map PropS.av), .func (.func fnb_F) fnb_C] (.bool r) := by
  unfold slices_ContainsFunc_Prop_Prop at h
  refine ACall.bodyN Tryz.func80 rfl Tryz.ntmps80 Tryz.results80 rfl rfl ?_
  refine tSR <| rA rfl rfl <| rN <| tSR <| rM rfl rfl <| rM rfl rfl <| bndE h fun v1 e1 h => r_callpB rfl (slices_IndexFunc_Prop_Prop_c fnb_h e1) (.cons (.co (.refl _)) (.cons (.co (.refl _)) .nil)) rfl rfl <| ARun.qv (q_geq rfl rfl) rfl <| rA rfl rfl <| rN <| ATodo.ret <| ?_
  obtain rfl := Option.some.inj h
  exact ImpX.here ⟨_, .cons (.tmp _ _ rfl) .nil, rfl⟩

set_option maxHeartbeats 4000000 in
theorem twin_Owed_c {p0x0 : TwinS} {r : (List Change) × Int} (h : twin_Owed p0x0 = some r) : ACall Tryz.prog 30 [.agg [.list 8 (p0x0.Desired.map Cell.av), .list 8 (p0x0.Reported.map Cell.av)]] [] (T1 (fun d_0 => [(d_0, .arr 9 (r.1.map Change.av))]) (fun d_0 => .tup [.sl 9 d_0 0 r.1.length, I r.2])) := by
  unfold twin_Owed at h
  refine ACall.lessH ?_
  refine ACall.bodyN Tryz.func30 rfl Tryz.ntmps30 Tryz.results30 rfl rfl ?_
  refine tSR <| n_box rfl rfl rfl rfl fun b1 => rA rfl rfl <| rA rfl rfl <| rN <| tS <| tSR <| ARun.qv (q_load_ptr_all rfl rfl .p0 rfl) rfl <| bndE h fun v2 e1 h => r_callp rfl (twin_twinFault_c e1) (CoL.refl _) rfl <| rA rfl rfl <| rN <| tSR <| rM rfl rfl <| ARun.qv (q_neq rfl rfl) rfl <| rN <| ATodo.cond_d rfl (fun hc => ?_) (fun hc => ?_)
  · refine have h := iteT hc h; tSR <| rM rfl rfl <| rA rfl rfl <| rA rfl rfl <| rN <| ATodo.ret <| ?_
    obtain rfl := Option.some.inj h
    exact ImpX.arr (s := 2) 9 rfl fun b3 => ImpX.here ⟨_, .cons (.tmp _ _ rfl) (.cons (.tmp _ _ rfl) .nil), _, .cons .p0 .nil, ⟨b3, rfl, rfl⟩⟩
  · refine have h := iteF hc h; tK <| tS <| bndE h fun v4 e2 h => ATodo.regionT (id := 4) (A := [0, 1, 3, 0, 8, 31, 63, 127]) (H0 := []) (HH := fun β => [((β 2), .arr 5 (v4.map PropS.av)), (b1, .cells [.list 8 (p0x0.Desired.map Cell.av), .list 8 (p0x0.Reported.map Cell.av)])]) 5 mixed rfl (by kernel_rfl) (by kernel_rfl) [⟨some 2, none, [], fun b => (b, .arr 5 (v4.map PropS.av)), none⟩] [2] rfl (by kernel_rfl) rfl .nil (fun _ => rfl) <| AT.am 2 rfl rfl <| AM.qv (n_field_ptr rfl rfl) rfl <| AM.qv (q_load_ptr rfl rfl .p0 rfl) rfl <| AM.nil <| AT.runD (V := fun b => .sl 5 b 0 v4.length) (Ti := []) (Pi := fun b => [(b, .arr 5 (v4.map PropS.av))]) (fun _ => rfl) (fun _ => rfl) (fun _ _ => rfl) rfl (fun _ => rfl) rfl rfl rfl ?_ ?_
    · exact t_call1 rfl (twin_visible_c e2) (CoL.refl _) .nil (fun _ => rfl) rfl fun b5 => ARun.nil ⟨b5, _, rfl, rfl⟩
    refine AT.am 2 rfl rfl <| AM.qv (n_field_ptr rfl rfl) rfl <| AM.qv (q_load_ptr rfl rfl .p0 rfl) rfl <| AM.nil <| AT.nilN (fun _ => rfl) fun β => ?_
    generalize β 2 = b5
    clear β
    refine bndE h fun v6 e3 h => t_call1 rfl (twin_visible_c e3) (CoL.refl _) .nil (fun _ => rfl) rfl fun b7 => rA rfl rfl <| rA rfl rfl <| rN <| tSR <| rA rfl rfl <| rN <| tS <| tSR <| rF rfl rfl rfl <| rL rfl rfl .p2 rfl rfl <| ARun.qv (t_len rfl) rfl <| rM rfl rfl <| rN <| ATodo.block <| ATodo.loopI (fun x : (List Str) × Int => twin_Owed_b1 p0x0 v4 v6 x.1 x.2) (fun x σ' => ∃ (b11 : Bk), σ' = ⟨94, [(1, .ptr b1 0), (5, .sl 5 b5 0 v4.length), (6, .sl 5 b7 0 v6.length), (7, .sl 1 b11 0 x.1.length), (27, .list 8 (p0x0.Desired.map Cell.av)), (28, I (p0x0.Desired.length : Int)), (29, I x.2)], [(b1, .cells [.list 8 (p0x0.Desired.map Cell.av), .list 8 (p0x0.Reported.map Cell.av)]), (b5, .arr 5 (v4.map PropS.av)), (b7, .arr 5 (v6.map PropS.av)), (b11, .arr 1 (x.1.map AV.str))]⟩) h ?_ ?_
    · exact ImpX.arr (s := 7) 1 rfl fun b14 => ImpX.lq [3, 2, 1, 0] ⟨b14, rfl⟩ rfl rfl
    · intro x z1 σ' J1 hmk h hJ1 hA1
      obtain ⟨l12, n13⟩ := x
      obtain ⟨b11, rfl⟩ := hmk
      replace h : twin_Owed_b1 p0x0 v4 v6 l12 n13 = some z1 := h
      unfold twin_Owed_b1 at h
      refine tSR <| ARun.qv (q_lss rfl rfl) rfl <| rN <| tS <| ATodo.cond_d rfl (fun hc => ?_) (fun hc => ?_)
      · refine have h := iteT hc h; tK <| tS <| ATodo.block <| tSR <| bndE h fun v15 e4 h => ARun.qv (t_index rfl rfl rfl e4 rfl rfl) rfl <| ARun.qv (q_load_rptr_agg rfl rfl rfl) rfl <| n_alloc rfl rfl rfl rfl fun b16 => n_store_ptr rfl rfl rfl rfl .p0 rfl rfl <| rN <| tS <| ATodo.cut (fun σ' => ∃ (c17 : Bool), twin_Owed_j1 l12 n13 v15 c17 = some z1 ∧ σ' = ⟨94, [(1, .ptr b1 0), (5, .sl 5 b5 0 v4.length), (6, .sl 5 b7 0 v6.length), (7, .sl 1 b11 0 l12.length), (9, .ptr b16 0), (27, .list 8 (p0x0.Desired.map Cell.av)), (28, I (p0x0.Desired.length : Int)), (29, I n13), (44, .bool c17)], [(b1, .cells [.list 8 (p0x0.Desired.map Cell.av), .list 8 (p0x0.Reported.map Cell.av)]), (b5, .arr 5 (v4.map PropS.av)), (b7, .arr 5 (v6.map PropS.av)), (b11, .arr 1 (l12.map AV.str)), (b16, .cells [.str v15.Prop_.Name, I v15.Prop_.Value.Kind, .bool v15.Prop_.Value.Flag, I v15.Prop_.Value.Number, .str v15.Prop_.Value.Words, I v15.Stamp.At, .str v15.Stamp.By, I v15.Stamp.No])]⟩) ?_ ?_
        · refine tR <| rF rfl rfl rfl <| rF rfl rfl rfl <| rF rfl rfl rfl <| rL rfl rfl .p0 rfl rfl <| ARun.qv (q_eql rfl rfl) rfl <| rM rfl rfl <| ARun.guard_dt rfl rfl rfl (fun hc => ?_) (fun hc => ?_)
          · exact have h := iteT hc h; rF rfl rfl rfl <| rY rfl rfl rfl <| rL rfl rfl .p1 rfl rfl <| rY rfl rfl rfl <| ARun.qv (q_load_ptr_all rfl rfl .p0 rfl) rfl <| rY rfl rfl rfl <| bndE h fun v18 e5 h => r_callpB rfl (twin_hidden_c (fun e => twin_every_c (Option.some.inj e)) e5) (.cons (.co (.refl _)) (.cons (.co (.refl _)) (.cons (.funcL _ _ _ .nil) .nil))) rfl rfl <| rY rfl rfl rfl <| ARun.qv (q_not rfl) rfl <| rT rfl rfl rfl <| rN <| ATodo.stop <| ImpX.lq [1, 1, 1, 1, 0] ⟨!v18, h, rfl⟩ rfl rfl
          · exact have h := iteF hc h; rG rfl rfl rfl rfl <| rG rfl rfl rfl rfl <| rG rfl rfl rfl rfl <| rG rfl rfl rfl rfl <| rE rfl rfl rfl <| rN <| ATodo.stop <| ImpX.lq [1, 1, 1, 1, 0] ⟨false, h, rfl⟩ rfl rfl
        · rintro σ' ⟨c17, h, rfl⟩
          unfold twin_Owed_j1 at h
          refine ATodo.cut (fun σ' => ∃ (b19 : Bk) (l20 : List Str), twin_Owed_j2 n13 l20 = some z1 ∧ σ' = ⟨94, [(1, .ptr b1 0), (5, .sl 5 b5 0 v4.length), (6, .sl 5 b7 0 v6.length), (7, .sl 1 b19 0 l20.length), (27, .list 8 (p0x0.Desired.map Cell.av)), (28, I (p0x0.Desired.length : Int)), (29, I n13)], [(b1, .cells [.list 8 (p0x0.Desired.map Cell.av), .list 8 (p0x0.Reported.map Cell.av)]), (b5, .arr 5 (v4.map PropS.av)), (b7, .arr 5 (v6.map PropS.av)), (b19, .arr 1 (l20.map AV.str))]⟩) ?_ ?_
          · refine ATodo.cond rfl (fun hc => ?_) (fun hc => ?_)
            · exact have h := iteT hc h; tR <| rM rfl rfl <| rF rfl rfl rfl <| rF rfl rfl rfl <| rL rfl rfl .p4 rfl rfl <| n_buildSliceL (xs := ([v15.Prop_.Name] : List Str).map AV.str) rfl rfl rfl rfl rfl rfl <| bndE h fun l21 e6 h => t_append (g := AV.str) rfl rfl rfl rfl rfl rfl rfl rfl (.list _) e6 (fun _ => .p3) rfl fun b22 => rA rfl rfl <| rN <| ATodo.stop <| ImpX.lq [0, 0, 0, 0] ⟨b22, l21, h, rfl⟩ rfl rfl
            · exact have h := iteFb hc h; tK <| ATodo.stop <| ImpX.lq [0, 0, 0, 0] ⟨b11, l12, h, rfl⟩ rfl rfl
          · rintro σ' ⟨b19, l20, h, rfl⟩
            unfold twin_Owed_j2 at h
            refine ATodo.blk <| tR <| ARun.qv (q_addw rfl rfl) rfl <| rM rfl rfl <| rN <| ATodo.stop <| ?_
            obtain rfl := Option.some.inj h
            exact hJ1 _ _ rfl <| ImpX.lq [0, 0, 0, 0] ⟨b19, rfl⟩ rfl rfl
      · refine have h := iteF hc h; ATodo.exit rfl <| have h := outL h hA1; ?_
        unfold twin_Owed_k6 at h
        refine tSR <| rA rfl rfl <| rN <| tS <| tSR <| rM rfl rfl <| rM rfl rfl <| ARun.ghost <| ImpX.freeze .p1 <| ImpX.here <| ARun.ghost <| ImpX.freeze .p2 <| ImpX.here <| n_buildSliceL (xs := [.sl 5 b5 0 v4.length, .sl 5 b7 0 v6.length]) rfl rfl rfl rfl rfl rfl <| ARun.ghost <| ImpX.cox (s := 54) (av' := .list 1 (([v4, v6] : List (List PropS)).map (encL 5 PropS.av))) rfl (CoX.listL (.cons (.co (Co.froT .p1)) (.cons (.co (Co.froT .p2)) .nil)) rfl rfl) <| ImpX.here <| bndE h fun v23 e7 h => t_call1 rfl (twin_names_c e7) (CoL.refl _) .nil (fun _ => rfl) rfl fun b24 => ARun.qv (t_len_sl rfl) rfl <| rM rfl rfl <| rN <| ATodo.block <| ATodo.loopI (fun x : (List Change) × Int => twin_Owed_b2 v4 v6 l12 v23 x.1 x.2) (fun x σ' => ∃ (b28 : Bk), σ' = ⟨94, [(5, .sl 5 b5 0 v4.length), (6, .sl 5 b7 0 v6.length), (7, .sl 1 b11 0 l12.length), (10, .sl 9 b28 0 x.1.length), (55, .sl 1 b24 0 v23.length), (56, I (v23.length : Int)), (57, I x.2)], [(b5, .fro 5 (v4.map PropS.av)), (b7, .fro 5 (v6.map PropS.av)), (b11, .arr 1 (l12.map AV.str)), (b28, .arr 9 (x.1.map Change.av)), (b24, .arr 1 (v23.map AV.str))]⟩) h ?_ ?_
        · exact ImpX.arr (s := 10) 9 rfl fun b31 => ImpX.lq [3, 3, 3, 0, 0] ⟨b31, rfl⟩ rfl rfl
        · intro x z2 σ' J2 hmk h hJ2 hA2
          obtain ⟨l29, n30⟩ := x
          obtain ⟨b28, rfl⟩ := hmk
          replace h : twin_Owed_b2 v4 v6 l12 v23 l29 n30 = some z2 := h
          unfold twin_Owed_b2 at h
          refine tSR <| ARun.qv (q_lss rfl rfl) rfl <| rN <| tS <| ATodo.cond_d rfl (fun hc => ?_) (fun hc => ?_)
          · refine have h := iteT hc h; tK <| tS <| ATodo.cut (fun σ' => ∃ (b32 : Bk) (l33 : List Change), twin_Owed_j3 n30 l33 = some z2 ∧ σ' = ⟨94, [(5, .sl 5 b5 0 v4.length), (6, .sl 5 b7 0 v6.length), (7, .sl 1 b11 0 l12.length), (10, .sl 9 b32 0 l33.length), (55, .sl 1 b24 0 v23.length), (56, I (v23.length : Int)), (57, I n30)], [(b5, .fro 5 (v4.map PropS.av)), (b7, .fro 5 (v6.map PropS.av)), (b11, .arr 1 (l12.map AV.str)), (b32, .arr 9 (l33.map Change.av)), (b24, .arr 1 (v23.map AV.str))]⟩) ?_ ?_
            · refine ATodo.block <| tSR <| bndE h fun v34 e8 h => ARun.qv (t_index_sl rfl rfl rfl e8) rfl <| ARun.qv (t_load_aptr (g := AV.str) rfl rfl (.inl .p4) e8 rfl) rfl <| n_alloc rfl rfl rfl rfl fun b35 => n_store_ptr rfl rfl rfl rfl .p0 rfl rfl <| rN <| tS <| bndE h fun v36 e9 h => bndE h fun v37 e10 h => ATodo.regionT (id := 16) (A := [0, 0, 3, 0, 0, 31, 0, 0, 255, 511]) (H0 := []) (HH := fun β => [((β 6), .cells [I (0 : Int), .bool false, I (0 : Int), .str []]), ((β 7), .cells [I (0 : Int), .bool false, I (0 : Int), .str []]), (b35, .cells [.str v34]), (b5, .fro 5 (v4.map PropS.av)), (b7, .fro 5 (v6.map PropS.av)), (b11, .arr 1 (l12.map AV.str)), (b28, .arr 9 (l29.map Change.av)), (b24, .arr 1 (v23.map AV.str))]) 8 mixed rfl (by kernel_rfl) (by kernel_rfl) [⟨some 6, none, [], fun b => (b, .cells [I (0 : Int), .bool false, I (0 : Int), .str []]), none⟩, ⟨some 7, none, [], fun b => (b, .cells [I (0 : Int), .bool false, I (0 : Int), .str []]), none⟩] [6, 7] rfl (by kernel_rfl) rfl .nil (fun _ => rfl) <| AT.am 6 rfl rfl <| AM.qv (q_move rfl) rfl <| AM.qv (q_load_ptr rfl rfl .p0 rfl) rfl <| AM.callp rfl (twin_valueOf_c e9) (.cons (Co.froT .p2) (.cons (.refl _) .nil)) rfl <| AM.qv (q_move rfl) rfl <| AM.qv (q_load_ptr rfl rfl .p0 rfl) rfl <| AM.callp rfl (twin_valueOf_c e10) (.cons (Co.froT .p1) (.cons (.refl _) .nil)) rfl <| AM.nil <| AT.runD (V := fun b => .ptr b 0) (Ti := []) (Pi := fun b => [(b, .cells [I (0 : Int), .bool false, I (0 : Int), .str []])]) (fun _ => rfl) (fun _ => rfl) (fun _ _ => rfl) rfl (fun _ => rfl) rfl rfl rfl ?_ ?_
              · exact n_alloc rfl rfl rfl rfl fun b38 => ARun.nil ⟨b38, _, rfl, rfl⟩
              refine AT.runD (V := fun b => .ptr b 0) (Ti := []) (Pi := fun b => [(b, .cells [I (0 : Int), .bool false, I (0 : Int), .str []])]) (fun _ => rfl) (fun _ => rfl) (fun _ _ => rfl) rfl (fun _ => rfl) rfl rfl rfl ?_ ?_
              · exact n_alloc rfl rfl rfl rfl fun b39 => ARun.nil ⟨b39, _, rfl, rfl⟩
              refine AT.nilN (fun _ => rfl) fun β => ?_
              generalize β 6 = b38
              generalize β 7 = b39
              clear β
              refine n_store_ptr rfl rfl rfl rfl .p0 rfl rfl <| n_store_ptr rfl rfl rfl rfl .p1 rfl rfl <| rN <| tS <| tS <| ATodo.cut (fun σ' => ∃ (c40 : Bool), twin_Owed_j4 l29 n30 v34 v36 v37 c40 = some z2 ∧ σ' = ⟨94, [(5, .sl 5 b5 0 v4.length), (6, .sl 5 b7 0 v6.length), (7, .sl 1 b11 0 l12.length), (10, .sl 9 b28 0 l29.length), (12, .ptr b35 0), (13, .ptr b38 0), (14, .ptr b39 0), (55, .sl 1 b24 0 v23.length), (56, I (v23.length : Int)), (57, I n30), (81, .bool c40)], [(b5, .fro 5 (v4.map PropS.av)), (b7, .fro 5 (v6.map PropS.av)), (b11, .arr 1 (l12.map AV.str)), (b28, .arr 9 (l29.map Change.av)), (b35, .cells [.str v34]), (b38, .cells [I v36.Kind, .bool v36.Flag, I v36.Number, .str v36.Words]), (b39, .cells [I v37.Kind, .bool v37.Flag, I v37.Number, .str v37.Words]), (b24, .arr 1 (v23.map AV.str))]⟩) ?_ ?_
              · refine tR <| rF rfl rfl rfl <| rL rfl rfl .p1 rfl rfl <| ARun.qv (q_eql rfl rfl) rfl <| rM rfl rfl <| ARun.guard_dt rfl rfl rfl (fun hc => ?_) (fun hc => ?_)
                · refine have h := iteT hc h; rM rfl rfl <| rY rfl rfl rfl <| ARun.qv (q_makeFunc rfl) rfl <| rY rfl rfl rfl <| bndE h fun v41 e11 h => r_callpB rfl (slices_ContainsFunc_string_string_c (fun e => twin_Owed_1x_c e) e11) (.cons (CoB.arrT .p5) (.cons (.funcL _ _ _ (.cons (.boxL _ _ _ .p2 (.cons (.co (.refl _)) .nil)) .nil)) .nil)) rfl rfl <| rY rfl rfl rfl <| ARun.qv (q_not rfl) rfl <| rT rfl rfl rfl <| rM rfl rfl <| ARun.guard rfl rfl rfl (fun hc => ?_) (fun hc => ?_)
                  · exact have h := iteT hc h; rM rfl rfl <| rY rfl rfl rfl <| ARun.qv (q_makeFunc rfl) rfl <| rY rfl rfl rfl <| bndE h fun v42 e12 h => r_callpB rfl (slices_ContainsFunc_Prop_Prop_c (fun e => twin_Owed_2x_c e) e12) (.cons (.co (Co.froT .p3)) (.cons (.funcL _ _ _ (.cons (.boxL _ _ _ .p2 (.cons (.co (.refl _)) .nil)) .nil)) .nil)) rfl rfl <| rY rfl rfl rfl <| ARun.qv (q_not rfl) rfl <| rT rfl rfl rfl <| rN <| ATodo.stop <| ImpX.lq [3, 3, 3, 3, 2, 0, 0, 0] ⟨!v42, h, rfl⟩ rfl rfl
                  · exact have h := iteFb hc h; rG rfl rfl rfl rfl <| rG rfl rfl rfl rfl <| rG rfl rfl rfl rfl <| rE rfl rfl rfl <| rN <| ATodo.stop <| ImpX.lq [3, 3, 3, 3, 2, 0, 0, 0] ⟨false, h, rfl⟩ rfl rfl
                · exact have h := iteF hc h; rG rfl rfl rfl rfl <| rG rfl rfl rfl rfl <| rG rfl rfl rfl rfl <| rE rfl rfl rfl <| rM rfl rfl <| rG rfl rfl rfl rfl <| rG rfl rfl rfl rfl <| rG rfl rfl rfl rfl <| rG rfl rfl rfl rfl <| rE rfl rfl rfl <| rN <| ATodo.stop <| ImpX.lq [3, 3, 3, 3, 2, 0, 0, 0] ⟨false, h, rfl⟩ rfl rfl
              · rintro σ' ⟨c40, h, rfl⟩
                unfold twin_Owed_j4 at h
                refine ATodo.cond rfl (fun hc => ?_) (fun hc => ?_)
                · exact have h := iteT hc h; ATodo.exit rfl <| ATodo.stop <| ImpX.lq [0, 0, 0, 0, 3] ⟨b28, l29, h, rfl⟩ rfl rfl
                · refine have h := iteFb hc h; tK <| tSR <| ARun.qv (q_load_ptr_all rfl rfl .p5 rfl) rfl <| ARun.qv (q_load_ptr_all rfl rfl .p6 rfl) rfl <| ARun.qv (t_tne (g := ValueS.av) (X := v36) (Y := v37) rfl rfl rfl rfl rfl) rfl <| rN <| ATodo.cut (fun σ' => ∃ (b43 : Bk) (l44 : List Change), twin_Owed_j5 n30 l44 = some z2 ∧ σ' = ⟨94, [(5, .sl 5 b5 0 v4.length), (6, .sl 5 b7 0 v6.length), (7, .sl 1 b11 0 l12.length), (10, .sl 9 b43 0 l44.length), (55, .sl 1 b24 0 v23.length), (56, I (v23.length : Int)), (57, I n30)], [(b5, .fro 5 (v4.map PropS.av)), (b7, .fro 5 (v6.map PropS.av)), (b11, .arr 1 (l12.map AV.str)), (b43, .arr 9 (l44.map Change.av)), (b24, .arr 1 (v23.map AV.str))]⟩) ?_ ?_
                  · refine ATodo.cond_d rfl (fun hc => ?_) (fun hc => ?_)
                    · exact have h := iteT hc h; tR <| rM rfl rfl <| rL rfl rfl .p4 rfl rfl <| ARun.qv (q_load_ptr_all rfl rfl .p5 rfl) rfl <| ARun.qv (q_load_ptr_all rfl rfl .p6 rfl) rfl <| ARun.qv (n_build rfl rfl rfl rfl rfl) rfl <| n_buildSliceL (xs := ([(⟨v34, v36, v37⟩ : Change)]).map Change.av) rfl rfl rfl rfl rfl rfl <| bndE h fun l45 e13 h => t_append (g := Change.av) rfl rfl rfl rfl rfl rfl rfl rfl (.list _) e13 (fun _ => .p3) rfl fun b46 => rA rfl rfl <| rN <| ATodo.stop <| ImpX.lq [0, 0, 0, 0, 3] ⟨b46, l45, h, rfl⟩ rfl rfl
                    · exact have h := iteF hc h; tK <| ATodo.stop <| ImpX.lq [0, 0, 0, 0, 3] ⟨b28, l29, h, rfl⟩ rfl rfl
                  · rintro σ' ⟨b43, l44, h, rfl⟩
                    unfold twin_Owed_j5 at h
                    exact ATodo.blk <| ATodo.stop <| ImpX.lq [0, 0, 0, 0, 0] ⟨b43, l44, h, rfl⟩ rfl rfl
            · rintro σ' ⟨b32, l33, h, rfl⟩
              unfold twin_Owed_j3 at h
              refine tR <| ARun.qv (q_addw rfl rfl) rfl <| rM rfl rfl <| rN <| ATodo.stop <| ?_
              obtain rfl := Option.some.inj h
              exact hJ2 _ _ rfl <| ImpX.lq [0, 0, 0, 0, 0] ⟨b32, rfl⟩ rfl rfl
          · refine have h := iteF hc h; ATodo.exit rfl <| have h := outL h hA2; tSR <| rM rfl rfl <| rA rfl rfl <| rA rfl rfl <| rN <| ATodo.ret <| ?_
            obtain rfl := Option.some.inj h
            exact ImpX.here ⟨_, .cons (.tmp _ _ rfl) (.cons (.tmp _ _ rfl) .nil), _, .cons .p3 .nil, ⟨b28, rfl, rfl⟩⟩

end Go.Proofs.YtmlgacejioccmaaGreatDoor

