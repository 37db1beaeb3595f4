/- The code computes the plain functions: proofs written by shal.py. -/
import Derived.Test.YtnnljbpmkcefaaaFixP
import Derived.Test.YtnnljbpmkcefaaaLib
set_option maxRecDepth 100000
set_option linter.unusedVariables false
set_option linter.unusedSimpArgs false
namespace Go.Proofs.Ytnnljbpmkcefaaa
open Go Go.Eng Go.Proofs Go.Beacon
attribute [local irreducible] ARun ATodo AQ QV ACall ImpX AWp AM
instance eqg37 : EqGd Try.prog 37 := ⟨by kernel_rfl⟩
instance eqt37 : EqTy Try.prog 37 2 Fix.av := ⟨fun x y w S v u hv hu => by
  obtain ⟨vs, rfl, hl, ha⟩ := At.agg_inv hv
  obtain ⟨us, rfl, hl', ha'⟩ := At.agg_inv hu
  obtain ⟨v0, p0, q0⟩ := AtA.get hl ha (off := 0) rfl
  obtain ⟨u0, p0', q0'⟩ := AtA.get hl' ha' (off := 0) rfl
  obtain ⟨v1, p1, q1⟩ := AtA.get hl ha (off := 1) rfl
  obtain ⟨u1, p1', q1'⟩ := AtA.get hl' ha' (off := 1) rfl
  obtain ⟨v2, p2, q2⟩ := AtA.get hl ha (off := 2) rfl
  obtain ⟨u2, p2', q2'⟩ := AtA.get hl' ha' (off := 2) rfl
  obtain ⟨v3, p3, q3⟩ := AtA.get hl ha (off := 3) rfl
  obtain ⟨u3, p3', q3'⟩ := AtA.get hl' ha' (off := 3) rfl
  obtain ⟨v4, p4, q4⟩ := AtA.get hl ha (off := 4) rfl
  obtain ⟨u4, p4', q4'⟩ := AtA.get hl' ha' (off := 4) rfl
  refine EqR.cast (EqR.struct Try.underlying37 (by kernel_rfl) (.cons (by decide) (part_one rfl p0) (part_one rfl p0') (EqR.up (EqTy.h (g := AV.str) x.Device y.Device w S _ _ q0 q0') 0)  (.cons (by decide) (part_one rfl p1) (part_one rfl p1') (EqR.up (EqTy.h (g := I) x.At y.At w S _ _ q1 q1') 0)  (.cons (by decide) (part_one rfl p2) (part_one rfl p2') (EqR.up (EqTy.h (g := I) x.X y.X w S _ _ q2 q2') 0)  (.cons (by decide) (part_one rfl p3) (part_one rfl p3') (EqR.up (EqTy.h (g := I) x.Y y.Y w S _ _ q3 q3') 0)  (.cons (by decide) (part_one rfl p4) (part_one rfl p4') (EqR.up (EqTy.h (g := I) x.Error y.Error w S _ _ q4 q4') 0) .nil)))))) ?_
  obtain ⟨_, _, _, _, _⟩ := x
  obtain ⟨_, _, _, _, _⟩ := y
  rw [Bool.eq_iff_iff]; simp [and_assoc]⟩
set_option maxHeartbeats 4000000 in
theorem Below_c {p0x0 : Int} {p1x0 : Int} {r : Int} (h : Below p0x0 p1x0 = some r) : Pu Try.prog 122 [I p0x0, I p1x0] (I r) := by
  unfold Below at h
  refine ACall.bodyN Try.func122 rfl Try.ntmps122 Try.results122 rfl rfl ?_
  refine ATodo.seq ?_
  refine ATodo.region ?_
  refine ARun.qv (q_assign rfl) rfl ?_
  refine ARun.nil ?_
  refine ATodo.seq ?_
  refine ATodo.seq ?_
  refine ATodo.region ?_
  refine ARun.qv (q_move rfl) rfl ?_
  refine ARun.qv (q_lss rfl rfl) rfl ?_
  refine ARun.nil ?_
  refine ATodo.cond_d rfl (fun hc => ?_) (fun hc => ?_)
  · replace h := iteT hc h
    refine ATodo.seq ?_
    refine ATodo.region ?_
    refine ARun.qv (q_assign rfl) rfl ?_
    refine ARun.nil ?_
    refine ATodo.ret ?_
    obtain rfl := Option.some.inj h
    exact ImpX.here ⟨_, .cons (.tmp _ _ rfl) .nil, rfl⟩
  · replace h := iteF hc h
    refine ATodo.skip ?_
    refine ATodo.seq ?_
    refine ATodo.region ?_
    refine ARun.qv (q_move rfl) rfl ?_
    refine ARun.qv (q_move rfl) rfl ?_
    obtain ⟨n1, e1, h⟩ := bnd h
    refine ARun.qv (t_remS rfl rfl e1) rfl ?_
    refine ARun.qv (q_assign rfl) rfl ?_
    refine ARun.nil ?_
    refine ATodo.seq ?_
    refine ATodo.seq ?_
    refine ATodo.region ?_
    refine ARun.qv (q_move rfl) rfl ?_
    refine ARun.qv (q_lss rfl rfl) rfl ?_
    refine ARun.nil ?_
    refine ATodo.cut (fun σ' => ∃ (n2 : Int), Below_j1 n2 = some r ∧ σ' = ⟨16, [(0, I n2)], []⟩) ?_ ?_
    · refine ATodo.cond_d rfl (fun hc => ?_) (fun hc => ?_)
      · replace h := iteT hc h
        refine ATodo.region ?_
        refine ARun.qv (q_move rfl) rfl ?_
        refine ARun.qv (q_move rfl) rfl ?_
        refine ARun.qv (q_addw rfl rfl) rfl ?_
        refine ARun.qv (q_assign rfl) rfl ?_
        refine ARun.nil ?_
        refine ATodo.stop ?_
        exact ImpX.lessP (by exact ⟨rfl, True.intro⟩) (.nil) (ImpX.here ⟨w64 (n1 + p1x0), h, rfl⟩)
      · replace h := iteF hc h
        refine ATodo.skip ?_
        refine ATodo.stop ?_
        exact ImpX.lessP (by exact ⟨rfl, True.intro⟩) (.nil) (ImpX.here ⟨n1, h, rfl⟩)
    · rintro σ' ⟨n2, h, rfl⟩
      unfold Below_j1 at h
      refine ATodo.seq ?_
      refine ATodo.region ?_
      refine ARun.qv (q_move rfl) rfl ?_
      refine ARun.qv (q_assign rfl) rfl ?_
      refine ARun.nil ?_
      refine ATodo.ret ?_
      obtain rfl := Option.some.inj h
      exact ImpX.here ⟨_, .cons (.tmp _ _ rfl) .nil, rfl⟩

set_option maxHeartbeats 4000000 in
theorem Stream_Next_c {b_0 : Bk} {p0x0 : Fleetmake_Stream} {p1x0 : Int} {r : Int × Fleetmake_Stream} (h : Stream_Next p0x0 p1x0 = some r) : ACall Try.prog 40 [.ptr b_0 0, I p1x0] [(b_0, .cells [.list 1 (p0x0.L.map I), I p0x0.at_])] (T0 ([(b_0, .cells [.list 1 (r.2.L.map I), I r.2.at_])]) (I r.1)) := by
  unfold Stream_Next at h
  refine ACall.lessH ?_
  refine ACall.bodyN Try.func40 rfl Try.ntmps40 Try.results40 rfl rfl ?_
  refine ATodo.seq ?_
  refine ATodo.region ?_
  refine ARun.qv (q_assign rfl) rfl ?_
  refine ARun.nil ?_
  refine ATodo.seq ?_
  refine ATodo.region ?_
  refine ARun.qv (q_move rfl) rfl ?_
  refine ARun.qv (q_nilCheck_ptr rfl) rfl ?_
  refine ARun.qv (n_field_ptr rfl rfl) rfl ?_
  refine ARun.qv (q_load_ptr rfl rfl .here rfl) rfl ?_
  refine ARun.qv (q_addw rfl rfl) rfl ?_
  refine ARun.qv (q_nilCheck_ptr rfl) rfl ?_
  refine ARun.qv (n_field_ptr rfl rfl) rfl ?_
  refine n_store_ptr rfl rfl rfl rfl .here rfl rfl ?_
  refine ARun.nil ?_
  refine ATodo.seq ?_
  refine ATodo.seq ?_
  refine ATodo.region ?_
  refine ARun.qv (q_move rfl) rfl ?_
  refine ARun.qv (q_nilCheck_ptr rfl) rfl ?_
  refine ARun.qv (n_field_ptr rfl rfl) rfl ?_
  refine ARun.qv (q_load_ptr rfl rfl .here rfl) rfl ?_
  refine ARun.qv (t_len rfl) rfl ?_
  refine ARun.qv (q_eql rfl rfl) rfl ?_
  refine ARun.nil ?_
  refine ATodo.cond_d rfl (fun hc => ?_) (fun hc => ?_)
  · replace h := iteT hc h
    refine ATodo.seq ?_
    refine ATodo.region ?_
    refine ARun.qv (q_move rfl) rfl ?_
    refine ARun.qv (q_nilCheck_ptr rfl) rfl ?_
    refine ARun.qv (n_field_ptr rfl rfl) rfl ?_
    refine ARun.qv (q_load_ptr rfl rfl .here rfl) rfl ?_
    refine ARun.qv (q_mulw rfl rfl) rfl ?_
    refine ARun.qv (q_move rfl) rfl ?_
    obtain ⟨v1, e1, h⟩ := bnd h
    refine r_callp rfl (Below_c e1) (CoL.refl _) rfl ?_
    refine ARun.qv (q_assign rfl) rfl ?_
    refine ARun.nil ?_
    refine ATodo.ret ?_
    obtain rfl := Option.some.inj h
    exact ImpX.here ⟨_, .cons (.tmp _ _ rfl) .nil, _, .cons .here .nil, ⟨rfl, rfl⟩⟩
  · replace h := iteF hc h
    refine ATodo.skip ?_
    refine ATodo.seq ?_
    refine ATodo.regionM (id := 4) (A := [0, 1, 3, 7, 15, 0, 32, 96, 224, 480, 1023, 2047]) 12 mixed rfl (by kernel_rfl) (by kernel_rfl) ?_
    refine AM.qv (q_move rfl) rfl ?_
    refine AM.qv (q_nilCheck_ptr rfl) rfl ?_
    refine AM.qv (n_field_ptr rfl rfl) rfl ?_
    refine AM.qv (q_load_ptr rfl rfl .here rfl) rfl ?_
    refine AM.qv (q_subw rfl rfl) rfl ?_
    refine AM.qv (q_move rfl) rfl ?_
    refine AM.qv (q_nilCheck_ptr rfl) rfl ?_
    refine AM.qv (n_field_ptr rfl rfl) rfl ?_
    refine AM.qv (q_load_ptr rfl rfl .here rfl) rfl ?_
    refine AM.qv (t_len rfl) rfl ?_
    obtain ⟨n2, e2, h⟩ := bnd h
    refine AM.qv (t_remS rfl rfl e2) rfl ?_
    refine AM.qv (q_assign rfl) rfl ?_
    refine AM.nil ?_
    refine ARun.nil ?_
    refine ATodo.seq ?_
    refine ATodo.regionM (id := 5) (A := [0, 1, 3, 7, 15, 0, 32, 96, 224, 480, 1023, 2047]) 12 mixed rfl (by kernel_rfl) (by kernel_rfl) ?_
    refine AM.qv (q_move rfl) rfl ?_
    refine AM.qv (q_nilCheck_ptr rfl) rfl ?_
    refine AM.qv (n_field_ptr rfl rfl) rfl ?_
    refine AM.qv (q_load_ptr rfl rfl .here rfl) rfl ?_
    refine AM.qv (q_subw rfl rfl) rfl ?_
    refine AM.qv (q_move rfl) rfl ?_
    refine AM.qv (q_nilCheck_ptr rfl) rfl ?_
    refine AM.qv (n_field_ptr rfl rfl) rfl ?_
    refine AM.qv (q_load_ptr rfl rfl .here rfl) rfl ?_
    refine AM.qv (t_len rfl) rfl ?_
    obtain ⟨n3, e3, h⟩ := bnd h
    refine AM.qv (t_quoS rfl rfl e3) rfl ?_
    refine AM.qv (q_assign rfl) rfl ?_
    refine AM.nil ?_
    refine ARun.nil ?_
    refine ATodo.seq ?_
    refine ATodo.region ?_
    refine ARun.qv (q_move rfl) rfl ?_
    refine ARun.qv (q_nilCheck_ptr rfl) rfl ?_
    refine ARun.qv (n_field_ptr rfl rfl) rfl ?_
    refine ARun.qv (q_load_ptr rfl rfl .here rfl) rfl ?_
    refine ARun.qv (q_move rfl) rfl ?_
    obtain ⟨v4, e4, h⟩ := bnd h
    refine ARun.qv (t_index rfl rfl rfl e4 rfl rfl) rfl ?_
    refine ARun.qv (q_load_rptr rfl rfl rfl) rfl ?_
    obtain ⟨v5, e5, h⟩ := bnd h
    refine r_callp rfl (Below_c e5) (CoL.refl _) rfl ?_
    refine ARun.qv (q_move rfl) rfl ?_
    refine ARun.qv (q_move rfl) rfl ?_
    refine ARun.qv (q_addw rfl rfl) rfl ?_
    refine ARun.qv (q_mulw rfl rfl) rfl ?_
    refine ARun.qv (q_addw rfl rfl) rfl ?_
    refine ARun.qv (q_move rfl) rfl ?_
    obtain ⟨v6, e6, h⟩ := bnd h
    refine r_callp rfl (Below_c e6) (CoL.refl _) rfl ?_
    refine ARun.qv (q_assign rfl) rfl ?_
    refine ARun.nil ?_
    refine ATodo.ret ?_
    obtain rfl := Option.some.inj h
    exact ImpX.here ⟨_, .cons (.tmp _ _ rfl) .nil, _, .cons .here .nil, ⟨rfl, rfl⟩⟩

set_option maxHeartbeats 4000000 in
theorem Stream_Range_c {b_0 : Bk} {p0x0 : Fleetmake_Stream} {p1x0 : Int} {p2x0 : Int} {r : Int × Fleetmake_Stream} (h : Stream_Range p0x0 p1x0 p2x0 = some r) : ACall Try.prog 37 [.ptr b_0 0, I p1x0, I p2x0] [(b_0, .cells [.list 1 (p0x0.L.map I), I p0x0.at_])] (T0 ([(b_0, .cells [.list 1 (r.2.L.map I), I r.2.at_])]) (I r.1)) := by
  unfold Stream_Range at h
  refine ACall.lessH ?_
  refine ACall.bodyN Try.func37 rfl Try.ntmps37 Try.results37 rfl rfl ?_
  refine ATodo.seq ?_
  refine ATodo.region ?_
  refine ARun.qv (q_assign rfl) rfl ?_
  refine ARun.nil ?_
  refine ATodo.seq ?_
  refine ATodo.seq ?_
  refine ATodo.region ?_
  refine ARun.qv (q_move rfl) rfl ?_
  refine ARun.qv (q_move rfl) rfl ?_
  refine ARun.qv (q_lss rfl rfl) rfl ?_
  refine ARun.nil ?_
  refine ATodo.cond_d rfl (fun hc => ?_) (fun hc => ?_)
  · replace h := iteT hc h
    refine ATodo.seq ?_
    refine ATodo.region ?_
    refine ARun.qv (q_move rfl) rfl ?_
    refine ARun.qv (q_assign rfl) rfl ?_
    refine ARun.nil ?_
    refine ATodo.ret ?_
    obtain rfl := Option.some.inj h
    exact ImpX.here ⟨_, .cons (.tmp _ _ rfl) .nil, _, .cons .here .nil, ⟨rfl, rfl⟩⟩
  · replace h := iteF hc h
    refine ATodo.skip ?_
    refine ATodo.seq ?_
    refine ATodo.region ?_
    refine ARun.qv (q_move rfl) rfl ?_
    refine ARun.qv (q_move rfl) rfl ?_
    refine ARun.qv (q_move rfl) rfl ?_
    refine ARun.qv (q_move rfl) rfl ?_
    refine ARun.qv (q_subw rfl rfl) rfl ?_
    refine ARun.qv (q_addw rfl rfl) rfl ?_
    obtain ⟨v1, e1, h⟩ := bnd h
    refine t_call0 rfl (Stream_Next_c e1) (CoL.refl _) (.cons .here .nil) rfl rfl ?_
    refine ARun.qv (q_addw rfl rfl) rfl ?_
    refine ARun.qv (q_assign rfl) rfl ?_
    refine ARun.nil ?_
    refine ATodo.ret ?_
    obtain rfl := Option.some.inj h
    exact ImpX.here ⟨_, .cons (.tmp _ _ rfl) .nil, _, .cons .here .nil, ⟨rfl, rfl⟩⟩

set_option maxHeartbeats 4000000 in
theorem Stream_Some_c {b_0 : Bk} {p0x0 : Fleetmake_Stream} {p1x0 : List Str} {r : Str × Fleetmake_Stream} (h : Stream_Some p0x0 p1x0 = some r) : ACall Try.prog 13 [.ptr b_0 0, .list 1 (p1x0.map AV.str)] [(b_0, .cells [.list 1 (p0x0.L.map I), I p0x0.at_])] (T0 ([(b_0, .cells [.list 1 (r.2.L.map I), I r.2.at_])]) (.str r.1)) := by
  unfold Stream_Some at h
  refine ACall.lessH ?_
  refine ACall.bodyN Try.func13 rfl Try.ntmps13 Try.results13 rfl rfl ?_
  refine ATodo.seq ?_
  refine ATodo.region ?_
  refine ARun.qv (q_assign rfl) rfl ?_
  refine ARun.nil ?_
  refine ATodo.seq ?_
  refine ATodo.region ?_
  refine ARun.qv (q_move rfl) rfl ?_
  refine ARun.qv (q_move rfl) rfl ?_
  refine ARun.qv (q_move rfl) rfl ?_
  refine ARun.qv (t_len rfl) rfl ?_
  obtain ⟨v1, e1, h⟩ := bnd h
  refine t_call0 rfl (Stream_Next_c e1) (CoL.refl _) (.cons .here .nil) rfl rfl ?_
  obtain ⟨v2, e2, h⟩ := bnd h
  refine ARun.qv (t_index rfl rfl rfl e2 rfl rfl) rfl ?_
  refine ARun.qv (q_load_rptr rfl rfl rfl) rfl ?_
  refine ARun.qv (q_assign rfl) rfl ?_
  refine ARun.nil ?_
  refine ATodo.ret ?_
  obtain rfl := Option.some.inj h
  exact ImpX.here ⟨_, .cons (.tmp _ _ rfl) .nil, _, .cons .here .nil, ⟨rfl, rfl⟩⟩

set_option maxHeartbeats 4000000 in
theorem Stream_Pick_c {b_0 : Bk} {p0x0 : Fleetmake_Stream} {p1x0 : List Int} {r : Int × Fleetmake_Stream} (h : Stream_Pick p0x0 p1x0 = some r) : ACall Try.prog 15 [.ptr b_0 0, .list 1 (p1x0.map I)] [(b_0, .cells [.list 1 (p0x0.L.map I), I p0x0.at_])] (T0 ([(b_0, .cells [.list 1 (r.2.L.map I), I r.2.at_])]) (I r.1)) := by
  unfold Stream_Pick at h
  refine ACall.lessH ?_
  refine ACall.bodyN Try.func15 rfl Try.ntmps15 Try.results15 rfl rfl ?_
  refine ATodo.seq ?_
  refine ATodo.region ?_
  refine ARun.qv (q_assign rfl) rfl ?_
  refine ARun.nil ?_
  refine ATodo.seq ?_
  refine ATodo.region ?_
  refine ARun.qv (q_move rfl) rfl ?_
  refine ARun.qv (q_move rfl) rfl ?_
  refine ARun.qv (q_move rfl) rfl ?_
  refine ARun.qv (t_len rfl) rfl ?_
  obtain ⟨v1, e1, h⟩ := bnd h
  refine t_call0 rfl (Stream_Next_c e1) (CoL.refl _) (.cons .here .nil) rfl rfl ?_
  obtain ⟨v2, e2, h⟩ := bnd h
  refine ARun.qv (t_index rfl rfl rfl e2 rfl rfl) rfl ?_
  refine ARun.qv (q_load_rptr rfl rfl rfl) rfl ?_
  refine ARun.qv (q_assign rfl) rfl ?_
  refine ARun.nil ?_
  refine ATodo.ret ?_
  obtain rfl := Option.some.inj h
  exact ImpX.here ⟨_, .cons (.tmp _ _ rfl) .nil, _, .cons .here .nil, ⟨rfl, rfl⟩⟩

set_option maxHeartbeats 4000000 in
theorem Q_sign_c {p0x0 : Int} {r : Int} (h : Q_sign p0x0 = r) : Pu Try.prog 190 [I p0x0] (I r) := by
  unfold Q_sign at h
  refine ACall.bodyN Try.func190 rfl Try.ntmps190 Try.results190 rfl rfl ?_
  refine ATodo.seq ?_
  refine ATodo.region ?_
  refine ARun.qv (q_assign rfl) rfl ?_
  refine ARun.nil ?_
  refine ATodo.seq ?_
  refine ATodo.block ?_
  refine ATodo.seq ?_
  refine ATodo.region ?_
  refine ARun.qv (q_move rfl) rfl ?_
  refine ARun.qv (q_lss rfl rfl) rfl ?_
  refine ARun.qv (q_assign rfl) rfl ?_
  refine ARun.nil ?_
  refine ATodo.cond_d rfl (fun hc => ?_) (fun hc => ?_)
  · replace h := iteT hc h
    refine ATodo.seq ?_
    refine ATodo.region ?_
    refine ARun.qv (q_assign rfl) rfl ?_
    refine ARun.nil ?_
    refine ATodo.ret ?_
    obtain rfl := h
    exact ImpX.here ⟨_, .cons (.tmp _ _ rfl) .nil, rfl⟩
  · replace h := iteF hc h
    refine ATodo.seq ?_
    refine ATodo.region ?_
    refine ARun.qv (q_move rfl) rfl ?_
    refine ARun.qv (q_gtr rfl rfl) rfl ?_
    refine ARun.qv (q_assign rfl) rfl ?_
    refine ARun.nil ?_
    refine ATodo.cond_d rfl (fun hc => ?_) (fun hc => ?_)
    · replace h := iteT hc h
      refine ATodo.seq ?_
      refine ATodo.region ?_
      refine ARun.qv (q_assign rfl) rfl ?_
      refine ARun.nil ?_
      refine ATodo.ret ?_
      obtain rfl := h
      exact ImpX.here ⟨_, .cons (.tmp _ _ rfl) .nil, rfl⟩
    · replace h := iteF hc h
      refine ATodo.skip ?_
      refine ATodo.blk ?_
      refine ATodo.seq ?_
      refine ATodo.region ?_
      refine ARun.qv (q_assign rfl) rfl ?_
      refine ARun.nil ?_
      refine ATodo.ret ?_
      obtain rfl := h
      exact ImpX.here ⟨_, .cons (.tmp _ _ rfl) .nil, rfl⟩

set_option maxHeartbeats 4000000 in
theorem Q_FixOrder_c {p0x0 : Fix} {p1x0 : Fix} {r : Int} (h : Q_FixOrder p0x0 p1x0 = r) : Pu Try.prog 101 [.agg [.str p0x0.Device, I p0x0.At, I p0x0.X, I p0x0.Y, I p0x0.Error], .agg [.str p1x0.Device, I p1x0.At, I p1x0.X, I p1x0.Y, I p1x0.Error]] (I r) := by
  unfold Q_FixOrder at h
  refine ACall.bodyN Try.func101 rfl Try.ntmps101 Try.results101 rfl rfl ?_
  refine ATodo.seq ?_
  refine ATodo.region ?_
  refine n_box rfl rfl rfl rfl (fun b1 => ?_)
  refine n_box rfl rfl rfl rfl (fun b2 => ?_)
  refine ARun.qv (q_assign rfl) rfl ?_
  refine ARun.nil ?_
  refine ATodo.seq ?_
  refine ATodo.seq ?_
  refine ATodo.region ?_
  refine ARun.qv (n_field_ptr rfl rfl) rfl ?_
  refine ARun.qv (q_load_ptr rfl rfl (.next .here) rfl) rfl ?_
  refine ARun.qv (n_field_ptr rfl rfl) rfl ?_
  refine ARun.qv (q_load_ptr rfl rfl .here rfl) rfl ?_
  refine ARun.qv (q_sne rfl rfl) rfl ?_
  refine ARun.nil ?_
  refine ATodo.cond_d rfl (fun hc => ?_) (fun hc => ?_)
  · replace h := iteT hc h
    refine ATodo.seq ?_
    refine ATodo.region ?_
    refine ARun.qv (n_field_ptr rfl rfl) rfl ?_
    refine ARun.qv (q_load_ptr rfl rfl (.next .here) rfl) rfl ?_
    refine ARun.qv (n_field_ptr rfl rfl) rfl ?_
    refine ARun.qv (q_load_ptr rfl rfl .here rfl) rfl ?_
    refine r_callp rfl (strings_Compare_c rfl) (CoL.refl _) rfl ?_
    refine ARun.qv (q_assign rfl) rfl ?_
    refine ARun.nil ?_
    refine ATodo.ret ?_
    obtain rfl := h
    exact ImpX.here ⟨_, .cons (.tmp _ _ rfl) .nil, rfl⟩
  · replace h := iteF hc h
    refine ATodo.skip ?_
    refine ATodo.seq ?_
    refine ATodo.region ?_
    refine ARun.qv (n_field_ptr rfl rfl) rfl ?_
    refine ARun.qv (q_load_ptr rfl rfl (.next .here) rfl) rfl ?_
    refine ARun.qv (n_field_ptr rfl rfl) rfl ?_
    refine ARun.qv (q_load_ptr rfl rfl .here rfl) rfl ?_
    refine ARun.qv (q_subw rfl rfl) rfl ?_
    refine r_callp rfl (Q_sign_c rfl) (CoL.refl _) rfl ?_
    refine ARun.qv (q_assign rfl) rfl ?_
    refine ARun.nil ?_
    refine ATodo.ret ?_
    obtain rfl := h
    exact ImpX.here ⟨_, .cons (.tmp _ _ rfl) .nil, rfl⟩

set_option maxHeartbeats 4000000 in
theorem slices_insertionSortCmpFunc_Fix_c {b_0 : Bk} {p0x0 : List Fix} {p1x0 : Int} {p2x0 : Int} {fnd : Fix → Fix → Option Int} {fnd_F : FuncId} [IsFn Try.prog fnd_F] {fnd_C : List AV} (fnd_h : ∀ {y0 y1 : _} {u : Int}, fnd y0 y1 = some u → Pu Try.prog fnd_F (.agg [.str y0.Device, I y0.At, I y0.X, I y0.Y, I y0.Error] :: .agg [.str y1.Device, I y1.At, I y1.X, I y1.Y, I y1.Error] ::  fnd_C) (I u)) {r : (List Fix)} (h : slices_insertionSortCmpFunc_Fix p0x0 p1x0 p2x0 fnd = some r) : ACall Try.prog 230 [.sl 5 b_0 0 p0x0.length, I p1x0, I p2x0, .func (.func fnd_F) fnd_C] [(b_0, .arr 5 (p0x0.map Fix.av))] (T0 ([(b_0, .arr 5 (r.map Fix.av))]) (.tup [])) := by
  unfold slices_insertionSortCmpFunc_Fix at h
  refine ACall.lessH ?_
  refine ACall.bodyN Try.func230 rfl Try.ntmps230 Try.results230 rfl rfl ?_
  refine ATodo.seq ?_
  refine ATodo.region ?_
  refine ARun.qv (q_move rfl) rfl ?_
  refine ARun.qv (q_addw rfl rfl) rfl ?_
  refine ARun.qv (q_assign rfl) rfl ?_
  refine ARun.nil ?_
  refine ATodo.block ?_
  refine ATodo.loopI (fun x : (List Fix) × Int => slices_insertionSortCmpFunc_Fix_b1 p1x0 p2x0 fnd x.1 x.2) (fun x σ' => σ' = ⟨53, [(0, .sl 5 b_0 0 x.1.length), (1, I p1x0), (2, I p2x0), (3, .func (.func fnd_F) fnd_C), (8, I x.2)], [(b_0, .arr 5 (x.1.map Fix.av))]⟩) h ?_ ?_
  · exact ImpX.lessP (by exact ⟨rfl, rfl, rfl, rfl, rfl, True.intro⟩) (.cons .here .nil) (ImpX.here rfl)
  · intro x z1 σ' J1 hmk h hJ1 hA1
    obtain ⟨l3, n4⟩ := x
    obtain rfl := hmk
    replace h : slices_insertionSortCmpFunc_Fix_b1 p1x0 p2x0 fnd l3 n4 = some z1 := h
    unfold slices_insertionSortCmpFunc_Fix_b1 at h
    refine ATodo.seq ?_
    refine ATodo.seq ?_
    refine ATodo.region ?_
    refine ARun.qv (q_move rfl) rfl ?_
    refine ARun.qv (q_move rfl) rfl ?_
    refine ARun.qv (q_lss rfl rfl) rfl ?_
    refine ARun.nil ?_
    refine ATodo.cond_d rfl (fun hc => ?_) (fun hc => ?_)
    · replace h := iteT hc h
      refine ATodo.skip ?_
      refine ATodo.seq ?_
      refine ATodo.block ?_
      refine ATodo.seq ?_
      refine ATodo.region ?_
      refine ARun.qv (q_move rfl) rfl ?_
      refine ARun.qv (q_assign rfl) rfl ?_
      refine ARun.nil ?_
      refine ATodo.block ?_
      refine ATodo.loopI (fun x : (List Fix) × Int => slices_insertionSortCmpFunc_Fix_b2 p1x0 fnd n4 x.1 x.2) (fun x σ' => σ' = ⟨53, [(0, .sl 5 b_0 0 x.1.length), (1, I p1x0), (2, I p2x0), (3, .func (.func fnd_F) fnd_C), (8, I n4), (9, I x.2)], [(b_0, .arr 5 (x.1.map Fix.av))]⟩) h ?_ ?_
      · exact ImpX.lessP (by exact ⟨rfl, rfl, rfl, rfl, rfl, rfl, True.intro⟩) (.cons .here .nil) (ImpX.here rfl)
      · intro x z2 σ' J2 hmk h hJ2 hA2
        obtain ⟨l7, n8⟩ := x
        obtain rfl := hmk
        replace h : slices_insertionSortCmpFunc_Fix_b2 p1x0 fnd n4 l7 n8 = some z2 := h
        unfold slices_insertionSortCmpFunc_Fix_b2 at h
        refine ATodo.seq ?_
        refine ATodo.seq ?_
        refine ATodo.cut (fun σ' => ∃ (c9 : Bool), slices_insertionSortCmpFunc_Fix_j1 n4 l7 n8 c9 = some z2 ∧ σ' = ⟨53, [(0, .sl 5 b_0 0 l7.length), (1, I p1x0), (2, I p2x0), (3, .func (.func fnd_F) fnd_C), (8, I n4), (9, I n8), (34, .bool c9)], [(b_0, .arr 5 (l7.map Fix.av))]⟩) ?_ ?_
        · refine ATodo.regionM (id := 4) (A := [0, 0, 3, 7, 15, 15, 15, 111, 239, 15, 15, 1039, 3599, 7695, 16383, 32767, 65535]) 14 mixed rfl (by kernel_rfl) (by kernel_rfl) ?_
          refine AM.qv (q_move rfl) rfl ?_
          refine AM.qv (q_move rfl) rfl ?_
          refine AM.qv (q_gtr rfl rfl) rfl ?_
          refine AM.qv (q_move rfl) rfl ?_
          refine AM.guard_dt rfl rfl rfl (fun hc => ?_) (fun hc => ?_)
          · replace h := iteT hc h
            refine AM.qv (q_move rfl) rfl ?_
            refine AM.guard_yes rfl rfl rfl ?_
            refine AM.qv (q_move rfl) rfl ?_
            refine AM.guard_yes rfl rfl rfl ?_
            refine AM.qv (q_move rfl) rfl ?_
            refine AM.guard_yes rfl rfl rfl ?_
            obtain ⟨v10, e1, h⟩ := bnd h
            refine AM.qv (t_index_sl rfl rfl rfl e1) rfl ?_
            refine AM.guard_yes rfl rfl rfl ?_
            refine AM.qv (t_load_aptr_agg (g := Fix.av) rfl rfl (.inl .here) rfl e1 rfl) rfl ?_
            refine AM.guard_yes rfl rfl rfl ?_
            refine AM.qv (q_move rfl) rfl ?_
            refine AM.guard_yes rfl rfl rfl ?_
            refine AM.qv (q_move rfl) rfl ?_
            refine AM.guard_yes rfl rfl rfl ?_
            refine AM.qv (q_subw rfl rfl) rfl ?_
            refine AM.guard_yes rfl rfl rfl ?_
            obtain ⟨v11, e2, h⟩ := bnd h
            refine AM.qv (t_index_sl rfl rfl rfl e2) rfl ?_
            refine AM.guard_yes rfl rfl rfl ?_
            refine AM.qv (t_load_aptr_agg (g := Fix.av) rfl rfl (.inl .here) rfl e2 rfl) rfl ?_
            refine AM.nil ?_
            refine ARun.guard_yes rfl rfl rfl ?_
            obtain ⟨v12, e3, h⟩ := bnd h
            refine r_callvp rfl rfl (fnd_h e3) (CoL.refl _) rfl ?_
            refine ARun.guard_yes rfl rfl rfl ?_
            refine ARun.qv (q_lss rfl rfl) rfl ?_
            refine ARun.qv (q_pick_t rfl rfl) rfl ?_
            refine ARun.nil ?_
            refine ATodo.stop ?_
            exact ImpX.lessP (by exact ⟨rfl, rfl, rfl, rfl, rfl, rfl, rfl, True.intro⟩) (.cons .here .nil) (ImpX.here ⟨decide (v12 < (0 : Int)), h, rfl⟩)
          · replace h := iteF hc h
            refine AM.guard_no rfl rfl rfl rfl ?_
            refine AM.guard_no rfl rfl rfl rfl ?_
            refine AM.guard_no rfl rfl rfl rfl ?_
            refine AM.guard_no rfl rfl rfl rfl ?_
            refine AM.guard_no rfl rfl rfl rfl ?_
            refine AM.guard_no rfl rfl rfl rfl ?_
            refine AM.guard_no rfl rfl rfl rfl ?_
            refine AM.guard_no rfl rfl rfl rfl ?_
            refine AM.guard_no rfl rfl rfl rfl ?_
            refine AM.nil ?_
            refine ARun.guard_no rfl rfl rfl rfl ?_
            refine ARun.guard_no rfl rfl rfl rfl ?_
            refine ARun.qv (q_pick_f rfl rfl) rfl ?_
            refine ARun.nil ?_
            refine ATodo.stop ?_
            exact ImpX.lessP (by exact ⟨rfl, rfl, rfl, rfl, rfl, rfl, rfl, True.intro⟩) (.cons .here .nil) (ImpX.here ⟨false, h, rfl⟩)
        · rintro σ' ⟨c9, h, rfl⟩
          unfold slices_insertionSortCmpFunc_Fix_j1 at h
          refine ATodo.cond rfl (fun hc => ?_) (fun hc => ?_)
          · replace h := iteT hc h
            refine ATodo.skip ?_
            refine ATodo.seq ?_
            refine ATodo.block ?_
            obtain ⟨v13, e4, h⟩ := bnd h
            obtain ⟨v14, e5, h⟩ := bnd h
            obtain ⟨v15, e6, h⟩ := bnd h
            refine ATodo.regionT (id := 6) (A := [0, 0, 0, 0, 8, 0, 0, 64, 224, 480, 0, 0, 3072, 7168, 16355, 32739, 65535, 131071]) (H0 := [(b_0, .arr 5 (l7.map Fix.av))]) (HH := fun β => [(b_0, .arr 5 ((l7.set n8.toNat v13).map Fix.av))]) 16 mixed rfl (by kernel_rfl) (by kernel_rfl) [⟨none, some 15, [9, 13], fun _ => (b_0, .arr 5 (l7.map Fix.av)), none⟩, ⟨some 15, none, [], fun _ => (b_0, .arr 5 ((l7.set n8.toNat v13).map Fix.av)), none⟩] [] rfl (by kernel_rfl) rfl (.cons .here .nil) (fun _ => rfl) ?_
            refine AT.am 9 rfl rfl ?_
            refine AM.qv (q_move rfl) rfl ?_
            refine AM.qv (q_move rfl) rfl ?_
            refine AM.qv (q_move rfl) rfl ?_
            refine AM.qv (q_move rfl) rfl ?_
            refine AM.qv (q_subw rfl rfl) rfl ?_
            refine AM.qv (q_move rfl) rfl ?_
            refine AM.qv (q_move rfl) rfl ?_
            refine AM.qv (q_subw rfl rfl) rfl ?_
            refine AM.qv (t_index_sl rfl rfl rfl e4) rfl ?_
            refine AM.nil ?_
            refine AT.rd (Rs := [(b_0, .arr 5 (l7.map Fix.av))]) (fun _ => rfl) rfl (fun _ => rfl) (fun _ => rfl) (t_load_aptr_agg (g := Fix.av) rfl rfl (.inl .here) rfl e4 rfl) rfl ?_
            refine AT.am 3 rfl rfl ?_
            refine AM.qv (q_move rfl) rfl ?_
            refine AM.qv (q_move rfl) rfl ?_
            refine AM.qv (t_index_sl rfl rfl rfl e5) rfl ?_
            refine AM.nil ?_
            refine AT.rd (Rs := [(b_0, .arr 5 (l7.map Fix.av))]) (fun _ => rfl) rfl (fun _ => rfl) (fun _ => rfl) (t_load_aptr_agg (g := Fix.av) rfl rfl (.inl .here) rfl e5 rfl) rfl ?_
            refine AT.am 1 rfl rfl ?_
            refine AM.qv (t_index_sl rfl rfl rfl e6) rfl ?_
            refine AM.nil ?_
            refine AT.run0 (Ti := [(b_0, .arr 5 (l7.map Fix.av))]) (Pi := [(b_0, .arr 5 ((l7.set n8.toNat v13).map Fix.av))]) (fun _ => rfl) (fun _ => rfl) (fun _ => rfl) rfl rfl ?_ ?_
            · refine t_store_aptr1 (g := Fix.av) (el' := v13) rfl rfl rfl rfl e6 rfl .here rfl ?_
              exact ARun.nil ⟨_, rfl⟩
            refine AT.nilN (fun _ => rfl) (fun β => ?_)
            refine ARun.ghost (ImpX.eqs (s := 0) (av' := .sl 5 b_0 0 (l7.set n8.toNat v13).length) rfl (by simp) (ImpX.here ?_))
            refine ARun.ghost (ImpX.eqs (s := 37) (av' := .sl 5 b_0 0 (l7.set n8.toNat v13).length) rfl (by simp) (ImpX.here ?_))
            refine ARun.ghost (ImpX.eqs (s := 39) (av' := .sl 5 b_0 0 (l7.set n8.toNat v13).length) rfl (by simp) (ImpX.here ?_))
            refine ARun.ghost (ImpX.eqs (s := 42) (av' := .sl 5 b_0 0 (l7.set n8.toNat v13).length) rfl (by simp) (ImpX.here ?_))
            refine ARun.ghost (ImpX.eqs (s := 47) (av' := .sl 5 b_0 0 (l7.set n8.toNat v13).length) rfl (by simp) (ImpX.here ?_))
            obtain ⟨v16, e7, h⟩ := bnd h
            refine ARun.qv (t_index_sl rfl rfl rfl e7) rfl ?_
            refine t_store_aptr1 (g := Fix.av) (el' := v14) rfl rfl rfl rfl e7 rfl .here rfl ?_
            refine ARun.ghost (ImpX.eqs (s := 0) (av' := .sl 5 b_0 0 ((l7.set n8.toNat v13).set (w64 (n8 - (1 : Int))).toNat v14).length) rfl (by rw [List.length_set]) (ImpX.here ?_))
            refine ARun.ghost (ImpX.eqs (s := 37) (av' := .sl 5 b_0 0 ((l7.set n8.toNat v13).set (w64 (n8 - (1 : Int))).toNat v14).length) rfl (by rw [List.length_set]) (ImpX.here ?_))
            refine ARun.ghost (ImpX.eqs (s := 39) (av' := .sl 5 b_0 0 ((l7.set n8.toNat v13).set (w64 (n8 - (1 : Int))).toNat v14).length) rfl (by rw [List.length_set]) (ImpX.here ?_))
            refine ARun.ghost (ImpX.eqs (s := 42) (av' := .sl 5 b_0 0 ((l7.set n8.toNat v13).set (w64 (n8 - (1 : Int))).toNat v14).length) rfl (by rw [List.length_set]) (ImpX.here ?_))
            refine ARun.ghost (ImpX.eqs (s := 47) (av' := .sl 5 b_0 0 ((l7.set n8.toNat v13).set (w64 (n8 - (1 : Int))).toNat v14).length) rfl (by rw [List.length_set]) (ImpX.here ?_))
            refine ARun.nil ?_
            refine ATodo.blk ?_
            refine ATodo.region ?_
            refine ARun.qv (q_move rfl) rfl ?_
            refine ARun.qv (q_subw rfl rfl) rfl ?_
            refine ARun.qv (q_assign rfl) rfl ?_
            refine ARun.nil ?_
            refine ATodo.stop ?_
            obtain rfl := Option.some.inj h
            refine hJ2 _ _ rfl ?_
            exact ImpX.lessP (by exact ⟨rfl, rfl, rfl, rfl, rfl, rfl, True.intro⟩) (.cons .here .nil) (ImpX.here rfl)
          · replace h := iteFb hc h
            refine ATodo.exit rfl ?_
            replace h := outL h hA2
            refine ATodo.blk ?_
            refine ATodo.region ?_
            refine ARun.qv (q_move rfl) rfl ?_
            refine ARun.qv (q_addw rfl rfl) rfl ?_
            refine ARun.qv (q_assign rfl) rfl ?_
            refine ARun.nil ?_
            refine ATodo.stop ?_
            obtain rfl := Option.some.inj h
            refine hJ1 _ _ rfl ?_
            exact ImpX.lessP (by exact ⟨rfl, rfl, rfl, rfl, rfl, True.intro⟩) (.cons .here .nil) (ImpX.here rfl)
    · replace h := iteF hc h
      refine ATodo.exit rfl ?_
      replace h := outL h hA1
      refine ATodo.nil ?_
      obtain rfl := Option.some.inj h
      exact ImpX.here ⟨_, .nil, _, .cons .here .nil, ⟨rfl, rfl⟩⟩

set_option maxHeartbeats 4000000 in
theorem slices_swapRangeCmpFunc_Fix_c {b_0 : Bk} {p0x0 : List Fix} {p1x0 : Int} {p2x0 : Int} {p3x0 : Int} {fne : Fix → Fix → Option Int} {fne_F : FuncId} [IsFn Try.prog fne_F] {fne_C : List AV} (fne_h : ∀ {y0 y1 : _} {u : Int}, fne y0 y1 = some u → Pu Try.prog fne_F (.agg [.str y0.Device, I y0.At, I y0.X, I y0.Y, I y0.Error] :: .agg [.str y1.Device, I y1.At, I y1.X, I y1.Y, I y1.Error] ::  fne_C) (I u)) {r : (List Fix)} (h : slices_swapRangeCmpFunc_Fix p0x0 p1x0 p2x0 p3x0 fne = some r) : ACall Try.prog 292 [.sl 5 b_0 0 p0x0.length, I p1x0, I p2x0, I p3x0, .func (.func fne_F) fne_C] [(b_0, .arr 5 (p0x0.map Fix.av))] (T0 ([(b_0, .arr 5 (r.map Fix.av))]) (.tup [])) := by
  unfold slices_swapRangeCmpFunc_Fix at h
  refine ACall.lessH ?_
  refine ACall.bodyN Try.func292 rfl Try.ntmps292 Try.results292 rfl rfl ?_
  refine ATodo.seq ?_
  refine ATodo.region ?_
  refine ARun.qv (q_assign rfl) rfl ?_
  refine ARun.nil ?_
  refine ATodo.block ?_
  refine ATodo.loopI (fun x : (List Fix) × Int => slices_swapRangeCmpFunc_Fix_b1 p1x0 p2x0 p3x0 x.1 x.2) (fun x σ' => σ' = ⟨38, [(0, .sl 5 b_0 0 x.1.length), (1, I p1x0), (2, I p2x0), (3, I p3x0), (10, I x.2)], [(b_0, .arr 5 (x.1.map Fix.av))]⟩) h ?_ ?_
  · exact ImpX.lessP (by exact ⟨rfl, rfl, rfl, rfl, rfl, True.intro⟩) (.cons .here .nil) (ImpX.here rfl)
  · intro x z1 σ' J1 hmk h hJ1 hA1
    obtain ⟨l3, n4⟩ := x
    obtain rfl := hmk
    replace h : slices_swapRangeCmpFunc_Fix_b1 p1x0 p2x0 p3x0 l3 n4 = some z1 := h
    unfold slices_swapRangeCmpFunc_Fix_b1 at h
    refine ATodo.seq ?_
    refine ATodo.seq ?_
    refine ATodo.region ?_
    refine ARun.qv (q_move rfl) rfl ?_
    refine ARun.qv (q_move rfl) rfl ?_
    refine ARun.qv (q_lss rfl rfl) rfl ?_
    refine ARun.nil ?_
    refine ATodo.cond_d rfl (fun hc => ?_) (fun hc => ?_)
    · replace h := iteT hc h
      refine ATodo.skip ?_
      refine ATodo.seq ?_
      refine ATodo.block ?_
      obtain ⟨v5, e1, h⟩ := bnd h
      obtain ⟨v6, e2, h⟩ := bnd h
      obtain ⟨v7, e3, h⟩ := bnd h
      refine ATodo.regionT (id := 3) (A := [0, 0, 0, 6, 0, 0, 0, 96, 0, 0, 0, 1536, 3840, 7936, 0, 0, 0, 98304, 245760, 507904, 1048335, 2096911, 4194303, 8388607]) (H0 := [(b_0, .arr 5 (l3.map Fix.av))]) (HH := fun β => [(b_0, .arr 5 ((l3.set (w64 (p1x0 + n4)).toNat v5).map Fix.av))]) 22 mixed rfl (by kernel_rfl) (by kernel_rfl) [⟨none, some 21, [13, 19], fun _ => (b_0, .arr 5 (l3.map Fix.av)), none⟩, ⟨some 21, none, [], fun _ => (b_0, .arr 5 ((l3.set (w64 (p1x0 + n4)).toNat v5).map Fix.av)), none⟩] [] rfl (by kernel_rfl) rfl (.cons .here .nil) (fun _ => rfl) ?_
      refine AT.am 13 rfl rfl ?_
      refine AM.qv (q_move rfl) rfl ?_
      refine AM.qv (q_move rfl) rfl ?_
      refine AM.qv (q_move rfl) rfl ?_
      refine AM.qv (q_addw rfl rfl) rfl ?_
      refine AM.qv (q_move rfl) rfl ?_
      refine AM.qv (q_move rfl) rfl ?_
      refine AM.qv (q_move rfl) rfl ?_
      refine AM.qv (q_addw rfl rfl) rfl ?_
      refine AM.qv (q_move rfl) rfl ?_
      refine AM.qv (q_move rfl) rfl ?_
      refine AM.qv (q_move rfl) rfl ?_
      refine AM.qv (q_addw rfl rfl) rfl ?_
      refine AM.qv (t_index_sl rfl rfl rfl e1) rfl ?_
      refine AM.nil ?_
      refine AT.rd (Rs := [(b_0, .arr 5 (l3.map Fix.av))]) (fun _ => rfl) rfl (fun _ => rfl) (fun _ => rfl) (t_load_aptr_agg (g := Fix.av) rfl rfl (.inl .here) rfl e1 rfl) rfl ?_
      refine AT.am 5 rfl rfl ?_
      refine AM.qv (q_move rfl) rfl ?_
      refine AM.qv (q_move rfl) rfl ?_
      refine AM.qv (q_move rfl) rfl ?_
      refine AM.qv (q_addw rfl rfl) rfl ?_
      refine AM.qv (t_index_sl rfl rfl rfl e2) rfl ?_
      refine AM.nil ?_
      refine AT.rd (Rs := [(b_0, .arr 5 (l3.map Fix.av))]) (fun _ => rfl) rfl (fun _ => rfl) (fun _ => rfl) (t_load_aptr_agg (g := Fix.av) rfl rfl (.inl .here) rfl e2 rfl) rfl ?_
      refine AT.am 1 rfl rfl ?_
      refine AM.qv (t_index_sl rfl rfl rfl e3) rfl ?_
      refine AM.nil ?_
      refine AT.run0 (Ti := [(b_0, .arr 5 (l3.map Fix.av))]) (Pi := [(b_0, .arr 5 ((l3.set (w64 (p1x0 + n4)).toNat v5).map Fix.av))]) (fun _ => rfl) (fun _ => rfl) (fun _ => rfl) rfl rfl ?_ ?_
      · refine t_store_aptr1 (g := Fix.av) (el' := v5) rfl rfl rfl rfl e3 rfl .here rfl ?_
        exact ARun.nil ⟨_, rfl⟩
      refine AT.nilN (fun _ => rfl) (fun β => ?_)
      refine ARun.ghost (ImpX.eqs (s := 0) (av' := .sl 5 b_0 0 (l3.set (w64 (p1x0 + n4)).toNat v5).length) rfl (by simp) (ImpX.here ?_))
      refine ARun.ghost (ImpX.eqs (s := 16) (av' := .sl 5 b_0 0 (l3.set (w64 (p1x0 + n4)).toNat v5).length) rfl (by simp) (ImpX.here ?_))
      refine ARun.ghost (ImpX.eqs (s := 20) (av' := .sl 5 b_0 0 (l3.set (w64 (p1x0 + n4)).toNat v5).length) rfl (by simp) (ImpX.here ?_))
      refine ARun.ghost (ImpX.eqs (s := 24) (av' := .sl 5 b_0 0 (l3.set (w64 (p1x0 + n4)).toNat v5).length) rfl (by simp) (ImpX.here ?_))
      refine ARun.ghost (ImpX.eqs (s := 30) (av' := .sl 5 b_0 0 (l3.set (w64 (p1x0 + n4)).toNat v5).length) rfl (by simp) (ImpX.here ?_))
      obtain ⟨v8, e4, h⟩ := bnd h
      refine ARun.qv (t_index_sl rfl rfl rfl e4) rfl ?_
      refine t_store_aptr1 (g := Fix.av) (el' := v6) rfl rfl rfl rfl e4 rfl .here rfl ?_
      refine ARun.ghost (ImpX.eqs (s := 0) (av' := .sl 5 b_0 0 ((l3.set (w64 (p1x0 + n4)).toNat v5).set (w64 (p2x0 + n4)).toNat v6).length) rfl (by rw [List.length_set]) (ImpX.here ?_))
      refine ARun.ghost (ImpX.eqs (s := 16) (av' := .sl 5 b_0 0 ((l3.set (w64 (p1x0 + n4)).toNat v5).set (w64 (p2x0 + n4)).toNat v6).length) rfl (by rw [List.length_set]) (ImpX.here ?_))
      refine ARun.ghost (ImpX.eqs (s := 20) (av' := .sl 5 b_0 0 ((l3.set (w64 (p1x0 + n4)).toNat v5).set (w64 (p2x0 + n4)).toNat v6).length) rfl (by rw [List.length_set]) (ImpX.here ?_))
      refine ARun.ghost (ImpX.eqs (s := 24) (av' := .sl 5 b_0 0 ((l3.set (w64 (p1x0 + n4)).toNat v5).set (w64 (p2x0 + n4)).toNat v6).length) rfl (by rw [List.length_set]) (ImpX.here ?_))
      refine ARun.ghost (ImpX.eqs (s := 30) (av' := .sl 5 b_0 0 ((l3.set (w64 (p1x0 + n4)).toNat v5).set (w64 (p2x0 + n4)).toNat v6).length) rfl (by rw [List.length_set]) (ImpX.here ?_))
      refine ARun.nil ?_
      refine ATodo.blk ?_
      refine ATodo.region ?_
      refine ARun.qv (q_move rfl) rfl ?_
      refine ARun.qv (q_addw rfl rfl) rfl ?_
      refine ARun.qv (q_assign rfl) rfl ?_
      refine ARun.nil ?_
      refine ATodo.stop ?_
      obtain rfl := Option.some.inj h
      refine hJ1 _ _ rfl ?_
      exact ImpX.lessP (by exact ⟨rfl, rfl, rfl, rfl, rfl, True.intro⟩) (.cons .here .nil) (ImpX.here rfl)
    · replace h := iteF hc h
      refine ATodo.exit rfl ?_
      replace h := outL h hA1
      refine ATodo.nil ?_
      obtain rfl := Option.some.inj h
      exact ImpX.here ⟨_, .nil, _, .cons .here .nil, ⟨rfl, rfl⟩⟩

set_option maxHeartbeats 4000000 in
theorem slices_rotateCmpFunc_Fix_c {b_0 : Bk} {p0x0 : List Fix} {p1x0 : Int} {p2x0 : Int} {p3x0 : Int} {fne : Fix → Fix → Option Int} {fne_F : FuncId} [IsFn Try.prog fne_F] {fne_C : List AV} (fne_h : ∀ {y0 y1 : _} {u : Int}, fne y0 y1 = some u → Pu Try.prog fne_F (.agg [.str y0.Device, I y0.At, I y0.X, I y0.Y, I y0.Error] :: .agg [.str y1.Device, I y1.At, I y1.X, I y1.Y, I y1.Error] ::  fne_C) (I u)) {r : (List Fix)} (h : slices_rotateCmpFunc_Fix p0x0 p1x0 p2x0 p3x0 fne = some r) : ACall Try.prog 269 [.sl 5 b_0 0 p0x0.length, I p1x0, I p2x0, I p3x0, .func (.func fne_F) fne_C] [(b_0, .arr 5 (p0x0.map Fix.av))] (T0 ([(b_0, .arr 5 (r.map Fix.av))]) (.tup [])) := by
  unfold slices_rotateCmpFunc_Fix at h
  refine ACall.lessH ?_
  refine ACall.bodyN Try.func269 rfl Try.ntmps269 Try.results269 rfl rfl ?_
  refine ATodo.seq ?_
  refine ATodo.region ?_
  refine ARun.qv (q_move rfl) rfl ?_
  refine ARun.qv (q_move rfl) rfl ?_
  refine ARun.qv (q_subw rfl rfl) rfl ?_
  refine ARun.qv (q_assign rfl) rfl ?_
  refine ARun.nil ?_
  refine ATodo.seq ?_
  refine ATodo.region ?_
  refine ARun.qv (q_move rfl) rfl ?_
  refine ARun.qv (q_move rfl) rfl ?_
  refine ARun.qv (q_subw rfl rfl) rfl ?_
  refine ARun.qv (q_assign rfl) rfl ?_
  refine ARun.nil ?_
  refine ATodo.seq ?_
  refine ATodo.block ?_
  refine ATodo.loopI (fun x : (List Fix) × Int × Int => slices_rotateCmpFunc_Fix_b1 p2x0 fne x.1 x.2.1 x.2.2) (fun x σ' => σ' = ⟨58, [(0, .sl 5 b_0 0 x.1.length), (2, I p2x0), (4, .func (.func fne_F) fne_C), (10, I x.2.1), (11, I x.2.2)], [(b_0, .arr 5 (x.1.map Fix.av))]⟩) h ?_ ?_
  · exact ImpX.lessP (by exact ⟨rfl, rfl, rfl, rfl, rfl, True.intro⟩) (.cons .here .nil) (ImpX.here rfl)
  · intro x z1 σ' J1 hmk h hJ1 hA1
    obtain ⟨l4, n5, n6⟩ := x
    obtain rfl := hmk
    replace h : slices_rotateCmpFunc_Fix_b1 p2x0 fne l4 n5 n6 = some z1 := h
    unfold slices_rotateCmpFunc_Fix_b1 at h
    refine ATodo.seq ?_
    refine ATodo.seq ?_
    refine ATodo.region ?_
    refine ARun.qv (q_move rfl) rfl ?_
    refine ARun.qv (q_move rfl) rfl ?_
    refine ARun.qv (q_neq rfl rfl) rfl ?_
    refine ARun.nil ?_
    refine ATodo.cond_d rfl (fun hc => ?_) (fun hc => ?_)
    · replace h := iteT hc h
      refine ATodo.skip ?_
      refine ATodo.block ?_
      refine ATodo.seq ?_
      refine ATodo.region ?_
      refine ARun.qv (q_move rfl) rfl ?_
      refine ARun.qv (q_move rfl) rfl ?_
      refine ARun.qv (q_gtr rfl rfl) rfl ?_
      refine ARun.nil ?_
      refine ATodo.cut (fun σ' => ∃ (l7 : List Fix) (n8 : Int) (n9 : Int), slices_rotateCmpFunc_Fix_j1 l7 n8 n9 = some z1 ∧ σ' = ⟨58, [(0, .sl 5 b_0 0 l7.length), (2, I p2x0), (4, .func (.func fne_F) fne_C), (10, I n8), (11, I n9)], [(b_0, .arr 5 (l7.map Fix.av))]⟩) ?_ ?_
      · refine ATodo.cond_d rfl (fun hc => ?_) (fun hc => ?_)
        · replace h := iteT hc h
          refine ATodo.seq ?_
          refine ATodo.region ?_
          refine ARun.qv (q_move rfl) rfl ?_
          refine ARun.qv (q_move rfl) rfl ?_
          refine ARun.qv (q_move rfl) rfl ?_
          refine ARun.qv (q_subw rfl rfl) rfl ?_
          refine ARun.qv (q_move rfl) rfl ?_
          refine ARun.qv (q_move rfl) rfl ?_
          refine ARun.qv (q_move rfl) rfl ?_
          obtain ⟨v10, e1, h⟩ := bnd h
          refine t_call0 rfl (slices_swapRangeCmpFunc_Fix_c fne_h (lenOk_f e1)) (CoL.refl _) (.cons .here .nil) rfl rfl ?_
          refine ARun.ghost (ImpX.eqs (s := 0) (av' := .sl 5 b_0 0 v10.length) rfl (congrArg (AV.sl 5 b_0 0) (lenOk_l e1)) (ImpX.here ?_))
          refine ARun.ghost (ImpX.eqs (s := 24) (av' := .sl 5 b_0 0 v10.length) rfl (congrArg (AV.sl 5 b_0 0) (lenOk_l e1)) (ImpX.here ?_))
          refine ARun.nil ?_
          refine ATodo.region ?_
          refine ARun.qv (q_move rfl) rfl ?_
          refine ARun.qv (q_move rfl) rfl ?_
          refine ARun.qv (q_subw rfl rfl) rfl ?_
          refine ARun.qv (q_assign rfl) rfl ?_
          refine ARun.nil ?_
          refine ATodo.stop ?_
          exact ImpX.lessP (by exact ⟨rfl, rfl, rfl, rfl, rfl, True.intro⟩) (.cons .here .nil) (ImpX.here ⟨v10, w64 (n5 - n6), n6, h, rfl⟩)
        · replace h := iteF hc h
          refine ATodo.seq ?_
          refine ATodo.region ?_
          refine ARun.qv (q_move rfl) rfl ?_
          refine ARun.qv (q_move rfl) rfl ?_
          refine ARun.qv (q_move rfl) rfl ?_
          refine ARun.qv (q_subw rfl rfl) rfl ?_
          refine ARun.qv (q_move rfl) rfl ?_
          refine ARun.qv (q_move rfl) rfl ?_
          refine ARun.qv (q_addw rfl rfl) rfl ?_
          refine ARun.qv (q_move rfl) rfl ?_
          refine ARun.qv (q_subw rfl rfl) rfl ?_
          refine ARun.qv (q_move rfl) rfl ?_
          refine ARun.qv (q_move rfl) rfl ?_
          obtain ⟨v11, e2, h⟩ := bnd h
          refine t_call0 rfl (slices_swapRangeCmpFunc_Fix_c fne_h (lenOk_f e2)) (CoL.refl _) (.cons .here .nil) rfl rfl ?_
          refine ARun.ghost (ImpX.eqs (s := 0) (av' := .sl 5 b_0 0 v11.length) rfl (congrArg (AV.sl 5 b_0 0) (lenOk_l e2)) (ImpX.here ?_))
          refine ARun.ghost (ImpX.eqs (s := 35) (av' := .sl 5 b_0 0 v11.length) rfl (congrArg (AV.sl 5 b_0 0) (lenOk_l e2)) (ImpX.here ?_))
          refine ARun.nil ?_
          refine ATodo.region ?_
          refine ARun.qv (q_move rfl) rfl ?_
          refine ARun.qv (q_move rfl) rfl ?_
          refine ARun.qv (q_subw rfl rfl) rfl ?_
          refine ARun.qv (q_assign rfl) rfl ?_
          refine ARun.nil ?_
          refine ATodo.stop ?_
          exact ImpX.lessP (by exact ⟨rfl, rfl, rfl, rfl, rfl, True.intro⟩) (.cons .here .nil) (ImpX.here ⟨v11, n5, w64 (n6 - n5), h, rfl⟩)
      · rintro σ' ⟨l7, n8, n9, h, rfl⟩
        unfold slices_rotateCmpFunc_Fix_j1 at h
        refine ATodo.blk ?_
        refine ATodo.stop ?_
        obtain rfl := Option.some.inj h
        refine hJ1 _ _ rfl ?_
        exact ImpX.lessP (by exact ⟨rfl, rfl, rfl, rfl, rfl, True.intro⟩) (.cons .here .nil) (ImpX.here rfl)
    · replace h := iteF hc h
      refine ATodo.exit rfl ?_
      replace h := outL h hA1
      unfold slices_rotateCmpFunc_Fix_k2 at h
      refine ATodo.region ?_
      refine ARun.qv (q_move rfl) rfl ?_
      refine ARun.qv (q_move rfl) rfl ?_
      refine ARun.qv (q_move rfl) rfl ?_
      refine ARun.qv (q_subw rfl rfl) rfl ?_
      refine ARun.qv (q_move rfl) rfl ?_
      refine ARun.qv (q_move rfl) rfl ?_
      refine ARun.qv (q_move rfl) rfl ?_
      obtain ⟨v12, e3, h⟩ := bnd h
      refine t_call0 rfl (slices_swapRangeCmpFunc_Fix_c fne_h (lenOk_f e3)) (CoL.refl _) (.cons .here .nil) rfl rfl ?_
      refine ARun.ghost (ImpX.eqs (s := 0) (av' := .sl 5 b_0 0 v12.length) rfl (congrArg (AV.sl 5 b_0 0) (lenOk_l e3)) (ImpX.here ?_))
      refine ARun.ghost (ImpX.eqs (s := 50) (av' := .sl 5 b_0 0 v12.length) rfl (congrArg (AV.sl 5 b_0 0) (lenOk_l e3)) (ImpX.here ?_))
      refine ARun.nil ?_
      refine ATodo.nil ?_
      obtain rfl := Option.some.inj h
      exact ImpX.here ⟨_, .nil, _, .cons .here .nil, ⟨rfl, rfl⟩⟩

set_option maxHeartbeats 4000000 in
theorem slices_symMergeCmpFunc_Fix_bd_c {b_0 : Bk} {self : (List Fix) → Int → Int → Int → (Fix → Fix → Option Int) → Option (List Fix)} (self_h : ∀ {b_0 : Bk} {p0x0 : List Fix} {p1x0 : Int} {p2x0 : Int} {p3x0 : Int} {fne : Fix → Fix → Option Int} {fne_F : FuncId} [IsFn Try.prog fne_F] {fne_C : List AV} (fne_h : ∀ {y0 y1 : _} {u : Int}, fne y0 y1 = some u → Pu Try.prog fne_F (.agg [.str y0.Device, I y0.At, I y0.X, I y0.Y, I y0.Error] :: .agg [.str y1.Device, I y1.At, I y1.X, I y1.Y, I y1.Error] ::  fne_C) (I u)) {r : (List Fix)}, self p0x0 p1x0 p2x0 p3x0 fne = some r → ACall Try.prog 231 [.sl 5 b_0 0 p0x0.length, I p1x0, I p2x0, I p3x0, .func (.func fne_F) fne_C] [(b_0, .arr 5 (p0x0.map Fix.av))] (T0 ([(b_0, .arr 5 (r.map Fix.av))]) (.tup []))) {p0x0 : List Fix} {p1x0 : Int} {p2x0 : Int} {p3x0 : Int} {fne : Fix → Fix → Option Int} {fne_F : FuncId} [IsFn Try.prog fne_F] {fne_C : List AV} (fne_h : ∀ {y0 y1 : _} {u : Int}, fne y0 y1 = some u → Pu Try.prog fne_F (.agg [.str y0.Device, I y0.At, I y0.X, I y0.Y, I y0.Error] :: .agg [.str y1.Device, I y1.At, I y1.X, I y1.Y, I y1.Error] ::  fne_C) (I u)) {r : (List Fix)} (h : slices_symMergeCmpFunc_Fix_bd self p0x0 p1x0 p2x0 p3x0 fne = some r) : ACall Try.prog 231 [.sl 5 b_0 0 p0x0.length, I p1x0, I p2x0, I p3x0, .func (.func fne_F) fne_C] [(b_0, .arr 5 (p0x0.map Fix.av))] (T0 ([(b_0, .arr 5 (r.map Fix.av))]) (.tup [])) := by
  unfold slices_symMergeCmpFunc_Fix_bd at h
  refine ACall.lessH ?_
  refine ACall.bodyN Try.func231 rfl Try.ntmps231 Try.results231 rfl rfl ?_
  refine ATodo.seq ?_
  refine ATodo.seq ?_
  refine ATodo.region ?_
  refine ARun.qv (q_move rfl) rfl ?_
  refine ARun.qv (q_move rfl) rfl ?_
  refine ARun.qv (q_subw rfl rfl) rfl ?_
  refine ARun.qv (q_eql rfl rfl) rfl ?_
  refine ARun.nil ?_
  refine ATodo.cond_d rfl (fun hc => ?_) (fun hc => ?_)
  · replace h := iteT hc h
    refine ATodo.seq ?_
    refine ATodo.region ?_
    refine ARun.qv (q_move rfl) rfl ?_
    refine ARun.qv (q_assign rfl) rfl ?_
    refine ARun.nil ?_
    refine ATodo.seq ?_
    refine ATodo.region ?_
    refine ARun.qv (q_move rfl) rfl ?_
    refine ARun.qv (q_assign rfl) rfl ?_
    refine ARun.nil ?_
    refine ATodo.seq ?_
    refine ATodo.block ?_
    refine ATodo.loopI (fun x : Int × Int => slices_symMergeCmpFunc_Fix_b1 p0x0 p1x0 fne x.1 x.2) (fun x σ' => σ' = ⟨220, [(0, .sl 5 b_0 0 p0x0.length), (1, I p1x0), (4, .func (.func fne_F) fne_C), (10, I x.1), (11, I x.2)], [(b_0, .arr 5 (p0x0.map Fix.av))]⟩) h ?_ ?_
    · exact ImpX.lessP (by exact ⟨rfl, rfl, rfl, rfl, rfl, True.intro⟩) (.cons .here .nil) (ImpX.here rfl)
    · intro x z1 σ' J1 hmk h hJ1 hA1
      obtain ⟨n3, n4⟩ := x
      obtain rfl := hmk
      replace h : slices_symMergeCmpFunc_Fix_b1 p0x0 p1x0 fne n3 n4 = some z1 := h
      unfold slices_symMergeCmpFunc_Fix_b1 at h
      refine ATodo.seq ?_
      refine ATodo.seq ?_
      refine ATodo.region ?_
      refine ARun.qv (q_move rfl) rfl ?_
      refine ARun.qv (q_move rfl) rfl ?_
      refine ARun.qv (q_lss rfl rfl) rfl ?_
      refine ARun.nil ?_
      refine ATodo.cond_d rfl (fun hc => ?_) (fun hc => ?_)
      · replace h := iteT hc h
        refine ATodo.skip ?_
        refine ATodo.block ?_
        refine ATodo.seq ?_
        refine ATodo.region ?_
        refine ARun.qv (q_move rfl) rfl ?_
        refine ARun.qv (q_move rfl) rfl ?_
        refine ARun.qv (q_addw rfl rfl) rfl ?_
        refine ARun.qv (q_conv_int rfl) rfl ?_
        refine ARun.qv (t_shr rfl rfl (by decide)) rfl ?_
        refine ARun.qv (q_conv_int rfl) rfl ?_
        refine ARun.qv (q_assign rfl) rfl ?_
        refine ARun.nil ?_
        refine ATodo.seq ?_
        refine ATodo.regionM (id := 5) (A := [0, 0, 0, 6, 14, 0, 0, 96, 224, 511, 1023]) 9 mixed rfl (by kernel_rfl) (by kernel_rfl) ?_
        refine AM.qv (q_move rfl) rfl ?_
        refine AM.qv (q_move rfl) rfl ?_
        refine AM.qv (q_move rfl) rfl ?_
        obtain ⟨v5, e1, h⟩ := bnd h
        refine AM.qv (t_index_sl rfl rfl rfl e1) rfl ?_
        refine AM.qv (t_load_aptr_agg (g := Fix.av) rfl rfl (.inl .here) rfl e1 rfl) rfl ?_
        refine AM.qv (q_move rfl) rfl ?_
        refine AM.qv (q_move rfl) rfl ?_
        obtain ⟨v6, e2, h⟩ := bnd h
        refine AM.qv (t_index_sl rfl rfl rfl e2) rfl ?_
        refine AM.qv (t_load_aptr_agg (g := Fix.av) rfl rfl (.inl .here) rfl e2 rfl) rfl ?_
        refine AM.nil ?_
        obtain ⟨v7, e3, h⟩ := bnd h
        refine r_callvp rfl rfl (fne_h e3) (CoL.refl _) rfl ?_
        refine ARun.qv (q_lss rfl rfl) rfl ?_
        refine ARun.nil ?_
        refine ATodo.cut (fun σ' => ∃ (n8 : Int) (n9 : Int), slices_symMergeCmpFunc_Fix_j1 n8 n9 = some z1 ∧ σ' = ⟨220, [(0, .sl 5 b_0 0 p0x0.length), (1, I p1x0), (4, .func (.func fne_F) fne_C), (10, I n8), (11, I n9)], [(b_0, .arr 5 (p0x0.map Fix.av))]⟩) ?_ ?_
        · refine ATodo.cond_d rfl (fun hc => ?_) (fun hc => ?_)
          · replace h := iteT hc h
            refine ATodo.region ?_
            refine ARun.qv (q_move rfl) rfl ?_
            refine ARun.qv (q_addw rfl rfl) rfl ?_
            refine ARun.qv (q_assign rfl) rfl ?_
            refine ARun.nil ?_
            refine ATodo.stop ?_
            exact ImpX.lessP (by exact ⟨rfl, rfl, rfl, rfl, rfl, True.intro⟩) (.cons .here .nil) (ImpX.here ⟨w64 ((w64 (shrI .u64 (IntKind.u64.wrap (w64 (n3 + n4))) (1 : Int))) + (1 : Int)), n4, h, rfl⟩)
          · replace h := iteF hc h
            refine ATodo.region ?_
            refine ARun.qv (q_move rfl) rfl ?_
            refine ARun.qv (q_assign rfl) rfl ?_
            refine ARun.nil ?_
            refine ATodo.stop ?_
            exact ImpX.lessP (by exact ⟨rfl, rfl, rfl, rfl, rfl, True.intro⟩) (.cons .here .nil) (ImpX.here ⟨n3, w64 (shrI .u64 (IntKind.u64.wrap (w64 (n3 + n4))) (1 : Int)), h, rfl⟩)
        · rintro σ' ⟨n8, n9, h, rfl⟩
          unfold slices_symMergeCmpFunc_Fix_j1 at h
          refine ATodo.blk ?_
          refine ATodo.stop ?_
          obtain rfl := Option.some.inj h
          refine hJ1 _ _ rfl ?_
          exact ImpX.lessP (by exact ⟨rfl, rfl, rfl, rfl, rfl, True.intro⟩) (.cons .here .nil) (ImpX.here rfl)
      · replace h := iteF hc h
        refine ATodo.exit rfl ?_
        replace h := outL h hA1
        refine ATodo.seq ?_
        refine ATodo.seq ?_
        refine ATodo.region ?_
        refine ARun.qv (q_move rfl) rfl ?_
        refine ARun.qv (q_assign rfl) rfl ?_
        refine ARun.nil ?_
        refine ATodo.block ?_
        refine ATodo.loopI (fun x : (List Fix) × Int => slices_symMergeCmpFunc_Fix_b2 n3 x.1 x.2) (fun x σ' => σ' = ⟨220, [(0, .sl 5 b_0 0 x.1.length), (10, I n3), (13, I x.2)], [(b_0, .arr 5 (x.1.map Fix.av))]⟩) h ?_ ?_
        · exact ImpX.lessP (by exact ⟨rfl, rfl, rfl, True.intro⟩) (.cons .here .nil) (ImpX.here rfl)
        · intro x z2 σ' J2 hmk h hJ2 hA2
          obtain ⟨l12, n13⟩ := x
          obtain rfl := hmk
          replace h : slices_symMergeCmpFunc_Fix_b2 n3 l12 n13 = some z2 := h
          unfold slices_symMergeCmpFunc_Fix_b2 at h
          refine ATodo.seq ?_
          refine ATodo.seq ?_
          refine ATodo.region ?_
          refine ARun.qv (q_move rfl) rfl ?_
          refine ARun.qv (q_move rfl) rfl ?_
          refine ARun.qv (q_subw rfl rfl) rfl ?_
          refine ARun.qv (q_lss rfl rfl) rfl ?_
          refine ARun.nil ?_
          refine ATodo.cond_d rfl (fun hc => ?_) (fun hc => ?_)
          · replace h := iteT hc h
            refine ATodo.skip ?_
            refine ATodo.seq ?_
            refine ATodo.block ?_
            obtain ⟨v14, e4, h⟩ := bnd h
            obtain ⟨v15, e5, h⟩ := bnd h
            obtain ⟨v16, e6, h⟩ := bnd h
            refine ATodo.regionT (id := 11) (A := [0, 0, 0, 0, 8, 0, 0, 64, 224, 480, 0, 0, 3072, 7168, 16355, 32739, 65535, 131071]) (H0 := [(b_0, .arr 5 (l12.map Fix.av))]) (HH := fun β => [(b_0, .arr 5 ((l12.set n13.toNat v14).map Fix.av))]) 16 mixed rfl (by kernel_rfl) (by kernel_rfl) [⟨none, some 15, [9, 13], fun _ => (b_0, .arr 5 (l12.map Fix.av)), none⟩, ⟨some 15, none, [], fun _ => (b_0, .arr 5 ((l12.set n13.toNat v14).map Fix.av)), none⟩] [] rfl (by kernel_rfl) rfl (.cons .here .nil) (fun _ => rfl) ?_
            refine AT.am 9 rfl rfl ?_
            refine AM.qv (q_move rfl) rfl ?_
            refine AM.qv (q_move rfl) rfl ?_
            refine AM.qv (q_move rfl) rfl ?_
            refine AM.qv (q_move rfl) rfl ?_
            refine AM.qv (q_addw rfl rfl) rfl ?_
            refine AM.qv (q_move rfl) rfl ?_
            refine AM.qv (q_move rfl) rfl ?_
            refine AM.qv (q_addw rfl rfl) rfl ?_
            refine AM.qv (t_index_sl rfl rfl rfl e4) rfl ?_
            refine AM.nil ?_
            refine AT.rd (Rs := [(b_0, .arr 5 (l12.map Fix.av))]) (fun _ => rfl) rfl (fun _ => rfl) (fun _ => rfl) (t_load_aptr_agg (g := Fix.av) rfl rfl (.inl .here) rfl e4 rfl) rfl ?_
            refine AT.am 3 rfl rfl ?_
            refine AM.qv (q_move rfl) rfl ?_
            refine AM.qv (q_move rfl) rfl ?_
            refine AM.qv (t_index_sl rfl rfl rfl e5) rfl ?_
            refine AM.nil ?_
            refine AT.rd (Rs := [(b_0, .arr 5 (l12.map Fix.av))]) (fun _ => rfl) rfl (fun _ => rfl) (fun _ => rfl) (t_load_aptr_agg (g := Fix.av) rfl rfl (.inl .here) rfl e5 rfl) rfl ?_
            refine AT.am 1 rfl rfl ?_
            refine AM.qv (t_index_sl rfl rfl rfl e6) rfl ?_
            refine AM.nil ?_
            refine AT.run0 (Ti := [(b_0, .arr 5 (l12.map Fix.av))]) (Pi := [(b_0, .arr 5 ((l12.set n13.toNat v14).map Fix.av))]) (fun _ => rfl) (fun _ => rfl) (fun _ => rfl) rfl rfl ?_ ?_
            · refine t_store_aptr1 (g := Fix.av) (el' := v14) rfl rfl rfl rfl e6 rfl .here rfl ?_
              exact ARun.nil ⟨_, rfl⟩
            refine AT.nilN (fun _ => rfl) (fun β => ?_)
            refine ARun.ghost (ImpX.eqs (s := 0) (av' := .sl 5 b_0 0 (l12.set n13.toNat v14).length) rfl (by simp) (ImpX.here ?_))
            refine ARun.ghost (ImpX.eqs (s := 61) (av' := .sl 5 b_0 0 (l12.set n13.toNat v14).length) rfl (by simp) (ImpX.here ?_))
            refine ARun.ghost (ImpX.eqs (s := 63) (av' := .sl 5 b_0 0 (l12.set n13.toNat v14).length) rfl (by simp) (ImpX.here ?_))
            refine ARun.ghost (ImpX.eqs (s := 66) (av' := .sl 5 b_0 0 (l12.set n13.toNat v14).length) rfl (by simp) (ImpX.here ?_))
            refine ARun.ghost (ImpX.eqs (s := 71) (av' := .sl 5 b_0 0 (l12.set n13.toNat v14).length) rfl (by simp) (ImpX.here ?_))
            obtain ⟨v17, e7, h⟩ := bnd h
            refine ARun.qv (t_index_sl rfl rfl rfl e7) rfl ?_
            refine t_store_aptr1 (g := Fix.av) (el' := v15) rfl rfl rfl rfl e7 rfl .here rfl ?_
            refine ARun.ghost (ImpX.eqs (s := 0) (av' := .sl 5 b_0 0 ((l12.set n13.toNat v14).set (w64 (n13 + (1 : Int))).toNat v15).length) rfl (by rw [List.length_set]) (ImpX.here ?_))
            refine ARun.ghost (ImpX.eqs (s := 61) (av' := .sl 5 b_0 0 ((l12.set n13.toNat v14).set (w64 (n13 + (1 : Int))).toNat v15).length) rfl (by rw [List.length_set]) (ImpX.here ?_))
            refine ARun.ghost (ImpX.eqs (s := 63) (av' := .sl 5 b_0 0 ((l12.set n13.toNat v14).set (w64 (n13 + (1 : Int))).toNat v15).length) rfl (by rw [List.length_set]) (ImpX.here ?_))
            refine ARun.ghost (ImpX.eqs (s := 66) (av' := .sl 5 b_0 0 ((l12.set n13.toNat v14).set (w64 (n13 + (1 : Int))).toNat v15).length) rfl (by rw [List.length_set]) (ImpX.here ?_))
            refine ARun.ghost (ImpX.eqs (s := 71) (av' := .sl 5 b_0 0 ((l12.set n13.toNat v14).set (w64 (n13 + (1 : Int))).toNat v15).length) rfl (by rw [List.length_set]) (ImpX.here ?_))
            refine ARun.nil ?_
            refine ATodo.blk ?_
            refine ATodo.region ?_
            refine ARun.qv (q_move rfl) rfl ?_
            refine ARun.qv (q_addw rfl rfl) rfl ?_
            refine ARun.qv (q_assign rfl) rfl ?_
            refine ARun.nil ?_
            refine ATodo.stop ?_
            obtain rfl := Option.some.inj h
            refine hJ2 _ _ rfl ?_
            exact ImpX.lessP (by exact ⟨rfl, rfl, rfl, True.intro⟩) (.cons .here .nil) (ImpX.here rfl)
          · replace h := iteF hc h
            refine ATodo.exit rfl ?_
            replace h := outL h hA2
            refine ATodo.ret ?_
            obtain rfl := Option.some.inj h
            exact ImpX.here ⟨_, .nil, _, .cons .here .nil, ⟨rfl, rfl⟩⟩
  · replace h := iteF hc h
    refine ATodo.skip ?_
    refine ATodo.seq ?_
    refine ATodo.seq ?_
    refine ATodo.region ?_
    refine ARun.qv (q_move rfl) rfl ?_
    refine ARun.qv (q_move rfl) rfl ?_
    refine ARun.qv (q_subw rfl rfl) rfl ?_
    refine ARun.qv (q_eql rfl rfl) rfl ?_
    refine ARun.nil ?_
    refine ATodo.cond_d rfl (fun hc => ?_) (fun hc => ?_)
    · replace h := iteT hc h
      refine ATodo.seq ?_
      refine ATodo.region ?_
      refine ARun.qv (q_move rfl) rfl ?_
      refine ARun.qv (q_assign rfl) rfl ?_
      refine ARun.nil ?_
      refine ATodo.seq ?_
      refine ATodo.region ?_
      refine ARun.qv (q_move rfl) rfl ?_
      refine ARun.qv (q_assign rfl) rfl ?_
      refine ARun.nil ?_
      refine ATodo.seq ?_
      refine ATodo.block ?_
      refine ATodo.loopI (fun x : Int × Int => slices_symMergeCmpFunc_Fix_b3 p0x0 p2x0 fne x.1 x.2) (fun x σ' => σ' = ⟨220, [(0, .sl 5 b_0 0 p0x0.length), (2, I p2x0), (4, .func (.func fne_F) fne_C), (14, I x.1), (15, I x.2)], [(b_0, .arr 5 (p0x0.map Fix.av))]⟩) h ?_ ?_
      · exact ImpX.lessP (by exact ⟨rfl, rfl, rfl, rfl, rfl, True.intro⟩) (.cons .here .nil) (ImpX.here rfl)
      · intro x z3 σ' J3 hmk h hJ3 hA3
        obtain ⟨n20, n21⟩ := x
        obtain rfl := hmk
        replace h : slices_symMergeCmpFunc_Fix_b3 p0x0 p2x0 fne n20 n21 = some z3 := h
        unfold slices_symMergeCmpFunc_Fix_b3 at h
        refine ATodo.seq ?_
        refine ATodo.seq ?_
        refine ATodo.region ?_
        refine ARun.qv (q_move rfl) rfl ?_
        refine ARun.qv (q_move rfl) rfl ?_
        refine ARun.qv (q_lss rfl rfl) rfl ?_
        refine ARun.nil ?_
        refine ATodo.cond_d rfl (fun hc => ?_) (fun hc => ?_)
        · replace h := iteT hc h
          refine ATodo.skip ?_
          refine ATodo.block ?_
          refine ATodo.seq ?_
          refine ATodo.region ?_
          refine ARun.qv (q_move rfl) rfl ?_
          refine ARun.qv (q_move rfl) rfl ?_
          refine ARun.qv (q_addw rfl rfl) rfl ?_
          refine ARun.qv (q_conv_int rfl) rfl ?_
          refine ARun.qv (t_shr rfl rfl (by decide)) rfl ?_
          refine ARun.qv (q_conv_int rfl) rfl ?_
          refine ARun.qv (q_assign rfl) rfl ?_
          refine ARun.nil ?_
          refine ATodo.seq ?_
          refine ATodo.regionM (id := 17) (A := [0, 0, 0, 6, 14, 0, 0, 96, 224, 511, 1023, 2047]) 9 mixed rfl (by kernel_rfl) (by kernel_rfl) ?_
          refine AM.qv (q_move rfl) rfl ?_
          refine AM.qv (q_move rfl) rfl ?_
          refine AM.qv (q_move rfl) rfl ?_
          obtain ⟨v22, e8, h⟩ := bnd h
          refine AM.qv (t_index_sl rfl rfl rfl e8) rfl ?_
          refine AM.qv (t_load_aptr_agg (g := Fix.av) rfl rfl (.inl .here) rfl e8 rfl) rfl ?_
          refine AM.qv (q_move rfl) rfl ?_
          refine AM.qv (q_move rfl) rfl ?_
          obtain ⟨v23, e9, h⟩ := bnd h
          refine AM.qv (t_index_sl rfl rfl rfl e9) rfl ?_
          refine AM.qv (t_load_aptr_agg (g := Fix.av) rfl rfl (.inl .here) rfl e9 rfl) rfl ?_
          refine AM.nil ?_
          obtain ⟨v24, e10, h⟩ := bnd h
          refine r_callvp rfl rfl (fne_h e10) (CoL.refl _) rfl ?_
          refine ARun.qv (q_lss rfl rfl) rfl ?_
          refine ARun.qv (q_not_d rfl) rfl ?_
          refine ARun.nil ?_
          refine ATodo.cut (fun σ' => ∃ (n25 : Int) (n26 : Int), slices_symMergeCmpFunc_Fix_j2 n25 n26 = some z3 ∧ σ' = ⟨220, [(0, .sl 5 b_0 0 p0x0.length), (2, I p2x0), (4, .func (.func fne_F) fne_C), (14, I n25), (15, I n26)], [(b_0, .arr 5 (p0x0.map Fix.av))]⟩) ?_ ?_
          · refine ATodo.cond_d rfl (fun hc => ?_) (fun hc => ?_)
            · replace h := iteT hc h
              refine ATodo.region ?_
              refine ARun.qv (q_move rfl) rfl ?_
              refine ARun.qv (q_addw rfl rfl) rfl ?_
              refine ARun.qv (q_assign rfl) rfl ?_
              refine ARun.nil ?_
              refine ATodo.stop ?_
              exact ImpX.lessP (by exact ⟨rfl, rfl, rfl, rfl, rfl, True.intro⟩) (.cons .here .nil) (ImpX.here ⟨w64 ((w64 (shrI .u64 (IntKind.u64.wrap (w64 (n20 + n21))) (1 : Int))) + (1 : Int)), n21, h, rfl⟩)
            · replace h := iteF hc h
              refine ATodo.region ?_
              refine ARun.qv (q_move rfl) rfl ?_
              refine ARun.qv (q_assign rfl) rfl ?_
              refine ARun.nil ?_
              refine ATodo.stop ?_
              exact ImpX.lessP (by exact ⟨rfl, rfl, rfl, rfl, rfl, True.intro⟩) (.cons .here .nil) (ImpX.here ⟨n20, w64 (shrI .u64 (IntKind.u64.wrap (w64 (n20 + n21))) (1 : Int)), h, rfl⟩)
          · rintro σ' ⟨n25, n26, h, rfl⟩
            unfold slices_symMergeCmpFunc_Fix_j2 at h
            refine ATodo.blk ?_
            refine ATodo.stop ?_
            obtain rfl := Option.some.inj h
            refine hJ3 _ _ rfl ?_
            exact ImpX.lessP (by exact ⟨rfl, rfl, rfl, rfl, rfl, True.intro⟩) (.cons .here .nil) (ImpX.here rfl)
        · replace h := iteF hc h
          refine ATodo.exit rfl ?_
          replace h := outL h hA3
          refine ATodo.seq ?_
          refine ATodo.seq ?_
          refine ATodo.region ?_
          refine ARun.qv (q_move rfl) rfl ?_
          refine ARun.qv (q_assign rfl) rfl ?_
          refine ARun.nil ?_
          refine ATodo.block ?_
          refine ATodo.loopI (fun x : (List Fix) × Int => slices_symMergeCmpFunc_Fix_b4 n20 x.1 x.2) (fun x σ' => σ' = ⟨220, [(0, .sl 5 b_0 0 x.1.length), (14, I n20), (17, I x.2)], [(b_0, .arr 5 (x.1.map Fix.av))]⟩) h ?_ ?_
          · exact ImpX.lessP (by exact ⟨rfl, rfl, rfl, True.intro⟩) (.cons .here .nil) (ImpX.here rfl)
          · intro x z4 σ' J4 hmk h hJ4 hA4
            obtain ⟨l29, n30⟩ := x
            obtain rfl := hmk
            replace h : slices_symMergeCmpFunc_Fix_b4 n20 l29 n30 = some z4 := h
            unfold slices_symMergeCmpFunc_Fix_b4 at h
            refine ATodo.seq ?_
            refine ATodo.seq ?_
            refine ATodo.region ?_
            refine ARun.qv (q_move rfl) rfl ?_
            refine ARun.qv (q_move rfl) rfl ?_
            refine ARun.qv (q_gtr rfl rfl) rfl ?_
            refine ARun.nil ?_
            refine ATodo.cond_d rfl (fun hc => ?_) (fun hc => ?_)
            · replace h := iteT hc h
              refine ATodo.skip ?_
              refine ATodo.seq ?_
              refine ATodo.block ?_
              obtain ⟨v31, e11, h⟩ := bnd h
              obtain ⟨v32, e12, h⟩ := bnd h
              obtain ⟨v33, e13, h⟩ := bnd h
              refine ATodo.regionT (id := 23) (A := [0, 0, 0, 0, 8, 0, 0, 64, 224, 480, 0, 0, 3072, 7168, 16355, 32739, 65535, 131071]) (H0 := [(b_0, .arr 5 (l29.map Fix.av))]) (HH := fun β => [(b_0, .arr 5 ((l29.set n30.toNat v31).map Fix.av))]) 16 mixed rfl (by kernel_rfl) (by kernel_rfl) [⟨none, some 15, [9, 13], fun _ => (b_0, .arr 5 (l29.map Fix.av)), none⟩, ⟨some 15, none, [], fun _ => (b_0, .arr 5 ((l29.set n30.toNat v31).map Fix.av)), none⟩] [] rfl (by kernel_rfl) rfl (.cons .here .nil) (fun _ => rfl) ?_
              refine AT.am 9 rfl rfl ?_
              refine AM.qv (q_move rfl) rfl ?_
              refine AM.qv (q_move rfl) rfl ?_
              refine AM.qv (q_move rfl) rfl ?_
              refine AM.qv (q_move rfl) rfl ?_
              refine AM.qv (q_subw rfl rfl) rfl ?_
              refine AM.qv (q_move rfl) rfl ?_
              refine AM.qv (q_move rfl) rfl ?_
              refine AM.qv (q_subw rfl rfl) rfl ?_
              refine AM.qv (t_index_sl rfl rfl rfl e11) rfl ?_
              refine AM.nil ?_
              refine AT.rd (Rs := [(b_0, .arr 5 (l29.map Fix.av))]) (fun _ => rfl) rfl (fun _ => rfl) (fun _ => rfl) (t_load_aptr_agg (g := Fix.av) rfl rfl (.inl .here) rfl e11 rfl) rfl ?_
              refine AT.am 3 rfl rfl ?_
              refine AM.qv (q_move rfl) rfl ?_
              refine AM.qv (q_move rfl) rfl ?_
              refine AM.qv (t_index_sl rfl rfl rfl e12) rfl ?_
              refine AM.nil ?_
              refine AT.rd (Rs := [(b_0, .arr 5 (l29.map Fix.av))]) (fun _ => rfl) rfl (fun _ => rfl) (fun _ => rfl) (t_load_aptr_agg (g := Fix.av) rfl rfl (.inl .here) rfl e12 rfl) rfl ?_
              refine AT.am 1 rfl rfl ?_
              refine AM.qv (t_index_sl rfl rfl rfl e13) rfl ?_
              refine AM.nil ?_
              refine AT.run0 (Ti := [(b_0, .arr 5 (l29.map Fix.av))]) (Pi := [(b_0, .arr 5 ((l29.set n30.toNat v31).map Fix.av))]) (fun _ => rfl) (fun _ => rfl) (fun _ => rfl) rfl rfl ?_ ?_
              · refine t_store_aptr1 (g := Fix.av) (el' := v31) rfl rfl rfl rfl e13 rfl .here rfl ?_
                exact ARun.nil ⟨_, rfl⟩
              refine AT.nilN (fun _ => rfl) (fun β => ?_)
              refine ARun.ghost (ImpX.eqs (s := 0) (av' := .sl 5 b_0 0 (l29.set n30.toNat v31).length) rfl (by simp) (ImpX.here ?_))
              refine ARun.ghost (ImpX.eqs (s := 113) (av' := .sl 5 b_0 0 (l29.set n30.toNat v31).length) rfl (by simp) (ImpX.here ?_))
              refine ARun.ghost (ImpX.eqs (s := 115) (av' := .sl 5 b_0 0 (l29.set n30.toNat v31).length) rfl (by simp) (ImpX.here ?_))
              refine ARun.ghost (ImpX.eqs (s := 118) (av' := .sl 5 b_0 0 (l29.set n30.toNat v31).length) rfl (by simp) (ImpX.here ?_))
              refine ARun.ghost (ImpX.eqs (s := 123) (av' := .sl 5 b_0 0 (l29.set n30.toNat v31).length) rfl (by simp) (ImpX.here ?_))
              obtain ⟨v34, e14, h⟩ := bnd h
              refine ARun.qv (t_index_sl rfl rfl rfl e14) rfl ?_
              refine t_store_aptr1 (g := Fix.av) (el' := v32) rfl rfl rfl rfl e14 rfl .here rfl ?_
              refine ARun.ghost (ImpX.eqs (s := 0) (av' := .sl 5 b_0 0 ((l29.set n30.toNat v31).set (w64 (n30 - (1 : Int))).toNat v32).length) rfl (by rw [List.length_set]) (ImpX.here ?_))
              refine ARun.ghost (ImpX.eqs (s := 113) (av' := .sl 5 b_0 0 ((l29.set n30.toNat v31).set (w64 (n30 - (1 : Int))).toNat v32).length) rfl (by rw [List.length_set]) (ImpX.here ?_))
              refine ARun.ghost (ImpX.eqs (s := 115) (av' := .sl 5 b_0 0 ((l29.set n30.toNat v31).set (w64 (n30 - (1 : Int))).toNat v32).length) rfl (by rw [List.length_set]) (ImpX.here ?_))
              refine ARun.ghost (ImpX.eqs (s := 118) (av' := .sl 5 b_0 0 ((l29.set n30.toNat v31).set (w64 (n30 - (1 : Int))).toNat v32).length) rfl (by rw [List.length_set]) (ImpX.here ?_))
              refine ARun.ghost (ImpX.eqs (s := 123) (av' := .sl 5 b_0 0 ((l29.set n30.toNat v31).set (w64 (n30 - (1 : Int))).toNat v32).length) rfl (by rw [List.length_set]) (ImpX.here ?_))
              refine ARun.nil ?_
              refine ATodo.blk ?_
              refine ATodo.region ?_
              refine ARun.qv (q_move rfl) rfl ?_
              refine ARun.qv (q_subw rfl rfl) rfl ?_
              refine ARun.qv (q_assign rfl) rfl ?_
              refine ARun.nil ?_
              refine ATodo.stop ?_
              obtain rfl := Option.some.inj h
              refine hJ4 _ _ rfl ?_
              exact ImpX.lessP (by exact ⟨rfl, rfl, rfl, True.intro⟩) (.cons .here .nil) (ImpX.here rfl)
            · replace h := iteF hc h
              refine ATodo.exit rfl ?_
              replace h := outL h hA4
              refine ATodo.ret ?_
              obtain rfl := Option.some.inj h
              exact ImpX.here ⟨_, .nil, _, .cons .here .nil, ⟨rfl, rfl⟩⟩
    · replace h := iteF hc h
      refine ATodo.skip ?_
      refine ATodo.seq ?_
      refine ATodo.region ?_
      refine ARun.qv (q_move rfl) rfl ?_
      refine ARun.qv (q_move rfl) rfl ?_
      refine ARun.qv (q_addw rfl rfl) rfl ?_
      refine ARun.qv (q_conv_int rfl) rfl ?_
      refine ARun.qv (t_shr rfl rfl (by decide)) rfl ?_
      refine ARun.qv (q_conv_int rfl) rfl ?_
      refine ARun.qv (q_assign rfl) rfl ?_
      refine ARun.nil ?_
      refine ATodo.seq ?_
      refine ATodo.region ?_
      refine ARun.qv (q_move rfl) rfl ?_
      refine ARun.qv (q_move rfl) rfl ?_
      refine ARun.qv (q_addw rfl rfl) rfl ?_
      refine ARun.qv (q_assign rfl) rfl ?_
      refine ARun.nil ?_
      refine ATodo.seq ?_
      refine ATodo.region ?_
      refine ARun.qv (q_assign rfl) rfl ?_
      refine ARun.qv (q_assign rfl) rfl ?_
      refine ARun.nil ?_
      refine ATodo.seq ?_
      refine ATodo.seq ?_
      refine ATodo.region ?_
      refine ARun.qv (q_move rfl) rfl ?_
      refine ARun.qv (q_move rfl) rfl ?_
      refine ARun.qv (q_gtr rfl rfl) rfl ?_
      refine ARun.nil ?_
      refine ATodo.cut (fun σ' => ∃ (n35 : Int) (n36 : Int), slices_symMergeCmpFunc_Fix_j3 self p0x0 p1x0 p2x0 p3x0 fne n35 n36 = some r ∧ σ' = ⟨220, [(0, .sl 5 b_0 0 p0x0.length), (1, I p1x0), (2, I p2x0), (3, I p3x0), (4, .func (.func fne_F) fne_C), (18, I (w64 (shrI .u64 (IntKind.u64.wrap (w64 (p1x0 + p3x0))) (1 : Int)))), (19, I (w64 ((w64 (shrI .u64 (IntKind.u64.wrap (w64 (p1x0 + p3x0))) (1 : Int))) + p2x0))), (20, I n35), (21, I n36)], [(b_0, .arr 5 (p0x0.map Fix.av))]⟩) ?_ ?_
      · refine ATodo.cond_d rfl (fun hc => ?_) (fun hc => ?_)
        · replace h := iteT hc h
          refine ATodo.seq ?_
          refine ATodo.region ?_
          refine ARun.qv (q_move rfl) rfl ?_
          refine ARun.qv (q_move rfl) rfl ?_
          refine ARun.qv (q_subw rfl rfl) rfl ?_
          refine ARun.qv (q_assign rfl) rfl ?_
          refine ARun.nil ?_
          refine ATodo.region ?_
          refine ARun.qv (q_move rfl) rfl ?_
          refine ARun.qv (q_assign rfl) rfl ?_
          refine ARun.nil ?_
          refine ATodo.stop ?_
          exact ImpX.lessP (by exact ⟨rfl, rfl, rfl, rfl, rfl, rfl, rfl, rfl, rfl, True.intro⟩) (.cons .here .nil) (ImpX.here ⟨w64 ((w64 ((w64 (shrI .u64 (IntKind.u64.wrap (w64 (p1x0 + p3x0))) (1 : Int))) + p2x0)) - p3x0), w64 (shrI .u64 (IntKind.u64.wrap (w64 (p1x0 + p3x0))) (1 : Int)), h, rfl⟩)
        · replace h := iteF hc h
          refine ATodo.seq ?_
          refine ATodo.region ?_
          refine ARun.qv (q_move rfl) rfl ?_
          refine ARun.qv (q_assign rfl) rfl ?_
          refine ARun.nil ?_
          refine ATodo.region ?_
          refine ARun.qv (q_move rfl) rfl ?_
          refine ARun.qv (q_assign rfl) rfl ?_
          refine ARun.nil ?_
          refine ATodo.stop ?_
          exact ImpX.lessP (by exact ⟨rfl, rfl, rfl, rfl, rfl, rfl, rfl, rfl, rfl, True.intro⟩) (.cons .here .nil) (ImpX.here ⟨p1x0, p2x0, h, rfl⟩)
      · rintro σ' ⟨n35, n36, h, rfl⟩
        unfold slices_symMergeCmpFunc_Fix_j3 at h
        refine ATodo.seq ?_
        refine ATodo.region ?_
        refine ARun.qv (q_move rfl) rfl ?_
        refine ARun.qv (q_subw rfl rfl) rfl ?_
        refine ARun.qv (q_assign rfl) rfl ?_
        refine ARun.nil ?_
        refine ATodo.seq ?_
        refine ATodo.block ?_
        refine ATodo.loopI (fun x : Int × Int => slices_symMergeCmpFunc_Fix_b5 self p0x0 p1x0 p2x0 p3x0 fne x.1 x.2) (fun x σ' => σ' = ⟨220, [(0, .sl 5 b_0 0 p0x0.length), (1, I p1x0), (2, I p2x0), (3, I p3x0), (4, .func (.func fne_F) fne_C), (18, I (w64 (shrI .u64 (IntKind.u64.wrap (w64 (p1x0 + p3x0))) (1 : Int)))), (19, I (w64 ((w64 (shrI .u64 (IntKind.u64.wrap (w64 (p1x0 + p3x0))) (1 : Int))) + p2x0))), (20, I x.1), (21, I x.2), (22, I (w64 ((w64 ((w64 (shrI .u64 (IntKind.u64.wrap (w64 (p1x0 + p3x0))) (1 : Int))) + p2x0)) - (1 : Int))))], [(b_0, .arr 5 (p0x0.map Fix.av))]⟩) h ?_ ?_
        · exact ImpX.lessP (by exact ⟨rfl, rfl, rfl, rfl, rfl, rfl, rfl, rfl, rfl, rfl, True.intro⟩) (.cons .here .nil) (ImpX.here rfl)
        · intro x z5 σ' J5 hmk h hJ5 hA5
          obtain ⟨n39, n40⟩ := x
          obtain rfl := hmk
          replace h : slices_symMergeCmpFunc_Fix_b5 self p0x0 p1x0 p2x0 p3x0 fne n39 n40 = some z5 := h
          unfold slices_symMergeCmpFunc_Fix_b5 at h
          refine ATodo.seq ?_
          refine ATodo.seq ?_
          refine ATodo.region ?_
          refine ARun.qv (q_move rfl) rfl ?_
          refine ARun.qv (q_move rfl) rfl ?_
          refine ARun.qv (q_lss rfl rfl) rfl ?_
          refine ARun.nil ?_
          refine ATodo.cond_d rfl (fun hc => ?_) (fun hc => ?_)
          · replace h := iteT hc h
            refine ATodo.skip ?_
            refine ATodo.block ?_
            refine ATodo.seq ?_
            refine ATodo.region ?_
            refine ARun.qv (q_move rfl) rfl ?_
            refine ARun.qv (q_move rfl) rfl ?_
            refine ARun.qv (q_addw rfl rfl) rfl ?_
            refine ARun.qv (q_conv_int rfl) rfl ?_
            refine ARun.qv (t_shr rfl rfl (by decide)) rfl ?_
            refine ARun.qv (q_conv_int rfl) rfl ?_
            refine ARun.qv (q_assign rfl) rfl ?_
            refine ARun.nil ?_
            refine ATodo.seq ?_
            refine ATodo.regionM (id := 35) (A := [0, 0, 0, 0, 12, 30, 62, 0, 0, 384, 896, 2047, 4095, 8191]) 11 mixed rfl (by kernel_rfl) (by kernel_rfl) ?_
            refine AM.qv (q_move rfl) rfl ?_
            refine AM.qv (q_move rfl) rfl ?_
            refine AM.qv (q_move rfl) rfl ?_
            refine AM.qv (q_move rfl) rfl ?_
            refine AM.qv (q_subw rfl rfl) rfl ?_
            obtain ⟨v41, e15, h⟩ := bnd h
            refine AM.qv (t_index_sl rfl rfl rfl e15) rfl ?_
            refine AM.qv (t_load_aptr_agg (g := Fix.av) rfl rfl (.inl .here) rfl e15 rfl) rfl ?_
            refine AM.qv (q_move rfl) rfl ?_
            refine AM.qv (q_move rfl) rfl ?_
            obtain ⟨v42, e16, h⟩ := bnd h
            refine AM.qv (t_index_sl rfl rfl rfl e16) rfl ?_
            refine AM.qv (t_load_aptr_agg (g := Fix.av) rfl rfl (.inl .here) rfl e16 rfl) rfl ?_
            refine AM.nil ?_
            obtain ⟨v43, e17, h⟩ := bnd h
            refine r_callvp rfl rfl (fne_h e17) (CoL.refl _) rfl ?_
            refine ARun.qv (q_lss rfl rfl) rfl ?_
            refine ARun.qv (q_not_d rfl) rfl ?_
            refine ARun.nil ?_
            refine ATodo.cut (fun σ' => ∃ (n44 : Int) (n45 : Int), slices_symMergeCmpFunc_Fix_j4 n44 n45 = some z5 ∧ σ' = ⟨220, [(0, .sl 5 b_0 0 p0x0.length), (1, I p1x0), (2, I p2x0), (3, I p3x0), (4, .func (.func fne_F) fne_C), (18, I (w64 (shrI .u64 (IntKind.u64.wrap (w64 (p1x0 + p3x0))) (1 : Int)))), (19, I (w64 ((w64 (shrI .u64 (IntKind.u64.wrap (w64 (p1x0 + p3x0))) (1 : Int))) + p2x0))), (20, I n44), (21, I n45), (22, I (w64 ((w64 ((w64 (shrI .u64 (IntKind.u64.wrap (w64 (p1x0 + p3x0))) (1 : Int))) + p2x0)) - (1 : Int))))], [(b_0, .arr 5 (p0x0.map Fix.av))]⟩) ?_ ?_
            · refine ATodo.cond_d rfl (fun hc => ?_) (fun hc => ?_)
              · replace h := iteT hc h
                refine ATodo.region ?_
                refine ARun.qv (q_move rfl) rfl ?_
                refine ARun.qv (q_addw rfl rfl) rfl ?_
                refine ARun.qv (q_assign rfl) rfl ?_
                refine ARun.nil ?_
                refine ATodo.stop ?_
                exact ImpX.lessP (by exact ⟨rfl, rfl, rfl, rfl, rfl, rfl, rfl, rfl, rfl, rfl, True.intro⟩) (.cons .here .nil) (ImpX.here ⟨w64 ((w64 (shrI .u64 (IntKind.u64.wrap (w64 (n39 + n40))) (1 : Int))) + (1 : Int)), n40, h, rfl⟩)
              · replace h := iteF hc h
                refine ATodo.region ?_
                refine ARun.qv (q_move rfl) rfl ?_
                refine ARun.qv (q_assign rfl) rfl ?_
                refine ARun.nil ?_
                refine ATodo.stop ?_
                exact ImpX.lessP (by exact ⟨rfl, rfl, rfl, rfl, rfl, rfl, rfl, rfl, rfl, rfl, True.intro⟩) (.cons .here .nil) (ImpX.here ⟨n39, w64 (shrI .u64 (IntKind.u64.wrap (w64 (n39 + n40))) (1 : Int)), h, rfl⟩)
            · rintro σ' ⟨n44, n45, h, rfl⟩
              unfold slices_symMergeCmpFunc_Fix_j4 at h
              refine ATodo.blk ?_
              refine ATodo.stop ?_
              obtain rfl := Option.some.inj h
              refine hJ5 _ _ rfl ?_
              exact ImpX.lessP (by exact ⟨rfl, rfl, rfl, rfl, rfl, rfl, rfl, rfl, rfl, rfl, True.intro⟩) (.cons .here .nil) (ImpX.here rfl)
          · replace h := iteF hc h
            refine ATodo.exit rfl ?_
            replace h := outL h hA5
            refine ATodo.seq ?_
            refine ATodo.region ?_
            refine ARun.qv (q_move rfl) rfl ?_
            refine ARun.qv (q_move rfl) rfl ?_
            refine ARun.qv (q_subw rfl rfl) rfl ?_
            refine ARun.qv (q_assign rfl) rfl ?_
            refine ARun.nil ?_
            refine ATodo.seq ?_
            refine ATodo.seq ?_
            refine ATodo.cut (fun σ' => ∃ (c46 : Bool), slices_symMergeCmpFunc_Fix_j5 self p0x0 p1x0 p2x0 p3x0 fne n39 c46 = some r ∧ σ' = ⟨220, [(0, .sl 5 b_0 0 p0x0.length), (1, I p1x0), (2, I p2x0), (3, I p3x0), (4, .func (.func fne_F) fne_C), (18, I (w64 (shrI .u64 (IntKind.u64.wrap (w64 (p1x0 + p3x0))) (1 : Int)))), (20, I n39), (24, I (w64 ((w64 ((w64 (shrI .u64 (IntKind.u64.wrap (w64 (p1x0 + p3x0))) (1 : Int))) + p2x0)) - n39))), (185, .bool c46)], [(b_0, .arr 5 (p0x0.map Fix.av))]⟩) ?_ ?_
            · refine ATodo.region ?_
              refine ARun.qv (q_move rfl) rfl ?_
              refine ARun.qv (q_move rfl) rfl ?_
              refine ARun.qv (q_lss rfl rfl) rfl ?_
              refine ARun.qv (q_move rfl) rfl ?_
              refine ARun.guard_dt rfl rfl rfl (fun hc => ?_) (fun hc => ?_)
              · rw [andTd hc] at h
                refine ARun.qv (q_move rfl) rfl ?_
                refine ARun.guard_yes rfl rfl rfl ?_
                refine ARun.qv (q_move rfl) rfl ?_
                refine ARun.guard_yes rfl rfl rfl ?_
                refine ARun.qv (q_lss rfl rfl) rfl ?_
                refine ARun.qv (q_pick_t rfl rfl) rfl ?_
                refine ARun.nil ?_
                refine ATodo.stop ?_
                exact ImpX.lessP (by exact ⟨rfl, rfl, rfl, rfl, rfl, rfl, rfl, rfl, rfl, True.intro⟩) (.cons .here .nil) (ImpX.here ⟨decide (p2x0 < (w64 ((w64 ((w64 (shrI .u64 (IntKind.u64.wrap (w64 (p1x0 + p3x0))) (1 : Int))) + p2x0)) - n39))), h, rfl⟩)
              · rw [andFd hc] at h
                refine ARun.guard_no rfl rfl rfl rfl ?_
                refine ARun.guard_no rfl rfl rfl rfl ?_
                refine ARun.qv (q_pick_f rfl rfl) rfl ?_
                refine ARun.nil ?_
                refine ATodo.stop ?_
                exact ImpX.lessP (by exact ⟨rfl, rfl, rfl, rfl, rfl, rfl, rfl, rfl, rfl, True.intro⟩) (.cons .here .nil) (ImpX.here ⟨false, h, rfl⟩)
            · rintro σ' ⟨c46, h, rfl⟩
              unfold slices_symMergeCmpFunc_Fix_j5 at h
              refine ATodo.cut (fun σ' => ∃ (l47 : List Fix), slices_symMergeCmpFunc_Fix_j6 self p1x0 p2x0 p3x0 fne n39 l47 = some r ∧ σ' = ⟨220, [(0, .sl 5 b_0 0 l47.length), (1, I p1x0), (3, I p3x0), (4, .func (.func fne_F) fne_C), (18, I (w64 (shrI .u64 (IntKind.u64.wrap (w64 (p1x0 + p3x0))) (1 : Int)))), (20, I n39), (24, I (w64 ((w64 ((w64 (shrI .u64 (IntKind.u64.wrap (w64 (p1x0 + p3x0))) (1 : Int))) + p2x0)) - n39)))], [(b_0, .arr 5 (l47.map Fix.av))]⟩) ?_ ?_
              · refine ATodo.cond rfl (fun hc => ?_) (fun hc => ?_)
                · replace h := iteT hc h
                  refine ATodo.region ?_
                  refine ARun.qv (q_move rfl) rfl ?_
                  refine ARun.qv (q_move rfl) rfl ?_
                  refine ARun.qv (q_move rfl) rfl ?_
                  refine ARun.qv (q_move rfl) rfl ?_
                  refine ARun.qv (q_move rfl) rfl ?_
                  obtain ⟨v48, e18, h⟩ := bnd h
                  refine t_call0 rfl (slices_rotateCmpFunc_Fix_c fne_h (lenOk_f e18)) (CoL.refl _) (.cons .here .nil) rfl rfl ?_
                  refine ARun.ghost (ImpX.eqs (s := 0) (av' := .sl 5 b_0 0 v48.length) rfl (congrArg (AV.sl 5 b_0 0) (lenOk_l e18)) (ImpX.here ?_))
                  refine ARun.ghost (ImpX.eqs (s := 186) (av' := .sl 5 b_0 0 v48.length) rfl (congrArg (AV.sl 5 b_0 0) (lenOk_l e18)) (ImpX.here ?_))
                  refine ARun.nil ?_
                  refine ATodo.stop ?_
                  exact ImpX.lessP (by exact ⟨rfl, rfl, rfl, rfl, rfl, rfl, rfl, True.intro⟩) (.cons .here .nil) (ImpX.here ⟨v48, h, rfl⟩)
                · replace h := iteFb hc h
                  refine ATodo.skip ?_
                  refine ATodo.stop ?_
                  exact ImpX.lessP (by exact ⟨rfl, rfl, rfl, rfl, rfl, rfl, rfl, True.intro⟩) (.cons .here .nil) (ImpX.here ⟨p0x0, h, rfl⟩)
              · rintro σ' ⟨l47, h, rfl⟩
                unfold slices_symMergeCmpFunc_Fix_j6 at h
                refine ATodo.seq ?_
                refine ATodo.seq ?_
                refine ATodo.cut (fun σ' => ∃ (c49 : Bool), slices_symMergeCmpFunc_Fix_j7 self p1x0 p2x0 p3x0 fne n39 l47 c49 = some r ∧ σ' = ⟨220, [(0, .sl 5 b_0 0 l47.length), (1, I p1x0), (3, I p3x0), (4, .func (.func fne_F) fne_C), (18, I (w64 (shrI .u64 (IntKind.u64.wrap (w64 (p1x0 + p3x0))) (1 : Int)))), (20, I n39), (24, I (w64 ((w64 ((w64 (shrI .u64 (IntKind.u64.wrap (w64 (p1x0 + p3x0))) (1 : Int))) + p2x0)) - n39))), (199, .bool c49)], [(b_0, .arr 5 (l47.map Fix.av))]⟩) ?_ ?_
                · refine ATodo.region ?_
                  refine ARun.qv (q_move rfl) rfl ?_
                  refine ARun.qv (q_move rfl) rfl ?_
                  refine ARun.qv (q_lss rfl rfl) rfl ?_
                  refine ARun.qv (q_move rfl) rfl ?_
                  refine ARun.guard_dt rfl rfl rfl (fun hc => ?_) (fun hc => ?_)
                  · rw [andTd hc] at h
                    refine ARun.qv (q_move rfl) rfl ?_
                    refine ARun.guard_yes rfl rfl rfl ?_
                    refine ARun.qv (q_move rfl) rfl ?_
                    refine ARun.guard_yes rfl rfl rfl ?_
                    refine ARun.qv (q_lss rfl rfl) rfl ?_
                    refine ARun.qv (q_pick_t rfl rfl) rfl ?_
                    refine ARun.nil ?_
                    refine ATodo.stop ?_
                    exact ImpX.lessP (by exact ⟨rfl, rfl, rfl, rfl, rfl, rfl, rfl, rfl, True.intro⟩) (.cons .here .nil) (ImpX.here ⟨decide (n39 < (w64 (shrI .u64 (IntKind.u64.wrap (w64 (p1x0 + p3x0))) (1 : Int)))), h, rfl⟩)
                  · rw [andFd hc] at h
                    refine ARun.guard_no rfl rfl rfl rfl ?_
                    refine ARun.guard_no rfl rfl rfl rfl ?_
                    refine ARun.qv (q_pick_f rfl rfl) rfl ?_
                    refine ARun.nil ?_
                    refine ATodo.stop ?_
                    exact ImpX.lessP (by exact ⟨rfl, rfl, rfl, rfl, rfl, rfl, rfl, rfl, True.intro⟩) (.cons .here .nil) (ImpX.here ⟨false, h, rfl⟩)
                · rintro σ' ⟨c49, h, rfl⟩
                  unfold slices_symMergeCmpFunc_Fix_j7 at h
                  refine ATodo.cut (fun σ' => ∃ (l50 : List Fix), slices_symMergeCmpFunc_Fix_j8 self p1x0 p2x0 p3x0 fne n39 l50 = some r ∧ σ' = ⟨220, [(0, .sl 5 b_0 0 l50.length), (3, I p3x0), (4, .func (.func fne_F) fne_C), (18, I (w64 (shrI .u64 (IntKind.u64.wrap (w64 (p1x0 + p3x0))) (1 : Int)))), (24, I (w64 ((w64 ((w64 (shrI .u64 (IntKind.u64.wrap (w64 (p1x0 + p3x0))) (1 : Int))) + p2x0)) - n39)))], [(b_0, .arr 5 (l50.map Fix.av))]⟩) ?_ ?_
                  · refine ATodo.cond rfl (fun hc => ?_) (fun hc => ?_)
                    · replace h := iteT hc h
                      refine ATodo.region ?_
                      refine ARun.qv (q_move rfl) rfl ?_
                      refine ARun.qv (q_move rfl) rfl ?_
                      refine ARun.qv (q_move rfl) rfl ?_
                      refine ARun.qv (q_move rfl) rfl ?_
                      refine ARun.qv (q_move rfl) rfl ?_
                      obtain ⟨v51, e19, h⟩ := bnd h
                      refine t_call0 rfl (self_h fne_h (lenOk_f e19)) (CoL.refl _) (.cons .here .nil) rfl rfl ?_
                      refine ARun.ghost (ImpX.eqs (s := 0) (av' := .sl 5 b_0 0 v51.length) rfl (congrArg (AV.sl 5 b_0 0) (lenOk_l e19)) (ImpX.here ?_))
                      refine ARun.ghost (ImpX.eqs (s := 200) (av' := .sl 5 b_0 0 v51.length) rfl (congrArg (AV.sl 5 b_0 0) (lenOk_l e19)) (ImpX.here ?_))
                      refine ARun.nil ?_
                      refine ATodo.stop ?_
                      exact ImpX.lessP (by exact ⟨rfl, rfl, rfl, rfl, rfl, True.intro⟩) (.cons .here .nil) (ImpX.here ⟨v51, h, rfl⟩)
                    · replace h := iteFb hc h
                      refine ATodo.skip ?_
                      refine ATodo.stop ?_
                      exact ImpX.lessP (by exact ⟨rfl, rfl, rfl, rfl, rfl, True.intro⟩) (.cons .here .nil) (ImpX.here ⟨l47, h, rfl⟩)
                  · rintro σ' ⟨l50, h, rfl⟩
                    unfold slices_symMergeCmpFunc_Fix_j8 at h
                    refine ATodo.seq ?_
                    refine ATodo.cut (fun σ' => ∃ (c52 : Bool), slices_symMergeCmpFunc_Fix_j9 self p1x0 p2x0 p3x0 fne n39 l50 c52 = some r ∧ σ' = ⟨220, [(0, .sl 5 b_0 0 l50.length), (3, I p3x0), (4, .func (.func fne_F) fne_C), (18, I (w64 (shrI .u64 (IntKind.u64.wrap (w64 (p1x0 + p3x0))) (1 : Int)))), (24, I (w64 ((w64 ((w64 (shrI .u64 (IntKind.u64.wrap (w64 (p1x0 + p3x0))) (1 : Int))) + p2x0)) - n39))), (213, .bool c52)], [(b_0, .arr 5 (l50.map Fix.av))]⟩) ?_ ?_
                    · refine ATodo.region ?_
                      refine ARun.qv (q_move rfl) rfl ?_
                      refine ARun.qv (q_move rfl) rfl ?_
                      refine ARun.qv (q_lss rfl rfl) rfl ?_
                      refine ARun.qv (q_move rfl) rfl ?_
                      refine ARun.guard_dt rfl rfl rfl (fun hc => ?_) (fun hc => ?_)
                      · rw [andTd hc] at h
                        refine ARun.qv (q_move rfl) rfl ?_
                        refine ARun.guard_yes rfl rfl rfl ?_
                        refine ARun.qv (q_move rfl) rfl ?_
                        refine ARun.guard_yes rfl rfl rfl ?_
                        refine ARun.qv (q_lss rfl rfl) rfl ?_
                        refine ARun.qv (q_pick_t rfl rfl) rfl ?_
                        refine ARun.nil ?_
                        refine ATodo.stop ?_
                        exact ImpX.lessP (by exact ⟨rfl, rfl, rfl, rfl, rfl, rfl, True.intro⟩) (.cons .here .nil) (ImpX.here ⟨decide ((w64 ((w64 ((w64 (shrI .u64 (IntKind.u64.wrap (w64 (p1x0 + p3x0))) (1 : Int))) + p2x0)) - n39)) < p3x0), h, rfl⟩)
                      · rw [andFd hc] at h
                        refine ARun.guard_no rfl rfl rfl rfl ?_
                        refine ARun.guard_no rfl rfl rfl rfl ?_
                        refine ARun.qv (q_pick_f rfl rfl) rfl ?_
                        refine ARun.nil ?_
                        refine ATodo.stop ?_
                        exact ImpX.lessP (by exact ⟨rfl, rfl, rfl, rfl, rfl, rfl, True.intro⟩) (.cons .here .nil) (ImpX.here ⟨false, h, rfl⟩)
                    · rintro σ' ⟨c52, h, rfl⟩
                      unfold slices_symMergeCmpFunc_Fix_j9 at h
                      refine ATodo.cut (fun σ' => ∃ (l53 : List Fix), slices_symMergeCmpFunc_Fix_j10 l53 = some r ∧ σ' = ⟨220, [], [(b_0, .arr 5 (l53.map Fix.av))]⟩) ?_ ?_
                      · refine ATodo.cond rfl (fun hc => ?_) (fun hc => ?_)
                        · replace h := iteT hc h
                          refine ATodo.region ?_
                          refine ARun.qv (q_move rfl) rfl ?_
                          refine ARun.qv (q_move rfl) rfl ?_
                          refine ARun.qv (q_move rfl) rfl ?_
                          refine ARun.qv (q_move rfl) rfl ?_
                          refine ARun.qv (q_move rfl) rfl ?_
                          obtain ⟨v54, e20, h⟩ := bnd h
                          refine t_call0 rfl (self_h fne_h (lenOk_f e20)) (CoL.refl _) (.cons .here .nil) rfl rfl ?_
                          refine ARun.ghost (ImpX.eqs (s := 0) (av' := .sl 5 b_0 0 v54.length) rfl (congrArg (AV.sl 5 b_0 0) (lenOk_l e20)) (ImpX.here ?_))
                          refine ARun.ghost (ImpX.eqs (s := 214) (av' := .sl 5 b_0 0 v54.length) rfl (congrArg (AV.sl 5 b_0 0) (lenOk_l e20)) (ImpX.here ?_))
                          refine ARun.nil ?_
                          refine ATodo.stop ?_
                          exact ImpX.lessP (by exact True.intro) (.cons .here .nil) (ImpX.here ⟨v54, h, rfl⟩)
                        · replace h := iteFb hc h
                          refine ATodo.skip ?_
                          refine ATodo.stop ?_
                          exact ImpX.lessP (by exact True.intro) (.cons .here .nil) (ImpX.here ⟨l50, h, rfl⟩)
                      · rintro σ' ⟨l53, h, rfl⟩
                        unfold slices_symMergeCmpFunc_Fix_j10 at h
                        refine ATodo.nil ?_
                        obtain rfl := Option.some.inj h
                        exact ImpX.here ⟨_, .nil, _, .cons .here .nil, ⟨rfl, rfl⟩⟩
theorem slices_symMergeCmpFunc_Fix_r_c : ∀ (k : Nat) {b_0 : Bk} {p0x0 : List Fix} {p1x0 : Int} {p2x0 : Int} {p3x0 : Int} {fne : Fix → Fix → Option Int} {fne_F : FuncId} [IsFn Try.prog fne_F] {fne_C : List AV} (fne_h : ∀ {y0 y1 : _} {u : Int}, fne y0 y1 = some u → Pu Try.prog fne_F (.agg [.str y0.Device, I y0.At, I y0.X, I y0.Y, I y0.Error] :: .agg [.str y1.Device, I y1.At, I y1.X, I y1.Y, I y1.Error] ::  fne_C) (I u)) {r : (List Fix)}, slices_symMergeCmpFunc_Fix_r k p0x0 p1x0 p2x0 p3x0 fne = some r → ACall Try.prog 231 [.sl 5 b_0 0 p0x0.length, I p1x0, I p2x0, I p3x0, .func (.func fne_F) fne_C] [(b_0, .arr 5 (p0x0.map Fix.av))] (T0 ([(b_0, .arr 5 (r.map Fix.av))]) (.tup [])) := by
  intro k
  induction k with
  | zero => intro b_0 p0x0 p1x0 p2x0 p3x0 fne fne_F _ fne_C fne_h r h; cases h
  | succ k ih => intro b_0 p0x0 p1x0 p2x0 p3x0 fne fne_F _ fne_C fne_h r h; exact slices_symMergeCmpFunc_Fix_bd_c ih fne_h h
theorem slices_symMergeCmpFunc_Fix_c {b_0 : Bk} {p0x0 : List Fix} {p1x0 : Int} {p2x0 : Int} {p3x0 : Int} {fne : Fix → Fix → Option Int} {fne_F : FuncId} [IsFn Try.prog fne_F] {fne_C : List AV} (fne_h : ∀ {y0 y1 : _} {u : Int}, fne y0 y1 = some u → Pu Try.prog fne_F (.agg [.str y0.Device, I y0.At, I y0.X, I y0.Y, I y0.Error] :: .agg [.str y1.Device, I y1.At, I y1.X, I y1.Y, I y1.Error] ::  fne_C) (I u)) {r : (List Fix)} (h : slices_symMergeCmpFunc_Fix p0x0 p1x0 p2x0 p3x0 fne = some r) : ACall Try.prog 231 [.sl 5 b_0 0 p0x0.length, I p1x0, I p2x0, I p3x0, .func (.func fne_F) fne_C] [(b_0, .arr 5 (p0x0.map Fix.av))] (T0 ([(b_0, .arr 5 (r.map Fix.av))]) (.tup [])) := slices_symMergeCmpFunc_Fix_r_c depth fne_h h

set_option maxHeartbeats 4000000 in
theorem slices_stableCmpFunc_Fix_c {b_0 : Bk} {p0x0 : List Fix} {p1x0 : Int} {fnc : Fix → Fix → Option Int} {fnc_F : FuncId} [IsFn Try.prog fnc_F] {fnc_C : List AV} (fnc_h : ∀ {y0 y1 : _} {u : Int}, fnc y0 y1 = some u → Pu Try.prog fnc_F (.agg [.str y0.Device, I y0.At, I y0.X, I y0.Y, I y0.Error] :: .agg [.str y1.Device, I y1.At, I y1.X, I y1.Y, I y1.Error] ::  fnc_C) (I u)) {r : (List Fix)} (h : slices_stableCmpFunc_Fix p0x0 p1x0 fnc = some r) : ACall Try.prog 194 [.sl 5 b_0 0 p0x0.length, I p1x0, .func (.func fnc_F) fnc_C] [(b_0, .arr 5 (p0x0.map Fix.av))] (T0 ([(b_0, .arr 5 (r.map Fix.av))]) (.tup [])) := by
  unfold slices_stableCmpFunc_Fix at h
  refine ACall.lessH ?_
  refine ACall.bodyN Try.func194 rfl Try.ntmps194 Try.results194 rfl rfl ?_
  refine ATodo.seq ?_
  refine ATodo.region ?_
  refine ARun.qv (q_assign rfl) rfl ?_
  refine ARun.nil ?_
  refine ATodo.seq ?_
  refine ATodo.region ?_
  refine ARun.qv (q_move rfl) rfl ?_
  refine ARun.qv (q_assign rfl) rfl ?_
  refine ARun.qv (q_assign rfl) rfl ?_
  refine ARun.nil ?_
  refine ATodo.seq ?_
  refine ATodo.block ?_
  refine ATodo.loopI (fun x : (List Fix) × Int × Int => slices_stableCmpFunc_Fix_b1 p1x0 fnc x.1 x.2.1 x.2.2) (fun x σ' => σ' = ⟨63, [(0, .sl 5 b_0 0 x.1.length), (1, I p1x0), (2, .func (.func fnc_F) fnc_C), (6, I (20 : Int)), (7, I x.2.1), (8, I x.2.2)], [(b_0, .arr 5 (x.1.map Fix.av))]⟩) h ?_ ?_
  · exact ImpX.lessP (by exact ⟨rfl, rfl, rfl, rfl, rfl, rfl, True.intro⟩) (.cons .here .nil) (ImpX.here rfl)
  · intro x z1 σ' J1 hmk h hJ1 hA1
    obtain ⟨l4, n5, n6⟩ := x
    obtain rfl := hmk
    replace h : slices_stableCmpFunc_Fix_b1 p1x0 fnc l4 n5 n6 = some z1 := h
    unfold slices_stableCmpFunc_Fix_b1 at h
    refine ATodo.seq ?_
    refine ATodo.seq ?_
    refine ATodo.region ?_
    refine ARun.qv (q_move rfl) rfl ?_
    refine ARun.qv (q_move rfl) rfl ?_
    refine ARun.qv (q_leq rfl rfl) rfl ?_
    refine ARun.nil ?_
    refine ATodo.cond_d rfl (fun hc => ?_) (fun hc => ?_)
    · replace h := iteT hc h
      refine ATodo.skip ?_
      refine ATodo.block ?_
      refine ATodo.seq ?_
      refine ATodo.region ?_
      refine ARun.qv (q_move rfl) rfl ?_
      refine ARun.qv (q_move rfl) rfl ?_
      refine ARun.qv (q_move rfl) rfl ?_
      refine ARun.qv (q_move rfl) rfl ?_
      obtain ⟨v7, e1, h⟩ := bnd h
      refine t_call0 rfl (slices_insertionSortCmpFunc_Fix_c fnc_h (lenOk_f e1)) (CoL.refl _) (.cons .here .nil) rfl rfl ?_
      refine ARun.ghost (ImpX.eqs (s := 0) (av' := .sl 5 b_0 0 v7.length) rfl (congrArg (AV.sl 5 b_0 0) (lenOk_l e1)) (ImpX.here ?_))
      refine ARun.ghost (ImpX.eqs (s := 14) (av' := .sl 5 b_0 0 v7.length) rfl (congrArg (AV.sl 5 b_0 0) (lenOk_l e1)) (ImpX.here ?_))
      refine ARun.nil ?_
      refine ATodo.seq ?_
      refine ATodo.region ?_
      refine ARun.qv (q_move rfl) rfl ?_
      refine ARun.qv (q_assign rfl) rfl ?_
      refine ARun.nil ?_
      refine ATodo.region ?_
      refine ARun.qv (q_move rfl) rfl ?_
      refine ARun.qv (q_move rfl) rfl ?_
      refine ARun.qv (q_addw rfl rfl) rfl ?_
      refine ARun.qv (q_assign rfl) rfl ?_
      refine ARun.nil ?_
      refine ATodo.blk ?_
      refine ATodo.stop ?_
      obtain rfl := Option.some.inj h
      refine hJ1 _ _ rfl ?_
      exact ImpX.lessP (by exact ⟨rfl, rfl, rfl, rfl, rfl, rfl, True.intro⟩) (.cons .here .nil) (ImpX.here rfl)
    · replace h := iteF hc h
      refine ATodo.exit rfl ?_
      replace h := outL h hA1
      unfold slices_stableCmpFunc_Fix_k3 at h
      refine ATodo.seq ?_
      refine ATodo.region ?_
      refine ARun.qv (q_move rfl) rfl ?_
      refine ARun.qv (q_move rfl) rfl ?_
      refine ARun.qv (q_move rfl) rfl ?_
      refine ARun.qv (q_move rfl) rfl ?_
      obtain ⟨v8, e2, h⟩ := bnd h
      refine t_call0 rfl (slices_insertionSortCmpFunc_Fix_c fnc_h (lenOk_f e2)) (CoL.refl _) (.cons .here .nil) rfl rfl ?_
      refine ARun.ghost (ImpX.eqs (s := 0) (av' := .sl 5 b_0 0 v8.length) rfl (congrArg (AV.sl 5 b_0 0) (lenOk_l e2)) (ImpX.here ?_))
      refine ARun.ghost (ImpX.eqs (s := 23) (av' := .sl 5 b_0 0 v8.length) rfl (congrArg (AV.sl 5 b_0 0) (lenOk_l e2)) (ImpX.here ?_))
      refine ARun.nil ?_
      refine ATodo.block ?_
      refine ATodo.loopI (fun x : (List Fix) × Int => slices_stableCmpFunc_Fix_b2 p1x0 fnc x.1 x.2) (fun x σ' => σ' = ⟨63, [(0, .sl 5 b_0 0 x.1.length), (1, I p1x0), (2, .func (.func fnc_F) fnc_C), (6, I x.2)], [(b_0, .arr 5 (x.1.map Fix.av))]⟩) h ?_ ?_
      · exact ImpX.lessP (by exact ⟨rfl, rfl, rfl, rfl, True.intro⟩) (.cons .here .nil) (ImpX.here rfl)
      · intro x z2 σ' J2 hmk h hJ2 hA2
        obtain ⟨l11, n12⟩ := x
        obtain rfl := hmk
        replace h : slices_stableCmpFunc_Fix_b2 p1x0 fnc l11 n12 = some z2 := h
        unfold slices_stableCmpFunc_Fix_b2 at h
        refine ATodo.seq ?_
        refine ATodo.seq ?_
        refine ATodo.region ?_
        refine ARun.qv (q_move rfl) rfl ?_
        refine ARun.qv (q_move rfl) rfl ?_
        refine ARun.qv (q_lss rfl rfl) rfl ?_
        refine ARun.nil ?_
        refine ATodo.cond_d rfl (fun hc => ?_) (fun hc => ?_)
        · replace h := iteT hc h
          refine ATodo.skip ?_
          refine ATodo.block ?_
          refine ATodo.seq ?_
          refine ATodo.region ?_
          refine ARun.qv (q_move rfl) rfl ?_
          refine ARun.qv (q_mulw rfl rfl) rfl ?_
          refine ARun.qv (q_assign rfl) rfl ?_
          refine ARun.qv (q_assign rfl) rfl ?_
          refine ARun.nil ?_
          refine ATodo.seq ?_
          refine ATodo.block ?_
          refine ATodo.loopI (fun x : (List Fix) × Int × Int => slices_stableCmpFunc_Fix_b3 p1x0 fnc n12 x.1 x.2.1 x.2.2) (fun x σ' => σ' = ⟨63, [(0, .sl 5 b_0 0 x.1.length), (1, I p1x0), (2, .func (.func fnc_F) fnc_C), (6, I n12), (7, I x.2.1), (8, I x.2.2)], [(b_0, .arr 5 (x.1.map Fix.av))]⟩) h ?_ ?_
          · exact ImpX.lessP (by exact ⟨rfl, rfl, rfl, rfl, rfl, rfl, True.intro⟩) (.cons .here .nil) (ImpX.here rfl)
          · intro x z3 σ' J3 hmk h hJ3 hA3
            obtain ⟨l16, n17, n18⟩ := x
            obtain rfl := hmk
            replace h : slices_stableCmpFunc_Fix_b3 p1x0 fnc n12 l16 n17 n18 = some z3 := h
            unfold slices_stableCmpFunc_Fix_b3 at h
            refine ATodo.seq ?_
            refine ATodo.seq ?_
            refine ATodo.region ?_
            refine ARun.qv (q_move rfl) rfl ?_
            refine ARun.qv (q_move rfl) rfl ?_
            refine ARun.qv (q_leq rfl rfl) rfl ?_
            refine ARun.nil ?_
            refine ATodo.cond_d rfl (fun hc => ?_) (fun hc => ?_)
            · replace h := iteT hc h
              refine ATodo.skip ?_
              refine ATodo.block ?_
              refine ATodo.seq ?_
              refine ATodo.region ?_
              refine ARun.qv (q_move rfl) rfl ?_
              refine ARun.qv (q_move rfl) rfl ?_
              refine ARun.qv (q_move rfl) rfl ?_
              refine ARun.qv (q_move rfl) rfl ?_
              refine ARun.qv (q_addw rfl rfl) rfl ?_
              refine ARun.qv (q_move rfl) rfl ?_
              refine ARun.qv (q_move rfl) rfl ?_
              obtain ⟨v19, e3, h⟩ := bnd h
              refine t_call0 rfl (slices_symMergeCmpFunc_Fix_c fnc_h (lenOk_f e3)) (CoL.refl _) (.cons .here .nil) rfl rfl ?_
              refine ARun.ghost (ImpX.eqs (s := 0) (av' := .sl 5 b_0 0 v19.length) rfl (congrArg (AV.sl 5 b_0 0) (lenOk_l e3)) (ImpX.here ?_))
              refine ARun.ghost (ImpX.eqs (s := 36) (av' := .sl 5 b_0 0 v19.length) rfl (congrArg (AV.sl 5 b_0 0) (lenOk_l e3)) (ImpX.here ?_))
              refine ARun.nil ?_
              refine ATodo.seq ?_
              refine ATodo.region ?_
              refine ARun.qv (q_move rfl) rfl ?_
              refine ARun.qv (q_assign rfl) rfl ?_
              refine ARun.nil ?_
              refine ATodo.region ?_
              refine ARun.qv (q_move rfl) rfl ?_
              refine ARun.qv (q_move rfl) rfl ?_
              refine ARun.qv (q_mulw rfl rfl) rfl ?_
              refine ARun.qv (q_addw rfl rfl) rfl ?_
              refine ARun.qv (q_assign rfl) rfl ?_
              refine ARun.nil ?_
              refine ATodo.blk ?_
              refine ATodo.stop ?_
              obtain rfl := Option.some.inj h
              refine hJ3 _ _ rfl ?_
              exact ImpX.lessP (by exact ⟨rfl, rfl, rfl, rfl, rfl, rfl, True.intro⟩) (.cons .here .nil) (ImpX.here rfl)
            · replace h := iteF hc h
              refine ATodo.exit rfl ?_
              replace h := outL h hA3
              unfold slices_stableCmpFunc_Fix_k2 at h
              refine ATodo.seq ?_
              refine ATodo.seq ?_
              refine ATodo.region ?_
              refine ARun.qv (q_move rfl) rfl ?_
              refine ARun.qv (q_move rfl) rfl ?_
              refine ARun.qv (q_addw rfl rfl) rfl ?_
              refine ARun.qv (q_assign rfl) rfl ?_
              refine ARun.nil ?_
              refine ATodo.seq ?_
              refine ATodo.region ?_
              refine ARun.qv (q_move rfl) rfl ?_
              refine ARun.qv (q_move rfl) rfl ?_
              refine ARun.qv (q_lss rfl rfl) rfl ?_
              refine ARun.nil ?_
              refine ATodo.cut (fun σ' => ∃ (l20 : List Fix), slices_stableCmpFunc_Fix_j1 n12 l20 = some z2 ∧ σ' = ⟨63, [(0, .sl 5 b_0 0 l20.length), (1, I p1x0), (2, .func (.func fnc_F) fnc_C), (6, I n12)], [(b_0, .arr 5 (l20.map Fix.av))]⟩) ?_ ?_
              · refine ATodo.cond_d rfl (fun hc => ?_) (fun hc => ?_)
                · replace h := iteT hc h
                  refine ATodo.region ?_
                  refine ARun.qv (q_move rfl) rfl ?_
                  refine ARun.qv (q_move rfl) rfl ?_
                  refine ARun.qv (q_move rfl) rfl ?_
                  refine ARun.qv (q_move rfl) rfl ?_
                  refine ARun.qv (q_move rfl) rfl ?_
                  obtain ⟨v21, e4, h⟩ := bnd h
                  refine t_call0 rfl (slices_symMergeCmpFunc_Fix_c fnc_h (lenOk_f e4)) (CoL.refl _) (.cons .here .nil) rfl rfl ?_
                  refine ARun.ghost (ImpX.eqs (s := 0) (av' := .sl 5 b_0 0 v21.length) rfl (congrArg (AV.sl 5 b_0 0) (lenOk_l e4)) (ImpX.here ?_))
                  refine ARun.ghost (ImpX.eqs (s := 55) (av' := .sl 5 b_0 0 v21.length) rfl (congrArg (AV.sl 5 b_0 0) (lenOk_l e4)) (ImpX.here ?_))
                  refine ARun.nil ?_
                  refine ATodo.stop ?_
                  exact ImpX.lessP (by exact ⟨rfl, rfl, rfl, rfl, True.intro⟩) (.cons .here .nil) (ImpX.here ⟨v21, h, rfl⟩)
                · replace h := iteF hc h
                  refine ATodo.skip ?_
                  refine ATodo.stop ?_
                  exact ImpX.lessP (by exact ⟨rfl, rfl, rfl, rfl, True.intro⟩) (.cons .here .nil) (ImpX.here ⟨l16, h, rfl⟩)
              · rintro σ' ⟨l20, h, rfl⟩
                unfold slices_stableCmpFunc_Fix_j1 at h
                refine ATodo.region ?_
                refine ARun.qv (q_move rfl) rfl ?_
                refine ARun.qv (q_mulw rfl rfl) rfl ?_
                refine ARun.qv (q_assign rfl) rfl ?_
                refine ARun.nil ?_
                refine ATodo.blk ?_
                refine ATodo.stop ?_
                obtain rfl := Option.some.inj h
                refine hJ2 _ _ rfl ?_
                exact ImpX.lessP (by exact ⟨rfl, rfl, rfl, rfl, True.intro⟩) (.cons .here .nil) (ImpX.here rfl)
        · replace h := iteF hc h
          refine ATodo.exit rfl ?_
          replace h := outL h hA2
          refine ATodo.nil ?_
          obtain rfl := Option.some.inj h
          exact ImpX.here ⟨_, .nil, _, .cons .here .nil, ⟨rfl, rfl⟩⟩

set_option maxHeartbeats 4000000 in
theorem slices_SortStableFunc_Fix_Fix_c {b_0 : Bk} {p0x0 : List Fix} {fnb : Fix → Fix → Option Int} {fnb_F : FuncId} [IsFn Try.prog fnb_F] {fnb_C : List AV} (fnb_h : ∀ {y0 y1 : _} {u : Int}, fnb y0 y1 = some u → Pu Try.prog fnb_F (.agg [.str y0.Device, I y0.At, I y0.X, I y0.Y, I y0.Error] :: .agg [.str y1.Device, I y1.At, I y1.X, I y1.Y, I y1.Error] ::  fnb_C) (I u)) {r : (List Fix)} (h : slices_SortStableFunc_Fix_Fix p0x0 fnb = some r) : ACall Try.prog 119 [.sl 5 b_0 0 p0x0.length, .func (.func fnb_F) fnb_C] [(b_0, .arr 5 (p0x0.map Fix.av))] (T0 ([(b_0, .arr 5 (r.map Fix.av))]) (.tup [])) := by
  unfold slices_SortStableFunc_Fix_Fix at h
  refine ACall.lessH ?_
  refine ACall.bodyN Try.func119 rfl Try.ntmps119 Try.results119 rfl rfl ?_
  refine ATodo.region ?_
  refine ARun.qv (q_move rfl) rfl ?_
  refine ARun.qv (q_move rfl) rfl ?_
  refine ARun.qv (t_len_sl rfl) rfl ?_
  refine ARun.qv (q_move rfl) rfl ?_
  obtain ⟨v1, e1, h⟩ := bnd h
  refine t_call0 rfl (slices_stableCmpFunc_Fix_c fnb_h (lenOk_f e1)) (CoL.refl _) (.cons .here .nil) rfl rfl ?_
  refine ARun.ghost (ImpX.eqs (s := 0) (av' := .sl 5 b_0 0 v1.length) rfl (congrArg (AV.sl 5 b_0 0) (lenOk_l e1)) (ImpX.here ?_))
  refine ARun.ghost (ImpX.eqs (s := 4) (av' := .sl 5 b_0 0 v1.length) rfl (congrArg (AV.sl 5 b_0 0) (lenOk_l e1)) (ImpX.here ?_))
  refine ARun.ghost (ImpX.eqs (s := 5) (av' := .sl 5 b_0 0 v1.length) rfl (congrArg (AV.sl 5 b_0 0) (lenOk_l e1)) (ImpX.here ?_))
  refine ARun.nil ?_
  refine ATodo.nil ?_
  obtain rfl := Option.some.inj h
  exact ImpX.here ⟨_, .nil, _, .cons .here .nil, ⟨rfl, rfl⟩⟩

set_option maxHeartbeats 4000000 in
theorem Stream_Flip_c {b_0 : Bk} {p0x0 : Fleetmake_Stream} {p1x0 : Int} {r : Bool × Fleetmake_Stream} (h : Stream_Flip p0x0 p1x0 = some r) : ACall Try.prog 38 [.ptr b_0 0, I p1x0] [(b_0, .cells [.list 1 (p0x0.L.map I), I p0x0.at_])] (T0 ([(b_0, .cells [.list 1 (r.2.L.map I), I r.2.at_])]) (.bool r.1)) := by
  unfold Stream_Flip at h
  refine ACall.lessH ?_
  refine ACall.bodyN Try.func38 rfl Try.ntmps38 Try.results38 rfl rfl ?_
  refine ATodo.seq ?_
  refine ATodo.region ?_
  refine ARun.qv (q_assign rfl) rfl ?_
  refine ARun.nil ?_
  refine ATodo.seq ?_
  refine ATodo.region ?_
  refine ARun.qv (q_move rfl) rfl ?_
  refine ARun.qv (q_move rfl) rfl ?_
  obtain ⟨v1, e1, h⟩ := bnd h
  refine t_call0 rfl (Stream_Next_c e1) (CoL.refl _) (.cons .here .nil) rfl rfl ?_
  refine ARun.qv (q_eql rfl rfl) rfl ?_
  refine ARun.qv (q_assign rfl) rfl ?_
  refine ARun.nil ?_
  refine ATodo.ret ?_
  obtain rfl := Option.some.inj h
  exact ImpX.here ⟨_, .cons (.tmp _ _ rfl) .nil, _, .cons .here .nil, ⟨rfl, rfl⟩⟩

set_option maxHeartbeats 4000000 in
theorem Stream_Fixes_1x_c {p0x0 : Fix} {p1x0 : Fix} {r : Bool} (h : Stream_Fixes_1x p0x0 p1x0 = r) : Pu Try.prog 121 [.agg [.str p0x0.Device, I p0x0.At, I p0x0.X, I p0x0.Y, I p0x0.Error], .agg [.str p1x0.Device, I p1x0.At, I p1x0.X, I p1x0.Y, I p1x0.Error]] (.bool r) := by
  unfold Stream_Fixes_1x at h
  refine ACall.bodyN Try.func121 rfl Try.ntmps121 Try.results121 rfl rfl ?_
  refine ATodo.seq ?_
  refine ATodo.region ?_
  refine n_box rfl rfl rfl rfl (fun b1 => ?_)
  refine n_box rfl rfl rfl rfl (fun b2 => ?_)
  refine ARun.qv (q_assign rfl) rfl ?_
  refine ARun.nil ?_
  refine ATodo.seq ?_
  refine ATodo.region ?_
  refine ARun.qv (q_load_ptr_all rfl rfl (.next .here) rfl) rfl ?_
  refine ARun.qv (q_load_ptr_all rfl rfl .here rfl) rfl ?_
  refine r_callp rfl (Q_FixOrder_c rfl) (CoL.refl _) rfl ?_
  refine ARun.qv (q_eql rfl rfl) rfl ?_
  refine ARun.qv (q_assign rfl) rfl ?_
  refine ARun.nil ?_
  refine ATodo.ret ?_
  obtain rfl := h
  exact ImpX.here ⟨_, .cons (.tmp _ _ rfl) .nil, rfl⟩

set_option maxHeartbeats 4000000 in
theorem slices_CompactFunc_Fix_Fix_c {b_0 : Bk} {p0x0 : List Fix} {fnb : Fix → Fix → Option Bool} {fnb_F : FuncId} [IsFn Try.prog fnb_F] {fnb_C : List AV} (fnb_h : ∀ {y0 y1 : _} {u : Bool}, fnb y0 y1 = some u → Pu Try.prog fnb_F (.agg [.str y0.Device, I y0.At, I y0.X, I y0.Y, I y0.Error] :: .agg [.str y1.Device, I y1.At, I y1.X, I y1.Y, I y1.Error] ::  fnb_C) (.bool u)) {r : (List Fix)} (h : slices_CompactFunc_Fix_Fix p0x0 fnb = some r) : ACall Try.prog 120 [.sl 5 b_0 0 p0x0.length, .func (.func fnb_F) fnb_C] [(b_0, .arr 5 (p0x0.map Fix.av))] (T1 (fun d_0 => [(d_0, .arr 5 (r.map Fix.av))]) (fun d_0 => .sl 5 d_0 0 r.length)) := by
  unfold slices_CompactFunc_Fix_Fix at h
  refine ACall.lessH ?_
  refine ACall.bodyN Try.func120 rfl Try.ntmps120 Try.results120 rfl rfl ?_
  refine ATodo.seq ?_
  refine ATodo.region ?_
  refine ARun.qv (q_assign rfl) rfl ?_
  refine ARun.nil ?_
  refine ATodo.seq ?_
  refine ATodo.seq ?_
  refine ATodo.region ?_
  refine ARun.qv (q_move rfl) rfl ?_
  refine ARun.qv (t_len_sl rfl) rfl ?_
  refine ARun.qv (q_lss rfl rfl) rfl ?_
  refine ARun.nil ?_
  refine ATodo.cond_d rfl (fun hc => ?_) (fun hc => ?_)
  · replace h := iteT hc h
    refine ATodo.seq ?_
    refine ATodo.region ?_
    refine ARun.qv (q_move rfl) rfl ?_
    refine ARun.qv (q_assign rfl) rfl ?_
    refine ARun.nil ?_
    refine ATodo.ret ?_
    obtain rfl := Option.some.inj h
    exact ImpX.here ⟨_, .cons (.tmp _ _ rfl) .nil, _, .cons .here .nil, ⟨b_0, rfl, rfl⟩⟩
  · replace h := iteF hc h
    refine ATodo.skip ?_
    refine ATodo.seq ?_
    refine ATodo.seq ?_
    refine ATodo.region ?_
    refine ARun.qv (q_assign rfl) rfl ?_
    refine ARun.nil ?_
    refine ATodo.block ?_
    refine ATodo.loopI (fun x : Int => slices_CompactFunc_Fix_Fix_b1 p0x0 fnb x) (fun x σ' => σ' = ⟨66, [(0, .sl 5 b_0 0 p0x0.length), (1, .func (.func fnb_F) fnb_C), (5, I x)], [(b_0, .arr 5 (p0x0.map Fix.av))]⟩) h ?_ ?_
    · exact ImpX.lessP (by exact ⟨rfl, rfl, rfl, True.intro⟩) (.cons .here .nil) (ImpX.here rfl)
    · intro n2 z1 σ' J1 hmk h hJ1 hA1
      obtain rfl := hmk
      replace h : slices_CompactFunc_Fix_Fix_b1 p0x0 fnb n2 = some z1 := h
      unfold slices_CompactFunc_Fix_Fix_b1 at h
      refine ATodo.seq ?_
      refine ATodo.seq ?_
      refine ATodo.region ?_
      refine ARun.qv (q_move rfl) rfl ?_
      refine ARun.qv (q_move rfl) rfl ?_
      refine ARun.qv (t_len_sl rfl) rfl ?_
      refine ARun.qv (q_lss rfl rfl) rfl ?_
      refine ARun.nil ?_
      refine ATodo.cond_d rfl (fun hc => ?_) (fun hc => ?_)
      · replace h := iteT hc h
        refine ATodo.skip ?_
        refine ATodo.seq ?_
        refine ATodo.block ?_
        refine ATodo.seq ?_
        refine ATodo.regionM (id := 6) (A := [0, 0, 0, 6, 14, 0, 0, 64, 224, 480, 1023]) 10 mixed rfl (by kernel_rfl) (by kernel_rfl) ?_
        refine AM.qv (q_move rfl) rfl ?_
        refine AM.qv (q_move rfl) rfl ?_
        refine AM.qv (q_move rfl) rfl ?_
        obtain ⟨v3, e1, h⟩ := bnd h
        refine AM.qv (t_index_sl rfl rfl rfl e1) rfl ?_
        refine AM.qv (t_load_aptr_agg (g := Fix.av) rfl rfl (.inl .here) rfl e1 rfl) rfl ?_
        refine AM.qv (q_move rfl) rfl ?_
        refine AM.qv (q_move rfl) rfl ?_
        refine AM.qv (q_subw rfl rfl) rfl ?_
        obtain ⟨v4, e2, h⟩ := bnd h
        refine AM.qv (t_index_sl rfl rfl rfl e2) rfl ?_
        refine AM.qv (t_load_aptr_agg (g := Fix.av) rfl rfl (.inl .here) rfl e2 rfl) rfl ?_
        refine AM.nil ?_
        obtain ⟨v5, e3, h⟩ := bnd h
        refine r_callvp rfl rfl (fnb_h e3) (CoL.refl _) rfl ?_
        refine ARun.nil ?_
        refine ATodo.cond rfl (fun hc => ?_) (fun hc => ?_)
        · replace h := iteT hc h
          refine ATodo.seq ?_
          refine ATodo.region ?_
          refine ARun.qv (q_move rfl) rfl ?_
          refine ARun.qv (q_move rfl) rfl ?_
          obtain ⟨l6, e4, h⟩ := bnd h
          refine ARun.qv (t_slice_sl rfl rfl (.some _ _ _ rfl) .none rfl rfl e4) rfl ?_
          refine ARun.qv (q_assign rfl) rfl ?_
          refine ARun.nil ?_
          refine ATodo.seq ?_
          refine ATodo.seq ?_
          refine ATodo.region ?_
          refine ARun.qv (q_assign rfl) rfl ?_
          refine ARun.nil ?_
          refine ATodo.block ?_
          refine ATodo.loopI (fun x : (List Fix) × Int × Int => slices_CompactFunc_Fix_Fix_b2 fnb n2 l6 x.1 x.2.1 x.2.2) (fun x σ' => σ' = ⟨66, [(0, .sl 5 b_0 0 x.1.length), (1, .func (.func fnb_F) fnb_C), (5, I x.2.1), (6, .sl 5 b_0 n2.toNat l6.length), (7, I x.2.2)], [(b_0, .arr 5 (x.1.map Fix.av))]⟩) h ?_ ?_
          · exact ImpX.lessP (by exact ⟨rfl, rfl, rfl, rfl, rfl, True.intro⟩) (.cons .here .nil) (ImpX.here rfl)
          · intro x z2 σ' J2 hmk h hJ2 hA2
            obtain ⟨l10, n11, n12⟩ := x
            obtain rfl := hmk
            replace h : slices_CompactFunc_Fix_Fix_b2 fnb n2 l6 l10 n11 n12 = some z2 := h
            unfold slices_CompactFunc_Fix_Fix_b2 at h
            refine ATodo.seq ?_
            refine ATodo.seq ?_
            refine ATodo.region ?_
            refine ARun.qv (q_move rfl) rfl ?_
            refine ARun.qv (q_move rfl) rfl ?_
            refine ARun.qv (t_len_sub rfl) rfl ?_
            refine ARun.qv (q_lss rfl rfl) rfl ?_
            refine ARun.nil ?_
            refine ATodo.cond_d rfl (fun hc => ?_) (fun hc => ?_)
            · replace h := iteT hc h
              refine ATodo.skip ?_
              refine ATodo.seq ?_
              refine ATodo.block ?_
              refine ATodo.seq ?_
              refine ATodo.regionM (id := 11) (A := [0, 0, 0, 6, 14, 0, 0, 64, 224, 480, 1023, 2047]) 10 mixed rfl (by kernel_rfl) (by kernel_rfl) ?_
              refine AM.qv (q_move rfl) rfl ?_
              refine AM.qv (q_move rfl) rfl ?_
              refine AM.qv (q_move rfl) rfl ?_
              obtain ⟨v13, e5, h⟩ := bnd h
              refine AM.qv (t_index_sub (L := n2) rfl rfl rfl e5) rfl ?_
              refine AM.qv (t_load_aptr_agg (g := Fix.av) rfl rfl (.inl .here) rfl (idxS_some e5).2 rfl) rfl ?_
              refine AM.qv (q_move rfl) rfl ?_
              refine AM.qv (q_move rfl) rfl ?_
              refine AM.qv (q_subw rfl rfl) rfl ?_
              obtain ⟨v14, e6, h⟩ := bnd h
              refine AM.qv (t_index_sub (L := n2) rfl rfl rfl e6) rfl ?_
              refine AM.qv (t_load_aptr_agg (g := Fix.av) rfl rfl (.inl .here) rfl (idxS_some e6).2 rfl) rfl ?_
              refine AM.nil ?_
              obtain ⟨v15, e7, h⟩ := bnd h
              refine r_callvp rfl rfl (fnb_h e7) (CoL.refl _) rfl ?_
              refine ARun.qv (q_not rfl) rfl ?_
              refine ARun.nil ?_
              refine ATodo.cut (fun σ' => ∃ (l16 : List Fix) (n17 : Int), slices_CompactFunc_Fix_Fix_j1 n12 l16 n17 = some z2 ∧ σ' = ⟨66, [(0, .sl 5 b_0 0 l16.length), (1, .func (.func fnb_F) fnb_C), (5, I n17), (6, .sl 5 b_0 n2.toNat l6.length), (7, I n12)], [(b_0, .arr 5 (l16.map Fix.av))]⟩) ?_ ?_
              · refine ATodo.cond rfl (fun hc => ?_) (fun hc => ?_)
                · replace h := iteT hc h
                  refine ATodo.seq ?_
                  refine ATodo.region ?_
                  refine ARun.qv (q_move rfl) rfl ?_
                  refine ARun.qv (q_move rfl) rfl ?_
                  refine ARun.qv (q_move rfl) rfl ?_
                  refine ARun.qv (q_move rfl) rfl ?_
                  obtain ⟨v18, e8, h⟩ := bnd h
                  refine ARun.qv (t_index_sub (L := n2) rfl rfl rfl e8) rfl ?_
                  refine ARun.qv (t_load_aptr_agg (g := Fix.av) rfl rfl (.inl .here) rfl (idxS_some e8).2 rfl) rfl ?_
                  obtain ⟨v19, e9, h⟩ := bnd h
                  refine ARun.qv (t_index_sl rfl rfl rfl e9) rfl ?_
                  refine t_store_aptr1 (g := Fix.av) (el' := v18) rfl rfl rfl rfl e9 rfl .here rfl ?_
                  refine ARun.ghost (ImpX.eqs (s := 0) (av' := .sl 5 b_0 0 (l10.set n11.toNat v18).length) rfl (by rw [List.length_set]) (ImpX.here ?_))
                  refine ARun.ghost (ImpX.eqs (s := 50) (av' := .sl 5 b_0 0 (l10.set n11.toNat v18).length) rfl (by rw [List.length_set]) (ImpX.here ?_))
                  refine ARun.nil ?_
                  refine ATodo.region ?_
                  refine ARun.qv (q_move rfl) rfl ?_
                  refine ARun.qv (q_addw rfl rfl) rfl ?_
                  refine ARun.qv (q_assign rfl) rfl ?_
                  refine ARun.nil ?_
                  refine ATodo.stop ?_
                  exact ImpX.lessP (by exact ⟨rfl, rfl, rfl, rfl, rfl, True.intro⟩) (.cons .here .nil) (ImpX.here ⟨l10.set n11.toNat v18, w64 (n11 + (1 : Int)), h, rfl⟩)
                · replace h := iteFb hc h
                  refine ATodo.skip ?_
                  refine ATodo.stop ?_
                  exact ImpX.lessP (by exact ⟨rfl, rfl, rfl, rfl, rfl, True.intro⟩) (.cons .here .nil) (ImpX.here ⟨l10, n11, h, rfl⟩)
              · rintro σ' ⟨l16, n17, h, rfl⟩
                unfold slices_CompactFunc_Fix_Fix_j1 at h
                refine ATodo.blk ?_
                refine ATodo.region ?_
                refine ARun.qv (q_move rfl) rfl ?_
                refine ARun.qv (q_addw rfl rfl) rfl ?_
                refine ARun.qv (q_assign rfl) rfl ?_
                refine ARun.nil ?_
                refine ATodo.stop ?_
                obtain rfl := Option.some.inj h
                refine hJ2 _ _ rfl ?_
                exact ImpX.lessP (by exact ⟨rfl, rfl, rfl, rfl, rfl, True.intro⟩) (.cons .here .nil) (ImpX.here rfl)
            · replace h := iteF hc h
              refine ATodo.exit rfl ?_
              replace h := outL h hA2
              unfold slices_CompactFunc_Fix_Fix_k2 at h
              refine ATodo.seq ?_
              refine ATodo.region ?_
              refine ARun.qv (q_move rfl) rfl ?_
              refine ARun.qv (q_move rfl) rfl ?_
              obtain ⟨l20, e10, h⟩ := bnd h
              refine ARun.qv (t_slice_sl rfl rfl (.some _ _ _ rfl) .none rfl rfl e10) rfl ?_
              refine t_clear (g := Fix.av) (Z := (⟨[], (0 : Int), (0 : Int), (0 : Int), (0 : Int)⟩ : Fix)) (L := n11) rfl rfl rfl rfl rfl rfl e10 .here ?_
              refine ARun.ghost (ImpX.eqs (s := 0) (av' := .sl 5 b_0 0 (clr l10 n11 l20.length (⟨[], (0 : Int), (0 : Int), (0 : Int), (0 : Int)⟩ : Fix)).length) rfl (congrArg (AV.sl 5 b_0 0) (clr_len e10)) (ImpX.here ?_))
              refine ARun.ghost (ImpX.eqs (s := 59) (av' := .sl 5 b_0 0 (clr l10 n11 l20.length (⟨[], (0 : Int), (0 : Int), (0 : Int), (0 : Int)⟩ : Fix)).length) rfl (congrArg (AV.sl 5 b_0 0) (clr_len e10)) (ImpX.here ?_))
              refine ARun.nil ?_
              refine ATodo.seq ?_
              refine ATodo.region ?_
              refine ARun.qv (q_move rfl) rfl ?_
              refine ARun.qv (q_move rfl) rfl ?_
              obtain ⟨l21, e11, h⟩ := bnd h
              refine ARun.qv (t_slice_sl rfl rfl .none (.some _ _ _ rfl) rfl rfl e11) rfl ?_
              refine ARun.qv (q_assign rfl) rfl ?_
              refine ARun.ghost (ImpX.takeT e11 .here (ImpX.here ?_))
              refine ARun.nil ?_
              refine ATodo.ret ?_
              replace h := outL h hA1
              obtain rfl := Option.some.inj h
              exact ImpX.here ⟨_, .cons (.tmp _ _ rfl) .nil, _, .cons .here .nil, ⟨b_0, rfl, rfl⟩⟩
        · replace h := iteFb hc h
          refine ATodo.skip ?_
          refine ATodo.blk ?_
          refine ATodo.region ?_
          refine ARun.qv (q_move rfl) rfl ?_
          refine ARun.qv (q_addw rfl rfl) rfl ?_
          refine ARun.qv (q_assign rfl) rfl ?_
          refine ARun.nil ?_
          refine ATodo.stop ?_
          obtain rfl := Option.some.inj h
          refine hJ1 _ _ rfl ?_
          exact ImpX.lessP (by exact ⟨rfl, rfl, rfl, True.intro⟩) (.cons .here .nil) (ImpX.here rfl)
      · replace h := iteF hc h
        refine ATodo.exit rfl ?_
        replace h := outL h hA1
        refine ATodo.seq ?_
        refine ATodo.region ?_
        refine ARun.qv (q_move rfl) rfl ?_
        refine ARun.qv (q_assign rfl) rfl ?_
        refine ARun.nil ?_
        refine ATodo.ret ?_
        obtain rfl := Option.some.inj h
        exact ImpX.here ⟨_, .cons (.tmp _ _ rfl) .nil, _, .cons .here .nil, ⟨b_0, rfl, rfl⟩⟩

set_option maxHeartbeats 4000000 in
theorem Stream_Odd_c {b_0 : Bk} {p0x0 : Fleetmake_Stream} {p1x0 : Int} {p2x0 : Int} {r : Int × Fleetmake_Stream} (h : Stream_Odd p0x0 p1x0 p2x0 = some r) : ACall Try.prog 14 [.ptr b_0 0, I p1x0, I p2x0] [(b_0, .cells [.list 1 (p0x0.L.map I), I p0x0.at_])] (T0 ([(b_0, .cells [.list 1 (r.2.L.map I), I r.2.at_])]) (I r.1)) := by
  unfold Stream_Odd at h
  refine ACall.lessH ?_
  refine ACall.bodyN Try.func14 rfl Try.ntmps14 Try.results14 rfl rfl ?_
  refine ATodo.seq ?_
  refine ATodo.region ?_
  refine ARun.qv (q_assign rfl) rfl ?_
  refine ARun.nil ?_
  refine ATodo.seq ?_
  refine ATodo.seq ?_
  refine ATodo.region ?_
  refine ARun.qv (q_move rfl) rfl ?_
  obtain ⟨v1, e1, h⟩ := bnd h
  refine t_call0 rfl (Stream_Flip_c e1) (CoL.refl _) (.cons .here .nil) rfl rfl ?_
  refine ARun.nil ?_
  refine ATodo.cond rfl (fun hc => ?_) (fun hc => ?_)
  · replace h := iteT hc h
    refine ATodo.seq ?_
    refine ATodo.region ?_
    refine ARun.qv (q_move rfl) rfl ?_
    refine ARun.qv (q_move rfl) rfl ?_
    refine ARun.qv (q_subw rfl rfl) rfl ?_
    refine ARun.qv (q_move rfl) rfl ?_
    refine ARun.qv (q_addw rfl rfl) rfl ?_
    refine ARun.qv (q_move rfl) rfl ?_
    refine ARun.qv (q_move rfl) rfl ?_
    refine n_buildSliceL (xs := ([w64 (p1x0 - (1 : Int)), w64 (p2x0 + (1 : Int)), p1x0, p2x0, (-1099511627776 : Int), (1099511627776 : Int)]).map I) rfl rfl rfl rfl rfl rfl ?_
    obtain ⟨v2, e2, h⟩ := bnd h
    refine t_call0 rfl (Stream_Pick_c e2) (CoL.refl _) (.cons .here .nil) rfl rfl ?_
    refine ARun.qv (q_assign rfl) rfl ?_
    refine ARun.nil ?_
    refine ATodo.ret ?_
    obtain rfl := Option.some.inj h
    exact ImpX.here ⟨_, .cons (.tmp _ _ rfl) .nil, _, .cons .here .nil, ⟨rfl, rfl⟩⟩
  · replace h := iteFb hc h
    refine ATodo.skip ?_
    refine ATodo.seq ?_
    refine ATodo.region ?_
    refine ARun.qv (q_move rfl) rfl ?_
    refine ARun.qv (q_move rfl) rfl ?_
    refine ARun.qv (q_move rfl) rfl ?_
    obtain ⟨v3, e3, h⟩ := bnd h
    refine t_call0 rfl (Stream_Range_c e3) (CoL.refl _) (.cons .here .nil) rfl rfl ?_
    refine ARun.qv (q_assign rfl) rfl ?_
    refine ARun.nil ?_
    refine ATodo.ret ?_
    obtain rfl := Option.some.inj h
    exact ImpX.here ⟨_, .cons (.tmp _ _ rfl) .nil, _, .cons .here .nil, ⟨rfl, rfl⟩⟩

set_option maxHeartbeats 4000000 in
theorem Stream_Fixes_c {b_0 : Bk} {p0x0 : Fleetmake_Stream} {p1x0 : Int} {r : (List Fix) × Fleetmake_Stream} (h : Stream_Fixes p0x0 p1x0 = some r) : ACall Try.prog 36 [.ptr b_0 0, I p1x0] [(b_0, .cells [.list 1 (p0x0.L.map I), I p0x0.at_])] (T1 (fun d_0 => [(b_0, .cells [.list 1 (r.2.L.map I), I r.2.at_]), (d_0, .arr 5 (r.1.map Fix.av))]) (fun d_0 => .sl 5 d_0 0 r.1.length)) := by
  unfold Stream_Fixes at h
  refine ACall.lessH ?_
  refine ACall.bodyN Try.func36 rfl Try.ntmps36 Try.results36 rfl rfl ?_
  refine ATodo.seq ?_
  refine ATodo.region ?_
  refine ARun.qv (q_assign rfl) rfl ?_
  refine ARun.nil ?_
  refine ATodo.seq ?_
  refine ATodo.region ?_
  refine ARun.qv (q_assign rfl) rfl ?_
  refine ARun.nil ?_
  refine ATodo.seq ?_
  refine ATodo.seq ?_
  refine ATodo.region ?_
  refine ARun.qv (q_move rfl) rfl ?_
  refine ARun.qv (q_move rfl) rfl ?_
  refine ARun.nil ?_
  refine ATodo.block ?_
  refine ATodo.loopI (fun x : (List Int) × Int × (List Fix) × Int => Stream_Fixes_b1 p1x0 x.1 x.2.1 x.2.2.1 x.2.2.2) (fun x σ' => ∃ (b8 : Bk), σ' = ⟨68, [(0, .ptr b_0 0), (5, .sl 5 b8 0 x.2.2.1.length), (7, I p1x0), (8, I x.2.2.2)], [(b_0, .cells [.list 1 (x.1.map I), I x.2.1]), (b8, .arr 5 (x.2.2.1.map Fix.av))]⟩) h ?_ ?_
  · refine ImpX.arr (s := 5) 5 rfl (fun b11 => ?_)
    exact ImpX.lessP (by exact ⟨rfl, rfl, rfl, rfl, True.intro⟩) (.cons (.next .here) (.cons .here .nil)) (ImpX.here ⟨b11, rfl⟩)
  · intro x z1 σ' J1 hmk h hJ1 hA1
    obtain ⟨l6, n7, l9, n10⟩ := x
    obtain ⟨b8, rfl⟩ := hmk
    replace h : Stream_Fixes_b1 p1x0 l6 n7 l9 n10 = some z1 := h
    unfold Stream_Fixes_b1 at h
    refine ATodo.seq ?_
    refine ATodo.region ?_
    refine ARun.qv (q_lss rfl rfl) rfl ?_
    refine ARun.nil ?_
    refine ATodo.seq ?_
    refine ATodo.cond_d rfl (fun hc => ?_) (fun hc => ?_)
    · replace h := iteT hc h
      refine ATodo.skip ?_
      refine ATodo.seq ?_
      refine ATodo.block ?_
      refine ATodo.region ?_
      refine ARun.qv (q_move rfl) rfl ?_
      refine ARun.qv (q_move rfl) rfl ?_
      refine n_buildSliceL (xs := ([([100] : Str), ([100] : Str), ([101] : Str)]).map AV.str) rfl rfl rfl rfl rfl rfl ?_
      obtain ⟨v12, e1, h⟩ := bnd h
      refine t_call0 rfl (Stream_Some_c e1) (CoL.refl _) (.cons .here .nil) rfl rfl ?_
      refine ARun.qv (q_move rfl) rfl ?_
      refine n_buildSliceL (xs := ([(0 : Int), (1 : Int), (5 : Int), (10 : Int)]).map I) rfl rfl rfl rfl rfl rfl ?_
      obtain ⟨v13, e2, h⟩ := bnd h
      refine t_call0 rfl (Stream_Pick_c e2) (CoL.refl _) (.cons .here .nil) rfl rfl ?_
      refine ARun.qv (q_move rfl) rfl ?_
      refine n_buildSliceL (xs := ([(0 : Int), (1 : Int)]).map I) rfl rfl rfl rfl rfl rfl ?_
      obtain ⟨v14, e3, h⟩ := bnd h
      refine t_call0 rfl (Stream_Pick_c e3) (CoL.refl _) (.cons .here .nil) rfl rfl ?_
      refine ARun.qv (q_move rfl) rfl ?_
      refine n_buildSliceL (xs := ([(0 : Int), (1 : Int), (2 : Int)]).map I) rfl rfl rfl rfl rfl rfl ?_
      obtain ⟨v15, e4, h⟩ := bnd h
      refine t_call0 rfl (Stream_Pick_c e4) (CoL.refl _) (.cons .here .nil) rfl rfl ?_
      refine ARun.qv (n_build rfl rfl rfl rfl rfl) rfl ?_
      refine n_buildSliceL (xs := ([(⟨v12.1, v13.1, v14.1, v15.1, (0 : Int)⟩ : Fix)]).map Fix.av) rfl rfl rfl rfl rfl rfl ?_
      obtain ⟨l16, e5, h⟩ := bnd h
      refine t_append (g := Fix.av) rfl rfl rfl rfl rfl rfl rfl rfl (.list _) e5 (fun _ => (.next .here)) rfl (fun b17 => ?_)
      refine ARun.qv (q_assign rfl) rfl ?_
      refine ARun.nil ?_
      refine ATodo.blk ?_
      refine ATodo.region ?_
      refine ARun.qv (q_addw rfl rfl) rfl ?_
      refine ARun.qv (q_move rfl) rfl ?_
      refine ARun.nil ?_
      refine ATodo.stop ?_
      obtain rfl := Option.some.inj h
      refine hJ1 _ _ rfl ?_
      exact ImpX.lessP (by exact ⟨rfl, rfl, rfl, rfl, True.intro⟩) (.cons .here (.cons .here .nil)) (ImpX.here ⟨b17, rfl⟩)
    · replace h := iteF hc h
      refine ATodo.exit rfl ?_
      replace h := outL h hA1
      unfold Stream_Fixes_k4 at h
      refine ATodo.seq ?_
      refine ATodo.region ?_
      refine ARun.qv (q_move rfl) rfl ?_
      obtain ⟨v18, e6, h⟩ := bnd h
      refine t_call0 rfl (slices_SortStableFunc_Fix_Fix_c (fun e => Q_FixOrder_c (Option.some.inj e)) (lenOk_f e6)) (CoL.refl _) (.cons (.next .here) .nil) rfl rfl ?_
      refine ARun.ghost (ImpX.eqs (s := 5) (av' := .sl 5 b8 0 v18.length) rfl (congrArg (AV.sl 5 b8 0) (lenOk_l e6)) (ImpX.here ?_))
      refine ARun.ghost (ImpX.eqs (s := 27) (av' := .sl 5 b8 0 v18.length) rfl (congrArg (AV.sl 5 b8 0) (lenOk_l e6)) (ImpX.here ?_))
      refine ARun.nil ?_
      refine ATodo.seq ?_
      refine ATodo.seq ?_
      refine ATodo.region ?_
      refine ARun.qv (q_move rfl) rfl ?_
      obtain ⟨v19, e7, h⟩ := bnd h
      refine t_call0 rfl (Stream_Flip_c e7) (CoL.refl _) (.cons (.next .here) .nil) rfl rfl ?_
      refine ARun.qv (q_not rfl) rfl ?_
      refine ARun.nil ?_
      refine ATodo.cut (fun σ' => ∃ (b20 : Bk) (l21 : List Fix), Stream_Fixes_j1 v19 l21 = some r ∧ σ' = ⟨68, [(0, .ptr b_0 0), (5, .sl 5 b20 0 l21.length)], [(b_0, .cells [.list 1 (v19.2.L.map I), I v19.2.at_]), (b20, .arr 5 (l21.map Fix.av))]⟩) ?_ ?_
      · refine ATodo.cond rfl (fun hc => ?_) (fun hc => ?_)
        · replace h := iteT hc h
          refine ATodo.region ?_
          refine ARun.qv (q_move rfl) rfl ?_
          obtain ⟨v22, e8, h⟩ := bnd h
          refine t_call1 rfl (slices_CompactFunc_Fix_Fix_c (fun e => Stream_Fixes_1x_c (Option.some.inj e)) e8) (CoL.refl _) (.cons (.next .here) .nil) (fun _ => rfl) rfl (fun b23 => ?_)
          refine ARun.qv (q_assign rfl) rfl ?_
          refine ARun.nil ?_
          refine ATodo.stop ?_
          exact ImpX.lessP (by exact ⟨rfl, rfl, True.intro⟩) (.cons (.next .here) (.cons .here .nil)) (ImpX.here ⟨b23, v22, h, rfl⟩)
        · replace h := iteFb hc h
          refine ATodo.skip ?_
          refine ATodo.stop ?_
          exact ImpX.lessP (by exact ⟨rfl, rfl, True.intro⟩) (.cons .here (.cons .here .nil)) (ImpX.here ⟨b8, v18, h, rfl⟩)
      · rintro σ' ⟨b20, l21, h, rfl⟩
        unfold Stream_Fixes_j1 at h
        refine ATodo.seq ?_
        refine ATodo.seq ?_
        refine ATodo.cut (fun σ' => ∃ (l24 : List Int) (n25 : Int) (c26 : Bool), Stream_Fixes_j2 l21 l24 n25 c26 = some r ∧ σ' = ⟨68, [(0, .ptr b_0 0), (5, .sl 5 b20 0 l21.length), (40, .bool c26)], [(b_0, .cells [.list 1 (l24.map I), I n25]), (b20, .arr 5 (l21.map Fix.av))]⟩) ?_ ?_
        · refine ATodo.region ?_
          refine ARun.qv (q_move rfl) rfl ?_
          refine ARun.qv (t_len_sl rfl) rfl ?_
          refine ARun.qv (q_gtr rfl rfl) rfl ?_
          refine ARun.qv (q_move rfl) rfl ?_
          refine ARun.guard_dt rfl rfl rfl (fun hc => ?_) (fun hc => ?_)
          · replace h := iteT hc h
            refine ARun.qv (q_move rfl) rfl ?_
            refine ARun.guard_yes rfl rfl rfl ?_
            obtain ⟨v27, e9, h⟩ := bnd h
            refine t_call0 rfl (Stream_Flip_c e9) (CoL.refl _) (.cons .here .nil) rfl rfl ?_
            refine ARun.qv (q_pick_t rfl rfl) rfl ?_
            refine ARun.nil ?_
            refine ATodo.stop ?_
            exact ImpX.lessP (by exact ⟨rfl, rfl, rfl, True.intro⟩) (.cons .here (.cons .here .nil)) (ImpX.here ⟨v27.2.L, v27.2.at_, v27.1, h, rfl⟩)
          · replace h := iteF hc h
            refine ARun.guard_no rfl rfl rfl rfl ?_
            refine ARun.qv (q_pick_f rfl rfl) rfl ?_
            refine ARun.nil ?_
            refine ATodo.stop ?_
            exact ImpX.lessP (by exact ⟨rfl, rfl, rfl, True.intro⟩) (.cons .here (.cons .here .nil)) (ImpX.here ⟨v19.2.L, v19.2.at_, false, h, rfl⟩)
        · rintro σ' ⟨l24, n25, c26, h, rfl⟩
          unfold Stream_Fixes_j2 at h
          refine ATodo.cut (fun σ' => ∃ (l28 : List Int) (n29 : Int) (l30 : List Fix), Stream_Fixes_j3 l28 n29 l30 = some r ∧ σ' = ⟨68, [(5, .sl 5 b20 0 l30.length)], [(b_0, .cells [.list 1 (l28.map I), I n29]), (b20, .arr 5 (l30.map Fix.av))]⟩) ?_ ?_
          · refine ATodo.cond rfl (fun hc => ?_) (fun hc => ?_)
            · replace h := iteT hc h
              refine ATodo.seq ?_
              refine ATodo.region ?_
              refine ARun.qv (q_move rfl) rfl ?_
              refine ARun.qv (q_move rfl) rfl ?_
              refine ARun.qv (q_move rfl) rfl ?_
              refine ARun.qv (t_len_sl rfl) rfl ?_
              obtain ⟨v31, e10, h⟩ := bnd h
              refine t_call0 rfl (Stream_Next_c e10) (CoL.refl _) (.cons .here .nil) rfl rfl ?_
              obtain ⟨v32, e11, h⟩ := bnd h
              refine ARun.qv (t_index_sl rfl rfl rfl e11) rfl ?_
              refine ARun.qv (q_assign rfl) rfl ?_
              refine ARun.nil ?_
              refine ATodo.region ?_
              refine ARun.qv (q_move rfl) rfl ?_
              refine ARun.qv (q_move rfl) rfl ?_
              refine ARun.qv (q_move rfl) rfl ?_
              refine ARun.qv (q_move rfl) rfl ?_
              refine ARun.qv (q_move rfl) rfl ?_
              refine ARun.qv (q_nilCheck_aptr rfl) rfl ?_
              refine ARun.qv (t_field_aptr rfl rfl) rfl ?_
              refine ARun.qv (t_load_aptr (g := Fix.av) rfl rfl (.inl (.next .here)) e11 rfl) rfl ?_
              refine n_buildSliceL (xs := ([v32.Device, ([] : Str), ([65] : Str)]).map AV.str) rfl rfl rfl rfl rfl rfl ?_
              obtain ⟨v33, e12, h⟩ := bnd h
              refine t_call0 rfl (Stream_Some_c e12) (CoL.refl _) (.cons .here .nil) rfl rfl ?_
              refine ARun.qv (q_move rfl) rfl ?_
              obtain ⟨v34, e13, h⟩ := bnd h
              refine t_call0 rfl (Stream_Odd_c e13) (CoL.refl _) (.cons .here .nil) rfl rfl ?_
              refine ARun.qv (q_move rfl) rfl ?_
              obtain ⟨v35, e14, h⟩ := bnd h
              refine t_call0 rfl (Stream_Odd_c e14) (CoL.refl _) (.cons .here .nil) rfl rfl ?_
              refine ARun.qv (q_nilCheck_aptr rfl) rfl ?_
              refine ARun.qv (t_field_aptr rfl rfl) rfl ?_
              refine t_store_aptr1 (g := Fix.av) (el' := (⟨v33.1, v32.At, v32.X, v32.Y, v32.Error⟩ : Fix)) rfl rfl rfl rfl e11 rfl (.next .here) rfl ?_
              refine ARun.ghost (ImpX.eqs (s := 5) (av' := .sl 5 b20 0 (l21.set v31.1.toNat (⟨v33.1, v32.At, v32.X, v32.Y, v32.Error⟩ : Fix)).length) rfl (by rw [List.length_set]) (ImpX.here ?_))
              refine ARun.ghost (ImpX.eqs (s := 41) (av' := .sl 5 b20 0 (l21.set v31.1.toNat (⟨v33.1, v32.At, v32.X, v32.Y, v32.Error⟩ : Fix)).length) rfl (by rw [List.length_set]) (ImpX.here ?_))
              refine ARun.ghost (ImpX.eqs (s := 43) (av' := .sl 5 b20 0 (l21.set v31.1.toNat (⟨v33.1, v32.At, v32.X, v32.Y, v32.Error⟩ : Fix)).length) rfl (by rw [List.length_set]) (ImpX.here ?_))
              refine ARun.qv (q_nilCheck_aptr rfl) rfl ?_
              refine ARun.qv (t_field_aptr rfl rfl) rfl ?_
              refine t_store_aptr1 (g := Fix.av) (el' := (⟨v33.1, v34.1, v32.X, v32.Y, v32.Error⟩ : Fix)) rfl rfl rfl rfl (idx_set_self (v := (⟨v33.1, v32.At, v32.X, v32.Y, v32.Error⟩ : Fix)) e11) rfl (.next .here) rfl ?_
              refine ARun.ghost (ImpX.eqs (s := 5) (av' := .sl 5 b20 0 ((l21.set v31.1.toNat (⟨v33.1, v32.At, v32.X, v32.Y, v32.Error⟩ : Fix)).set v31.1.toNat (⟨v33.1, v34.1, v32.X, v32.Y, v32.Error⟩ : Fix)).length) rfl (by rw [List.length_set]) (ImpX.here ?_))
              refine ARun.ghost (ImpX.eqs (s := 41) (av' := .sl 5 b20 0 ((l21.set v31.1.toNat (⟨v33.1, v32.At, v32.X, v32.Y, v32.Error⟩ : Fix)).set v31.1.toNat (⟨v33.1, v34.1, v32.X, v32.Y, v32.Error⟩ : Fix)).length) rfl (by rw [List.length_set]) (ImpX.here ?_))
              refine ARun.ghost (ImpX.eqs (s := 43) (av' := .sl 5 b20 0 ((l21.set v31.1.toNat (⟨v33.1, v32.At, v32.X, v32.Y, v32.Error⟩ : Fix)).set v31.1.toNat (⟨v33.1, v34.1, v32.X, v32.Y, v32.Error⟩ : Fix)).length) rfl (by rw [List.length_set]) (ImpX.here ?_))
              refine ARun.qv (q_nilCheck_aptr rfl) rfl ?_
              refine ARun.qv (t_field_aptr rfl rfl) rfl ?_
              refine t_store_aptr1 (g := Fix.av) (el' := (⟨v33.1, v34.1, v32.X, v35.1, v32.Error⟩ : Fix)) rfl rfl rfl rfl (idx_set_self (v := (⟨v33.1, v34.1, v32.X, v32.Y, v32.Error⟩ : Fix)) (idx_set_self (v := (⟨v33.1, v32.At, v32.X, v32.Y, v32.Error⟩ : Fix)) e11)) rfl (.next .here) rfl ?_
              refine ARun.ghost (ImpX.eqs (s := 5) (av' := .sl 5 b20 0 (((l21.set v31.1.toNat (⟨v33.1, v32.At, v32.X, v32.Y, v32.Error⟩ : Fix)).set v31.1.toNat (⟨v33.1, v34.1, v32.X, v32.Y, v32.Error⟩ : Fix)).set v31.1.toNat (⟨v33.1, v34.1, v32.X, v35.1, v32.Error⟩ : Fix)).length) rfl (by rw [List.length_set]) (ImpX.here ?_))
              refine ARun.ghost (ImpX.eqs (s := 41) (av' := .sl 5 b20 0 (((l21.set v31.1.toNat (⟨v33.1, v32.At, v32.X, v32.Y, v32.Error⟩ : Fix)).set v31.1.toNat (⟨v33.1, v34.1, v32.X, v32.Y, v32.Error⟩ : Fix)).set v31.1.toNat (⟨v33.1, v34.1, v32.X, v35.1, v32.Error⟩ : Fix)).length) rfl (by rw [List.length_set]) (ImpX.here ?_))
              refine ARun.ghost (ImpX.eqs (s := 43) (av' := .sl 5 b20 0 (((l21.set v31.1.toNat (⟨v33.1, v32.At, v32.X, v32.Y, v32.Error⟩ : Fix)).set v31.1.toNat (⟨v33.1, v34.1, v32.X, v32.Y, v32.Error⟩ : Fix)).set v31.1.toNat (⟨v33.1, v34.1, v32.X, v35.1, v32.Error⟩ : Fix)).length) rfl (by rw [List.length_set]) (ImpX.here ?_))
              refine ARun.nil ?_
              refine ATodo.stop ?_
              exact ImpX.lessP (by exact ⟨rfl, True.intro⟩) (.cons .here (.cons .here .nil)) (ImpX.here ⟨v35.2.L, v35.2.at_, ((l21.set v31.1.toNat (⟨v33.1, v32.At, v32.X, v32.Y, v32.Error⟩ : Fix)).set v31.1.toNat (⟨v33.1, v34.1, v32.X, v32.Y, v32.Error⟩ : Fix)).set v31.1.toNat (⟨v33.1, v34.1, v32.X, v35.1, v32.Error⟩ : Fix), h, rfl⟩)
            · replace h := iteFb hc h
              refine ATodo.skip ?_
              refine ATodo.stop ?_
              exact ImpX.lessP (by exact ⟨rfl, True.intro⟩) (.cons .here (.cons .here .nil)) (ImpX.here ⟨l24, n25, l21, h, rfl⟩)
          · rintro σ' ⟨l28, n29, l30, h, rfl⟩
            unfold Stream_Fixes_j3 at h
            refine ATodo.seq ?_
            refine ATodo.region ?_
            refine ARun.qv (q_move rfl) rfl ?_
            refine ARun.qv (q_assign rfl) rfl ?_
            refine ARun.nil ?_
            refine ATodo.ret ?_
            obtain rfl := Option.some.inj h
            exact ImpX.here ⟨_, .cons (.tmp _ _ rfl) .nil, _, .cons .here (.cons .here .nil), ⟨b20, rfl, rfl⟩⟩

set_option maxHeartbeats 4000000 in
theorem slices_Clone_Fix_Fix_c {p0x0 : List Fix} {r : (List Fix)} (h : slices_Clone_Fix_Fix p0x0 = some r) : ACall Try.prog 39 [.list 5 (p0x0.map Fix.av)] [] (T1 (fun d_0 => [(d_0, .arr 5 (r.map Fix.av))]) (fun d_0 => .sl 5 d_0 0 r.length)) := by
  unfold slices_Clone_Fix_Fix at h
  refine ACall.lessH ?_
  refine ACall.bodyN Try.func39 rfl Try.ntmps39 Try.results39 rfl rfl ?_
  refine ATodo.seq ?_
  refine ATodo.region ?_
  refine ARun.qv (q_assign rfl) rfl ?_
  refine ARun.nil ?_
  refine ATodo.seq ?_
  refine ATodo.seq ?_
  refine ATodo.region ?_
  refine ARun.qv (q_move rfl) rfl ?_
  refine r_eqnil rfl rfl rfl rfl (fun c hc => ?_)
  refine ARun.nil ?_
  refine ATodo.cond rfl (fun hT => ?_) (fun hF => ?_)
  · obtain rfl := app_nil_some h (List.map_eq_nil_iff.1 (hc hT))
    refine ATodo.seq ?_
    refine ATodo.region ?_
    refine ARun.qv (q_assign rfl) rfl ?_
    refine ARun.nil ?_
    refine ATodo.ret ?_
    refine ImpX.arr (s := 2) 5 rfl (fun b1 => ?_)
    exact ImpX.here ⟨_, .cons (.tmp _ _ rfl) .nil, _, .cons .here .nil, ⟨b1, rfl, rfl⟩⟩
  · refine ATodo.skip ?_
    refine ATodo.seq ?_
    refine ATodo.region ?_
    refine n_buildSlice (xs := ([] : List Fix).map Fix.av) rfl rfl rfl rfl rfl rfl (fun b2 => ?_)
    refine ARun.qv (q_move rfl) rfl ?_
    refine t_append (g := Fix.av) (Xs := []) rfl rfl rfl rfl rfl rfl rfl rfl (.list _) h (fun _ => .here) rfl (fun b3 => ?_)
    refine ARun.qv (q_assign rfl) rfl ?_
    refine ARun.nil ?_
    refine ATodo.ret ?_
    exact ImpX.here ⟨_, .cons (.tmp _ _ rfl) .nil, _, .cons .here .nil, ⟨b3, rfl, rfl⟩⟩

set_option maxHeartbeats 4000000 in
theorem base_Key_c {p0x0 : Str} {r : Bool} (h : base_Key p0x0 = some r) : Pu Try.prog 126 [.str p0x0] (.bool r) := by
  unfold base_Key at h
  refine ACall.bodyN Try.func126 rfl Try.ntmps126 Try.results126 rfl rfl ?_
  refine ATodo.seq ?_
  refine ATodo.region ?_
  refine ARun.qv (q_assign rfl) rfl ?_
  refine ARun.nil ?_
  refine ATodo.seq ?_
  refine ATodo.seq ?_
  refine ATodo.cut (fun σ' => ∃ (c1 : Bool), base_Key_j1 p0x0 c1 = some r ∧ σ' = ⟨54, [(0, .str p0x0), (21, .bool c1)], []⟩) ?_ ?_
  · refine ATodo.region ?_
    refine ARun.qv (q_move rfl) rfl ?_
    refine ARun.qv (q_seq rfl rfl) rfl ?_
    refine ARun.qv (q_move rfl) rfl ?_
    refine ARun.guard_df rfl rfl rfl (fun hc => ?_) (fun hc => ?_)
    · replace h := iteF hc h
      refine ARun.qv (q_move rfl) rfl ?_
      refine ARun.guard_yes rfl rfl rfl ?_
      refine ARun.qv (q_len_str rfl) rfl ?_
      refine ARun.guard_yes rfl rfl rfl ?_
      refine ARun.qv (q_gtr rfl rfl) rfl ?_
      refine ARun.qv (q_pick_f rfl rfl) rfl ?_
      refine ARun.qv (q_move rfl) rfl ?_
      refine ARun.guard_df rfl rfl rfl (fun hc => ?_) (fun hc => ?_)
      · replace h := iteF hc h
        refine ARun.qv (q_move rfl) rfl ?_
        refine ARun.guard_yes rfl rfl rfl ?_
        obtain ⟨c2, e1, h⟩ := bnd h
        refine ARun.qv (t_index_str rfl rfl e1) rfl ?_
        refine ARun.guard_yes rfl rfl rfl ?_
        refine ARun.qv (q_lss rfl rfl) rfl ?_
        refine ARun.qv (q_pick_f rfl rfl) rfl ?_
        refine ARun.qv (q_move rfl) rfl ?_
        refine ARun.guard_df rfl rfl rfl (fun hc => ?_) (fun hc => ?_)
        · replace h := iteF hc h
          refine ARun.qv (q_move rfl) rfl ?_
          refine ARun.guard_yes rfl rfl rfl ?_
          obtain ⟨c3, e2, h⟩ := bnd h
          refine ARun.qv (t_index_str rfl rfl e2) rfl ?_
          refine ARun.guard_yes rfl rfl rfl ?_
          refine ARun.qv (q_gtr rfl rfl) rfl ?_
          refine ARun.qv (q_pick_f rfl rfl) rfl ?_
          refine ARun.nil ?_
          refine ATodo.stop ?_
          exact ImpX.lessP (by exact ⟨rfl, rfl, True.intro⟩) (.nil) (ImpX.here ⟨decide ((122 : Int) < (c3.toNat : Int)), h, rfl⟩)
        · replace h := iteT hc h
          refine ARun.guard_no rfl rfl rfl rfl ?_
          refine ARun.guard_no rfl rfl rfl rfl ?_
          refine ARun.qv (q_pick_t rfl rfl) rfl ?_
          refine ARun.nil ?_
          refine ATodo.stop ?_
          exact ImpX.lessP (by exact ⟨rfl, rfl, True.intro⟩) (.nil) (ImpX.here ⟨true, h, rfl⟩)
      · replace h := iteT hc h
        refine ARun.guard_no rfl rfl rfl rfl ?_
        refine ARun.guard_no rfl rfl rfl rfl ?_
        refine ARun.qv (q_pick_t rfl rfl) rfl ?_
        refine ARun.qv (q_move rfl) rfl ?_
        refine ARun.guard_no rfl rfl rfl rfl ?_
        refine ARun.guard_no rfl rfl rfl rfl ?_
        refine ARun.guard_no rfl rfl rfl rfl ?_
        refine ARun.qv (q_pick_t rfl rfl) rfl ?_
        refine ARun.nil ?_
        refine ATodo.stop ?_
        exact ImpX.lessP (by exact ⟨rfl, rfl, True.intro⟩) (.nil) (ImpX.here ⟨true, h, rfl⟩)
    · replace h := iteT hc h
      refine ARun.guard_no rfl rfl rfl rfl ?_
      refine ARun.guard_no rfl rfl rfl rfl ?_
      refine ARun.qv (q_pick_t rfl rfl) rfl ?_
      refine ARun.qv (q_move rfl) rfl ?_
      refine ARun.guard_no rfl rfl rfl rfl ?_
      refine ARun.guard_no rfl rfl rfl rfl ?_
      refine ARun.guard_no rfl rfl rfl rfl ?_
      refine ARun.qv (q_pick_t rfl rfl) rfl ?_
      refine ARun.qv (q_move rfl) rfl ?_
      refine ARun.guard_no rfl rfl rfl rfl ?_
      refine ARun.guard_no rfl rfl rfl rfl ?_
      refine ARun.guard_no rfl rfl rfl rfl ?_
      refine ARun.qv (q_pick_t rfl rfl) rfl ?_
      refine ARun.nil ?_
      refine ATodo.stop ?_
      exact ImpX.lessP (by exact ⟨rfl, rfl, True.intro⟩) (.nil) (ImpX.here ⟨true, h, rfl⟩)
  · rintro σ' ⟨c1, h, rfl⟩
    unfold base_Key_j1 at h
    refine ATodo.cond rfl (fun hc => ?_) (fun hc => ?_)
    · replace h := iteT hc h
      refine ATodo.seq ?_
      refine ATodo.region ?_
      refine ARun.qv (q_assign rfl) rfl ?_
      refine ARun.nil ?_
      refine ATodo.ret ?_
      obtain rfl := Option.some.inj h
      exact ImpX.here ⟨_, .cons (.tmp _ _ rfl) .nil, rfl⟩
    · replace h := iteFb hc h
      refine ATodo.skip ?_
      refine ATodo.seq ?_
      refine ATodo.seq ?_
      refine ATodo.region ?_
      refine ARun.qv (q_move rfl) rfl ?_
      refine ARun.qv (q_len_str rfl) rfl ?_
      refine ARun.qv (q_move rfl) rfl ?_
      refine ARun.nil ?_
      refine ATodo.block ?_
      refine ATodo.loopI (fun x : Int => base_Key_b1 p0x0 x) (fun x σ' => σ' = ⟨54, [(0, .str p0x0), (23, I (p0x0.length : Int)), (24, I x)], []⟩) h ?_ ?_
      · exact ImpX.lessP (by exact ⟨rfl, rfl, rfl, True.intro⟩) (.nil) (ImpX.here rfl)
      · intro n5 z1 σ' J1 hmk h hJ1 hA1
        obtain rfl := hmk
        replace h : base_Key_b1 p0x0 n5 = some z1 := h
        unfold base_Key_b1 at h
        refine ATodo.seq ?_
        refine ATodo.region ?_
        refine ARun.qv (q_lss rfl rfl) rfl ?_
        refine ARun.nil ?_
        refine ATodo.seq ?_
        refine ATodo.cond_d rfl (fun hc => ?_) (fun hc => ?_)
        · replace h := iteT hc h
          refine ATodo.skip ?_
          refine ATodo.seq ?_
          refine ATodo.block ?_
          refine ATodo.seq ?_
          refine ATodo.region ?_
          refine ARun.qv (q_move rfl) rfl ?_
          refine ARun.qv (q_assign rfl) rfl ?_
          refine ARun.nil ?_
          refine ATodo.seq ?_
          refine ATodo.region ?_
          refine ARun.qv (q_move rfl) rfl ?_
          refine ARun.qv (q_move rfl) rfl ?_
          obtain ⟨c6, e3, h⟩ := bnd h
          refine ARun.qv (t_index_str rfl rfl e3) rfl ?_
          refine ARun.qv (q_assign rfl) rfl ?_
          refine ARun.nil ?_
          refine ATodo.seq ?_
          refine ATodo.cut (fun σ' => ∃ (c7 : Bool), base_Key_j2 n5 c7 = some z1 ∧ σ' = ⟨54, [(0, .str p0x0), (23, I (p0x0.length : Int)), (24, I n5), (52, .bool c7)], []⟩) ?_ ?_
          · refine ATodo.region ?_
            refine ARun.qv (q_move rfl) rfl ?_
            refine ARun.qv (q_geq rfl rfl) rfl ?_
            refine ARun.qv (q_move rfl) rfl ?_
            refine ARun.guard_dt rfl rfl rfl (fun hc => ?_) (fun hc => ?_)
            · rw [if_pos hc] at h
              refine ARun.qv (q_move rfl) rfl ?_
              refine ARun.guard_yes rfl rfl rfl ?_
              refine ARun.qv (q_leq rfl rfl) rfl ?_
              refine ARun.qv (q_pick_t rfl rfl) rfl ?_
              refine ARun.qv (q_move rfl) rfl ?_
              refine ARun.guard_df rfl rfl rfl (fun hc => ?_) (fun hc => ?_)
              · rw [if_neg hc] at h
                refine ARun.qv (q_move rfl) rfl ?_
                refine ARun.guard_yes rfl rfl rfl ?_
                refine ARun.qv (q_geq rfl rfl) rfl ?_
                refine ARun.guard_yes rfl rfl rfl ?_
                refine ARun.qv (q_move rfl) rfl ?_
                refine ARun.guard_dt rfl rfl rfl (fun hc => ?_) (fun hc => ?_)
                · rw [if_pos hc] at h
                  refine ARun.qv (q_move rfl) rfl ?_
                  refine ARun.guard_yes rfl rfl rfl ?_
                  refine ARun.qv (q_leq rfl rfl) rfl ?_
                  refine ARun.guard_yes rfl rfl rfl ?_
                  refine ARun.qv (q_pick_t rfl rfl) rfl ?_
                  refine ARun.qv (q_pick_f rfl rfl) rfl ?_
                  refine ARun.qv (q_move rfl) rfl ?_
                  refine ARun.guard_df rfl rfl rfl (fun hc => ?_) (fun hc => ?_)
                  · rw [if_neg hc] at h
                    refine ARun.qv (q_move rfl) rfl ?_
                    refine ARun.guard_yes rfl rfl rfl ?_
                    refine ARun.qv (q_eql rfl rfl) rfl ?_
                    refine ARun.qv (q_pick_f rfl rfl) rfl ?_
                    refine ARun.qv (q_move rfl) rfl ?_
                    refine ARun.guard_df rfl rfl rfl (fun hc => ?_) (fun hc => ?_)
                    · rw [if_neg hc] at h
                      refine ARun.qv (q_move rfl) rfl ?_
                      refine ARun.guard_yes rfl rfl rfl ?_
                      refine ARun.qv (q_eql rfl rfl) rfl ?_
                      refine ARun.qv (q_pick_f rfl rfl) rfl ?_
                      refine ARun.qv (q_not_d rfl) rfl ?_
                      refine ARun.nil ?_
                      refine ATodo.stop ?_
                      exact ImpX.lessP (by exact ⟨rfl, rfl, rfl, rfl, True.intro⟩) (.nil) (ImpX.here ⟨decide (¬ ((c6.toNat : Int) = (95 : Int))), h, rfl⟩)
                    · rw [if_pos hc] at h
                      refine ARun.guard_no rfl rfl rfl rfl ?_
                      refine ARun.qv (q_pick_t rfl rfl) rfl ?_
                      refine ARun.qv (q_not rfl) rfl ?_
                      refine ARun.nil ?_
                      refine ATodo.stop ?_
                      exact ImpX.lessP (by exact ⟨rfl, rfl, rfl, rfl, True.intro⟩) (.nil) (ImpX.here ⟨!true, h, rfl⟩)
                  · rw [if_pos hc] at h
                    refine ARun.guard_no rfl rfl rfl rfl ?_
                    refine ARun.qv (q_pick_t rfl rfl) rfl ?_
                    refine ARun.qv (q_move rfl) rfl ?_
                    refine ARun.guard_no rfl rfl rfl rfl ?_
                    refine ARun.guard_no rfl rfl rfl rfl ?_
                    refine ARun.qv (q_pick_t rfl rfl) rfl ?_
                    refine ARun.qv (q_not rfl) rfl ?_
                    refine ARun.nil ?_
                    refine ATodo.stop ?_
                    exact ImpX.lessP (by exact ⟨rfl, rfl, rfl, rfl, True.intro⟩) (.nil) (ImpX.here ⟨!true, h, rfl⟩)
                · rw [if_neg hc] at h
                  refine ARun.guard_no rfl rfl rfl rfl ?_
                  refine ARun.guard_yes rfl rfl rfl ?_
                  refine ARun.qv (q_pick_f rfl rfl) rfl ?_
                  refine ARun.qv (q_pick_f rfl rfl) rfl ?_
                  refine ARun.qv (q_move rfl) rfl ?_
                  refine ARun.guard_yes rfl rfl rfl ?_
                  refine ARun.qv (q_move rfl) rfl ?_
                  refine ARun.guard_yes rfl rfl rfl ?_
                  refine ARun.qv (q_eql rfl rfl) rfl ?_
                  refine ARun.qv (q_pick_f rfl rfl) rfl ?_
                  refine ARun.qv (q_move rfl) rfl ?_
                  refine ARun.guard_df rfl rfl rfl (fun hc => ?_) (fun hc => ?_)
                  · rw [if_neg hc] at h
                    refine ARun.qv (q_move rfl) rfl ?_
                    refine ARun.guard_yes rfl rfl rfl ?_
                    refine ARun.qv (q_eql rfl rfl) rfl ?_
                    refine ARun.qv (q_pick_f rfl rfl) rfl ?_
                    refine ARun.qv (q_not_d rfl) rfl ?_
                    refine ARun.nil ?_
                    refine ATodo.stop ?_
                    exact ImpX.lessP (by exact ⟨rfl, rfl, rfl, rfl, True.intro⟩) (.nil) (ImpX.here ⟨decide (¬ ((c6.toNat : Int) = (95 : Int))), h, rfl⟩)
                  · rw [if_pos hc] at h
                    refine ARun.guard_no rfl rfl rfl rfl ?_
                    refine ARun.qv (q_pick_t rfl rfl) rfl ?_
                    refine ARun.qv (q_not rfl) rfl ?_
                    refine ARun.nil ?_
                    refine ATodo.stop ?_
                    exact ImpX.lessP (by exact ⟨rfl, rfl, rfl, rfl, True.intro⟩) (.nil) (ImpX.here ⟨!true, h, rfl⟩)
              · rw [if_pos hc] at h
                refine ARun.guard_no rfl rfl rfl rfl ?_
                refine ARun.guard_no rfl rfl rfl rfl ?_
                refine ARun.guard_und rfl rfl rfl ?_
                refine ARun.guard_und rfl rfl rfl ?_
                refine ARun.guard_no rfl rfl rfl rfl ?_
                refine ARun.qv (q_pick_t rfl rfl) rfl ?_
                refine ARun.qv (q_move rfl) rfl ?_
                refine ARun.guard_no rfl rfl rfl rfl ?_
                refine ARun.guard_no rfl rfl rfl rfl ?_
                refine ARun.qv (q_pick_t rfl rfl) rfl ?_
                refine ARun.qv (q_move rfl) rfl ?_
                refine ARun.guard_no rfl rfl rfl rfl ?_
                refine ARun.guard_no rfl rfl rfl rfl ?_
                refine ARun.qv (q_pick_t rfl rfl) rfl ?_
                refine ARun.qv (q_not rfl) rfl ?_
                refine ARun.nil ?_
                refine ATodo.stop ?_
                exact ImpX.lessP (by exact ⟨rfl, rfl, rfl, rfl, True.intro⟩) (.nil) (ImpX.here ⟨!true, h, rfl⟩)
            · rw [if_neg hc] at h
              refine ARun.guard_no rfl rfl rfl rfl ?_
              refine ARun.qv (q_pick_f rfl rfl) rfl ?_
              refine ARun.qv (q_move rfl) rfl ?_
              refine ARun.guard_yes rfl rfl rfl ?_
              refine ARun.qv (q_move rfl) rfl ?_
              refine ARun.guard_yes rfl rfl rfl ?_
              refine ARun.qv (q_geq rfl rfl) rfl ?_
              refine ARun.guard_yes rfl rfl rfl ?_
              refine ARun.qv (q_move rfl) rfl ?_
              refine ARun.guard_dt rfl rfl rfl (fun hc => ?_) (fun hc => ?_)
              · rw [if_pos hc] at h
                refine ARun.qv (q_move rfl) rfl ?_
                refine ARun.guard_yes rfl rfl rfl ?_
                refine ARun.qv (q_leq rfl rfl) rfl ?_
                refine ARun.guard_yes rfl rfl rfl ?_
                refine ARun.qv (q_pick_t rfl rfl) rfl ?_
                refine ARun.qv (q_pick_f rfl rfl) rfl ?_
                refine ARun.qv (q_move rfl) rfl ?_
                refine ARun.guard_df rfl rfl rfl (fun hc => ?_) (fun hc => ?_)
                · rw [if_neg hc] at h
                  refine ARun.qv (q_move rfl) rfl ?_
                  refine ARun.guard_yes rfl rfl rfl ?_
                  refine ARun.qv (q_eql rfl rfl) rfl ?_
                  refine ARun.qv (q_pick_f rfl rfl) rfl ?_
                  refine ARun.qv (q_move rfl) rfl ?_
                  refine ARun.guard_df rfl rfl rfl (fun hc => ?_) (fun hc => ?_)
                  · rw [if_neg hc] at h
                    refine ARun.qv (q_move rfl) rfl ?_
                    refine ARun.guard_yes rfl rfl rfl ?_
                    refine ARun.qv (q_eql rfl rfl) rfl ?_
                    refine ARun.qv (q_pick_f rfl rfl) rfl ?_
                    refine ARun.qv (q_not_d rfl) rfl ?_
                    refine ARun.nil ?_
                    refine ATodo.stop ?_
                    exact ImpX.lessP (by exact ⟨rfl, rfl, rfl, rfl, True.intro⟩) (.nil) (ImpX.here ⟨decide (¬ ((c6.toNat : Int) = (95 : Int))), h, rfl⟩)
                  · rw [if_pos hc] at h
                    refine ARun.guard_no rfl rfl rfl rfl ?_
                    refine ARun.qv (q_pick_t rfl rfl) rfl ?_
                    refine ARun.qv (q_not rfl) rfl ?_
                    refine ARun.nil ?_
                    refine ATodo.stop ?_
                    exact ImpX.lessP (by exact ⟨rfl, rfl, rfl, rfl, True.intro⟩) (.nil) (ImpX.here ⟨!true, h, rfl⟩)
                · rw [if_pos hc] at h
                  refine ARun.guard_no rfl rfl rfl rfl ?_
                  refine ARun.qv (q_pick_t rfl rfl) rfl ?_
                  refine ARun.qv (q_move rfl) rfl ?_
                  refine ARun.guard_no rfl rfl rfl rfl ?_
                  refine ARun.guard_no rfl rfl rfl rfl ?_
                  refine ARun.qv (q_pick_t rfl rfl) rfl ?_
                  refine ARun.qv (q_not rfl) rfl ?_
                  refine ARun.nil ?_
                  refine ATodo.stop ?_
                  exact ImpX.lessP (by exact ⟨rfl, rfl, rfl, rfl, True.intro⟩) (.nil) (ImpX.here ⟨!true, h, rfl⟩)
              · rw [if_neg hc] at h
                refine ARun.guard_no rfl rfl rfl rfl ?_
                refine ARun.guard_yes rfl rfl rfl ?_
                refine ARun.qv (q_pick_f rfl rfl) rfl ?_
                refine ARun.qv (q_pick_f rfl rfl) rfl ?_
                refine ARun.qv (q_move rfl) rfl ?_
                refine ARun.guard_yes rfl rfl rfl ?_
                refine ARun.qv (q_move rfl) rfl ?_
                refine ARun.guard_yes rfl rfl rfl ?_
                refine ARun.qv (q_eql rfl rfl) rfl ?_
                refine ARun.qv (q_pick_f rfl rfl) rfl ?_
                refine ARun.qv (q_move rfl) rfl ?_
                refine ARun.guard_df rfl rfl rfl (fun hc => ?_) (fun hc => ?_)
                · rw [if_neg hc] at h
                  refine ARun.qv (q_move rfl) rfl ?_
                  refine ARun.guard_yes rfl rfl rfl ?_
                  refine ARun.qv (q_eql rfl rfl) rfl ?_
                  refine ARun.qv (q_pick_f rfl rfl) rfl ?_
                  refine ARun.qv (q_not_d rfl) rfl ?_
                  refine ARun.nil ?_
                  refine ATodo.stop ?_
                  exact ImpX.lessP (by exact ⟨rfl, rfl, rfl, rfl, True.intro⟩) (.nil) (ImpX.here ⟨decide (¬ ((c6.toNat : Int) = (95 : Int))), h, rfl⟩)
                · rw [if_pos hc] at h
                  refine ARun.guard_no rfl rfl rfl rfl ?_
                  refine ARun.qv (q_pick_t rfl rfl) rfl ?_
                  refine ARun.qv (q_not rfl) rfl ?_
                  refine ARun.nil ?_
                  refine ATodo.stop ?_
                  exact ImpX.lessP (by exact ⟨rfl, rfl, rfl, rfl, True.intro⟩) (.nil) (ImpX.here ⟨!true, h, rfl⟩)
          · rintro σ' ⟨c7, h, rfl⟩
            unfold base_Key_j2 at h
            refine ATodo.cond rfl (fun hc => ?_) (fun hc => ?_)
            · replace h := iteT hc h
              refine ATodo.seq ?_
              refine ATodo.region ?_
              refine ARun.qv (q_assign rfl) rfl ?_
              refine ARun.nil ?_
              refine ATodo.ret ?_
              replace h := outL h hA1
              obtain rfl := Option.some.inj h
              exact ImpX.here ⟨_, .cons (.tmp _ _ rfl) .nil, rfl⟩
            · replace h := iteFb hc h
              refine ATodo.skip ?_
              refine ATodo.blk ?_
              refine ATodo.region ?_
              refine ARun.qv (q_addw rfl rfl) rfl ?_
              refine ARun.qv (q_move rfl) rfl ?_
              refine ARun.nil ?_
              refine ATodo.stop ?_
              obtain rfl := Option.some.inj h
              refine hJ1 _ _ rfl ?_
              exact ImpX.lessP (by exact ⟨rfl, rfl, rfl, True.intro⟩) (.nil) (ImpX.here rfl)
        · replace h := iteF hc h
          refine ATodo.exit rfl ?_
          replace h := outL h hA1
          refine ATodo.seq ?_
          refine ATodo.region ?_
          refine ARun.qv (q_assign rfl) rfl ?_
          refine ARun.nil ?_
          refine ATodo.ret ?_
          obtain rfl := Option.some.inj h
          exact ImpX.here ⟨_, .cons (.tmp _ _ rfl) .nil, rfl⟩

set_option maxHeartbeats 4000000 in
theorem base_Out_c {p0x0 : Int} {p1x0 : Int} {p2x0 : Int} {r : Bool} (h : base_Out p0x0 p1x0 p2x0 = r) : Pu Try.prog 109 [I p0x0, I p1x0, I p2x0] (.bool r) := by
  unfold base_Out at h
  refine ACall.bodyN Try.func109 rfl Try.ntmps109 Try.results109 rfl rfl ?_
  refine ATodo.seq ?_
  refine ATodo.region ?_
  refine ARun.qv (q_assign rfl) rfl ?_
  refine ARun.nil ?_
  refine ATodo.seq ?_
  refine ATodo.cut (fun σ' => ∃ (c1 : Bool), base_Out_j1 c1 = r ∧ σ' = ⟨15, [(6, .bool c1)], []⟩) ?_ ?_
  · refine ATodo.region ?_
    refine ARun.qv (q_move rfl) rfl ?_
    refine ARun.qv (q_move rfl) rfl ?_
    refine ARun.qv (q_lss rfl rfl) rfl ?_
    refine ARun.qv (q_move rfl) rfl ?_
    refine ARun.guard_df rfl rfl rfl (fun hc => ?_) (fun hc => ?_)
    · rw [orFd hc] at h
      refine ARun.qv (q_move rfl) rfl ?_
      refine ARun.guard_yes rfl rfl rfl ?_
      refine ARun.qv (q_move rfl) rfl ?_
      refine ARun.guard_yes rfl rfl rfl ?_
      refine ARun.qv (q_gtr rfl rfl) rfl ?_
      refine ARun.qv (q_pick_f rfl rfl) rfl ?_
      refine ARun.qv (q_assign rfl) rfl ?_
      refine ARun.nil ?_
      refine ATodo.stop ?_
      exact ImpX.lessP (by exact ⟨rfl, True.intro⟩) (.nil) (ImpX.here ⟨decide (p2x0 < p0x0), h, rfl⟩)
    · rw [orTd hc] at h
      refine ARun.guard_no rfl rfl rfl rfl ?_
      refine ARun.guard_no rfl rfl rfl rfl ?_
      refine ARun.qv (q_pick_t rfl rfl) rfl ?_
      refine ARun.qv (q_assign rfl) rfl ?_
      refine ARun.nil ?_
      refine ATodo.stop ?_
      exact ImpX.lessP (by exact ⟨rfl, True.intro⟩) (.nil) (ImpX.here ⟨true, h, rfl⟩)
  · rintro σ' ⟨c1, h, rfl⟩
    unfold base_Out_j1 at h
    refine ATodo.ret ?_
    obtain rfl := h
    exact ImpX.here ⟨_, .cons (.tmp _ _ rfl) .nil, rfl⟩

set_option maxHeartbeats 4000000 in
theorem base_Moment_c {p0x0 : Int} {r : Bool} (h : base_Moment p0x0 = r) : Pu Try.prog 127 [I p0x0] (.bool r) := by
  unfold base_Moment at h
  refine ACall.bodyN Try.func127 rfl Try.ntmps127 Try.results127 rfl rfl ?_
  refine ATodo.seq ?_
  refine ATodo.region ?_
  refine ARun.qv (q_assign rfl) rfl ?_
  refine ARun.nil ?_
  refine ATodo.seq ?_
  refine ATodo.region ?_
  refine ARun.qv (q_move rfl) rfl ?_
  refine r_callp rfl (base_Out_c rfl) (CoL.refl _) rfl ?_
  refine ARun.qv (q_not rfl) rfl ?_
  refine ARun.qv (q_assign rfl) rfl ?_
  refine ARun.nil ?_
  refine ATodo.ret ?_
  obtain rfl := h
  exact ImpX.here ⟨_, .cons (.tmp _ _ rfl) .nil, rfl⟩

set_option maxHeartbeats 4000000 in
theorem place_spot_c {p0x0 : Fix} {r : Spot} (h : place_spot p0x0 = r) : Pu Try.prog 111 [.agg [.str p0x0.Device, I p0x0.At, I p0x0.X, I p0x0.Y, I p0x0.Error]] (.agg [I r.X, I r.Y]) := by
  unfold place_spot at h
  refine ACall.bodyN Try.func111 rfl Try.ntmps111 Try.results111 rfl rfl ?_
  refine ATodo.seq ?_
  refine ATodo.region ?_
  refine n_box rfl rfl rfl rfl (fun b1 => ?_)
  refine n_alloc rfl rfl rfl rfl (fun b2 => ?_)
  refine ARun.nil ?_
  refine ATodo.seq ?_
  refine ATodo.region ?_
  refine ARun.qv (n_field_ptr rfl rfl) rfl ?_
  refine ARun.qv (q_load_ptr rfl rfl (.next .here) rfl) rfl ?_
  refine ARun.qv (n_field_ptr rfl rfl) rfl ?_
  refine ARun.qv (q_load_ptr rfl rfl (.next .here) rfl) rfl ?_
  refine ARun.qv (n_build rfl rfl rfl rfl rfl) rfl ?_
  refine n_store_ptr rfl rfl rfl rfl .here rfl rfl ?_
  refine ARun.nil ?_
  refine ATodo.ret ?_
  obtain rfl := h
  exact ImpX.here ⟨_, .cons (.all _ _ _ _ _ _ rfl .here TUnder.h TInfo.h rfl rfl) .nil, rfl⟩

set_option maxHeartbeats 4000000 in
theorem place_isSpot_c {p0x0 : Spot} {r : Bool} (h : place_isSpot p0x0 = r) : Pu Try.prog 128 [.agg [I p0x0.X, I p0x0.Y]] (.bool r) := by
  unfold place_isSpot at h
  refine ACall.bodyN Try.func128 rfl Try.ntmps128 Try.results128 rfl rfl ?_
  refine ATodo.seq ?_
  refine ATodo.region ?_
  refine n_box rfl rfl rfl rfl (fun b1 => ?_)
  refine ARun.qv (q_assign rfl) rfl ?_
  refine ARun.nil ?_
  refine ATodo.seq ?_
  refine ATodo.cut (fun σ' => ∃ (c2 : Bool), place_isSpot_j1 c2 = r ∧ σ' = ⟨13, [(2, .bool c2)], []⟩) ?_ ?_
  · refine ATodo.region ?_
    refine ARun.qv (n_field_ptr rfl rfl) rfl ?_
    refine ARun.qv (q_load_ptr rfl rfl .here rfl) rfl ?_
    refine r_callp rfl (base_Out_c rfl) (CoL.refl _) rfl ?_
    refine ARun.qv (q_not rfl) rfl ?_
    refine ARun.qv (q_move rfl) rfl ?_
    refine ARun.guard rfl rfl rfl (fun hc => ?_) (fun hc => ?_)
    · rw [andTb hc] at h
      refine ARun.qv (n_field_ptr rfl rfl) rfl ?_
      refine ARun.guard_yes rfl rfl rfl ?_
      refine ARun.qv (q_load_ptr rfl rfl .here rfl) rfl ?_
      refine ARun.guard_yes rfl rfl rfl ?_
      refine r_callp rfl (base_Out_c rfl) (CoL.refl _) rfl ?_
      refine ARun.guard_yes rfl rfl rfl ?_
      refine ARun.qv (q_not rfl) rfl ?_
      refine ARun.qv (q_pick_t rfl rfl) rfl ?_
      refine ARun.qv (q_assign rfl) rfl ?_
      refine ARun.nil ?_
      refine ATodo.stop ?_
      exact ImpX.lessP (by exact ⟨rfl, True.intro⟩) (.nil) (ImpX.here ⟨!(base_Out p0x0.Y (-10000 : Int) (10000 : Int)), h, rfl⟩)
    · rw [andFb hc] at h
      refine ARun.guard_no rfl rfl rfl rfl ?_
      refine ARun.guard_no rfl rfl rfl rfl ?_
      refine ARun.guard_no rfl rfl rfl rfl ?_
      refine ARun.qv (q_pick_f rfl rfl) rfl ?_
      refine ARun.qv (q_assign rfl) rfl ?_
      refine ARun.nil ?_
      refine ATodo.stop ?_
      exact ImpX.lessP (by exact ⟨rfl, True.intro⟩) (.nil) (ImpX.here ⟨false, h, rfl⟩)
  · rintro σ' ⟨c2, h, rfl⟩
    unfold place_isSpot_j1 at h
    refine ATodo.ret ?_
    obtain rfl := h
    exact ImpX.here ⟨_, .cons (.tmp _ _ rfl) .nil, rfl⟩

set_option maxHeartbeats 4000000 in
theorem cmp_isNaN_int_c {p0x0 : Int} {r : Bool} (h : cmp_isNaN_int p0x0 = r) : Pu Try.prog 232 [I p0x0] (.bool r) := by
  unfold cmp_isNaN_int at h
  refine ACall.bodyN Try.func232 rfl Try.ntmps232 Try.results232 rfl rfl ?_
  refine ATodo.seq ?_
  refine ATodo.region ?_
  refine ARun.qv (q_assign rfl) rfl ?_
  refine ARun.nil ?_
  refine ATodo.seq ?_
  refine ATodo.region ?_
  refine ARun.qv (q_move rfl) rfl ?_
  refine ARun.qv (q_move rfl) rfl ?_
  refine ARun.qv (q_neq rfl rfl) rfl ?_
  refine ARun.qv (q_assign rfl) rfl ?_
  refine ARun.nil ?_
  refine ATodo.ret ?_
  obtain rfl := h
  exact ImpX.here ⟨_, .cons (.tmp _ _ rfl) .nil, rfl⟩

set_option maxHeartbeats 4000000 in
theorem cmp_Compare_int_c {p0x0 : Int} {p1x0 : Int} {r : Int} (h : cmp_Compare_int p0x0 p1x0 = r) : Pu Try.prog 197 [I p0x0, I p1x0] (I r) := by
  unfold cmp_Compare_int at h
  refine ACall.bodyN Try.func197 rfl Try.ntmps197 Try.results197 rfl rfl ?_
  refine ATodo.seq ?_
  refine ATodo.region ?_
  refine ARun.qv (q_assign rfl) rfl ?_
  refine ARun.nil ?_
  refine ATodo.seq ?_
  refine ATodo.region ?_
  refine ARun.qv (q_move rfl) rfl ?_
  refine r_callp rfl (cmp_isNaN_int_c rfl) (CoL.refl _) rfl ?_
  refine ARun.qv (q_assign rfl) rfl ?_
  refine ARun.nil ?_
  refine ATodo.seq ?_
  refine ATodo.region ?_
  refine ARun.qv (q_move rfl) rfl ?_
  refine r_callp rfl (cmp_isNaN_int_c rfl) (CoL.refl _) rfl ?_
  refine ARun.qv (q_assign rfl) rfl ?_
  refine ARun.nil ?_
  refine ATodo.seq ?_
  refine ATodo.seq ?_
  refine ATodo.region ?_
  refine ARun.qv (q_move rfl) rfl ?_
  refine ARun.nil ?_
  refine ATodo.cond rfl (fun hc => ?_) (fun hc => ?_)
  · replace h := iteT hc h
    refine ATodo.seq ?_
    refine ATodo.seq ?_
    refine ATodo.region ?_
    refine ARun.qv (q_move rfl) rfl ?_
    refine ARun.nil ?_
    refine ATodo.cond rfl (fun hc => ?_) (fun hc => ?_)
    · replace h := iteT hc h
      refine ATodo.seq ?_
      refine ATodo.region ?_
      refine ARun.qv (q_assign rfl) rfl ?_
      refine ARun.nil ?_
      refine ATodo.ret ?_
      obtain rfl := h
      exact ImpX.here ⟨_, .cons (.tmp _ _ rfl) .nil, rfl⟩
    · replace h := iteFb hc h
      refine ATodo.skip ?_
      refine ATodo.seq ?_
      refine ATodo.region ?_
      refine ARun.qv (q_assign rfl) rfl ?_
      refine ARun.nil ?_
      refine ATodo.ret ?_
      obtain rfl := h
      exact ImpX.here ⟨_, .cons (.tmp _ _ rfl) .nil, rfl⟩
  · replace h := iteFb hc h
    refine ATodo.skip ?_
    refine ATodo.seq ?_
    refine ATodo.seq ?_
    refine ATodo.region ?_
    refine ARun.qv (q_move rfl) rfl ?_
    refine ARun.nil ?_
    refine ATodo.cond rfl (fun hc => ?_) (fun hc => ?_)
    · replace h := iteT hc h
      refine ATodo.seq ?_
      refine ATodo.region ?_
      refine ARun.qv (q_assign rfl) rfl ?_
      refine ARun.nil ?_
      refine ATodo.ret ?_
      obtain rfl := h
      exact ImpX.here ⟨_, .cons (.tmp _ _ rfl) .nil, rfl⟩
    · replace h := iteFb hc h
      refine ATodo.skip ?_
      refine ATodo.seq ?_
      refine ATodo.seq ?_
      refine ATodo.region ?_
      refine ARun.qv (q_move rfl) rfl ?_
      refine ARun.qv (q_move rfl) rfl ?_
      refine ARun.qv (q_lss rfl rfl) rfl ?_
      refine ARun.nil ?_
      refine ATodo.cond_d rfl (fun hc => ?_) (fun hc => ?_)
      · replace h := iteT hc h
        refine ATodo.seq ?_
        refine ATodo.region ?_
        refine ARun.qv (q_assign rfl) rfl ?_
        refine ARun.nil ?_
        refine ATodo.ret ?_
        obtain rfl := h
        exact ImpX.here ⟨_, .cons (.tmp _ _ rfl) .nil, rfl⟩
      · replace h := iteF hc h
        refine ATodo.skip ?_
        refine ATodo.seq ?_
        refine ATodo.seq ?_
        refine ATodo.region ?_
        refine ARun.qv (q_move rfl) rfl ?_
        refine ARun.qv (q_move rfl) rfl ?_
        refine ARun.qv (q_gtr rfl rfl) rfl ?_
        refine ARun.nil ?_
        refine ATodo.cond_d rfl (fun hc => ?_) (fun hc => ?_)
        · replace h := iteT hc h
          refine ATodo.seq ?_
          refine ATodo.region ?_
          refine ARun.qv (q_assign rfl) rfl ?_
          refine ARun.nil ?_
          refine ATodo.ret ?_
          obtain rfl := h
          exact ImpX.here ⟨_, .cons (.tmp _ _ rfl) .nil, rfl⟩
        · replace h := iteF hc h
          refine ATodo.skip ?_
          refine ATodo.seq ?_
          refine ATodo.region ?_
          refine ARun.qv (q_assign rfl) rfl ?_
          refine ARun.nil ?_
          refine ATodo.ret ?_
          obtain rfl := h
          exact ImpX.here ⟨_, .cons (.tmp _ _ rfl) .nil, rfl⟩

set_option maxHeartbeats 4000000 in
theorem cmp_Or_int_c {p0x0 : List Int} {r : Int} (h : cmp_Or_int p0x0 = some r) : Pu Try.prog 196 [.list 1 (p0x0.map I)] (I r) := by
  unfold cmp_Or_int at h
  refine ACall.bodyN Try.func196 rfl Try.ntmps196 Try.results196 rfl rfl ?_
  refine ATodo.seq ?_
  refine ATodo.region ?_
  refine ARun.qv (q_assign rfl) rfl ?_
  refine ARun.nil ?_
  refine ATodo.seq ?_
  refine ATodo.region ?_
  refine ARun.qv (q_assign rfl) rfl ?_
  refine ARun.nil ?_
  refine ATodo.seq ?_
  refine ATodo.seq ?_
  refine ATodo.region ?_
  refine ARun.qv (q_move rfl) rfl ?_
  refine ARun.qv (t_len rfl) rfl ?_
  refine ARun.qv (q_move rfl) rfl ?_
  refine ARun.nil ?_
  refine ATodo.block ?_
  refine ATodo.loopI (fun x : Int => cmp_Or_int_b1 p0x0 x) (fun x σ' => σ' = ⟨18, [(3, I (0 : Int)), (6, .list 1 (p0x0.map I)), (7, I (p0x0.length : Int)), (8, I x)], []⟩) h ?_ ?_
  · exact ImpX.lessP (by exact ⟨rfl, rfl, rfl, rfl, True.intro⟩) (.nil) (ImpX.here rfl)
  · intro n2 z1 σ' J1 hmk h hJ1 hA1
    obtain rfl := hmk
    replace h : cmp_Or_int_b1 p0x0 n2 = some z1 := h
    unfold cmp_Or_int_b1 at h
    refine ATodo.seq ?_
    refine ATodo.region ?_
    refine ARun.qv (q_lss rfl rfl) rfl ?_
    refine ARun.nil ?_
    refine ATodo.seq ?_
    refine ATodo.cond_d rfl (fun hc => ?_) (fun hc => ?_)
    · replace h := iteT hc h
      refine ATodo.skip ?_
      refine ATodo.seq ?_
      refine ATodo.block ?_
      refine ATodo.seq ?_
      refine ATodo.region ?_
      obtain ⟨v3, e1, h⟩ := bnd h
      refine ARun.qv (t_index rfl rfl rfl e1 rfl rfl) rfl ?_
      refine ARun.qv (q_load_rptr rfl rfl rfl) rfl ?_
      refine ARun.qv (q_assign rfl) rfl ?_
      refine ARun.nil ?_
      refine ATodo.seq ?_
      refine ATodo.region ?_
      refine ARun.qv (q_move rfl) rfl ?_
      refine ARun.qv (q_move rfl) rfl ?_
      refine ARun.qv (q_neq rfl rfl) rfl ?_
      refine ARun.nil ?_
      refine ATodo.cond_d rfl (fun hc => ?_) (fun hc => ?_)
      · replace h := iteT hc h
        refine ATodo.seq ?_
        refine ATodo.region ?_
        refine ARun.qv (q_move rfl) rfl ?_
        refine ARun.qv (q_assign rfl) rfl ?_
        refine ARun.nil ?_
        refine ATodo.ret ?_
        replace h := outL h hA1
        obtain rfl := Option.some.inj h
        exact ImpX.here ⟨_, .cons (.tmp _ _ rfl) .nil, rfl⟩
      · replace h := iteF hc h
        refine ATodo.skip ?_
        refine ATodo.blk ?_
        refine ATodo.region ?_
        refine ARun.qv (q_addw rfl rfl) rfl ?_
        refine ARun.qv (q_move rfl) rfl ?_
        refine ARun.nil ?_
        refine ATodo.stop ?_
        obtain rfl := Option.some.inj h
        refine hJ1 _ _ rfl ?_
        exact ImpX.lessP (by exact ⟨rfl, rfl, rfl, rfl, True.intro⟩) (.nil) (ImpX.here rfl)
    · replace h := iteF hc h
      refine ATodo.exit rfl ?_
      replace h := outL h hA1
      refine ATodo.seq ?_
      refine ATodo.region ?_
      refine ARun.qv (q_move rfl) rfl ?_
      refine ARun.qv (q_assign rfl) rfl ?_
      refine ARun.nil ?_
      refine ATodo.ret ?_
      obtain rfl := Option.some.inj h
      exact ImpX.here ⟨_, .cons (.tmp _ _ rfl) .nil, rfl⟩

set_option maxHeartbeats 4000000 in
theorem place_byDevice_c {p0x0 : Fix} {p1x0 : Fix} {r : Int} (h : place_byDevice p0x0 p1x0 = some r) : Pu Try.prog 124 [.agg [.str p0x0.Device, I p0x0.At, I p0x0.X, I p0x0.Y, I p0x0.Error], .agg [.str p1x0.Device, I p1x0.At, I p1x0.X, I p1x0.Y, I p1x0.Error]] (I r) := by
  unfold place_byDevice at h
  refine ACall.bodyN Try.func124 rfl Try.ntmps124 Try.results124 rfl rfl ?_
  refine ATodo.seq ?_
  refine ATodo.region ?_
  refine n_box rfl rfl rfl rfl (fun b1 => ?_)
  refine n_box rfl rfl rfl rfl (fun b2 => ?_)
  refine ARun.qv (q_assign rfl) rfl ?_
  refine ARun.nil ?_
  refine ATodo.seq ?_
  refine ATodo.regionM (id := 1) (A := [0, 1, 0, 4, 15, 0, 32, 0, 128, 511, 1023, 2047, 4095]) 13 mixed rfl (by kernel_rfl) (by kernel_rfl) ?_
  refine AM.qv (n_field_ptr rfl rfl) rfl ?_
  refine AM.qv (q_load_ptr rfl rfl (.next .here) rfl) rfl ?_
  refine AM.qv (n_field_ptr rfl rfl) rfl ?_
  refine AM.qv (q_load_ptr rfl rfl .here rfl) rfl ?_
  refine AM.callp rfl (strings_Compare_c rfl) (CoL.refl _) rfl ?_
  refine AM.qv (n_field_ptr rfl rfl) rfl ?_
  refine AM.qv (q_load_ptr rfl rfl (.next .here) rfl) rfl ?_
  refine AM.qv (n_field_ptr rfl rfl) rfl ?_
  refine AM.qv (q_load_ptr rfl rfl .here rfl) rfl ?_
  refine AM.callp rfl (cmp_Compare_int_c rfl) (CoL.refl _) rfl ?_
  refine AM.buildSliceL (xs := ([(Lib.compareBytes p0x0.Device p1x0.Device), (cmp_Compare_int p0x0.At p1x0.At)] : List Int).map I) rfl rfl rfl rfl rfl rfl ?_
  obtain ⟨v3, e1, h⟩ := bnd h
  refine AM.callp rfl (cmp_Or_int_c e1) (CoL.refl _) rfl ?_
  refine AM.qv (q_assign rfl) rfl ?_
  refine AM.nil ?_
  refine ARun.nil ?_
  refine ATodo.ret ?_
  obtain rfl := Option.some.inj h
  exact ImpX.here ⟨_, .cons (.tmp _ _ rfl) .nil, rfl⟩

set_option maxHeartbeats 4000000 in
theorem place_CheckFixes_c {p0x0 : List Fix} {r : Int} (h : place_CheckFixes p0x0 = some r) : Pu Try.prog 43 [.list 5 (p0x0.map Fix.av)] (I r) := by
  unfold place_CheckFixes at h
  refine ACall.bodyN Try.func43 rfl Try.ntmps43 Try.results43 rfl rfl ?_
  refine ATodo.seq ?_
  refine ATodo.region ?_
  refine ARun.qv (q_assign rfl) rfl ?_
  refine ARun.nil ?_
  refine ATodo.seq ?_
  refine ATodo.seq ?_
  refine ATodo.region ?_
  refine ARun.qv (q_move rfl) rfl ?_
  refine ARun.qv (t_len rfl) rfl ?_
  refine ARun.qv (q_gtr rfl rfl) rfl ?_
  refine ARun.nil ?_
  refine ATodo.cond_d rfl (fun hc => ?_) (fun hc => ?_)
  · replace h := iteT hc h
    refine ATodo.seq ?_
    refine ATodo.region ?_
    refine ARun.qv (q_assign rfl) rfl ?_
    refine ARun.nil ?_
    refine ATodo.ret ?_
    obtain rfl := Option.some.inj h
    exact ImpX.here ⟨_, .cons (.tmp _ _ rfl) .nil, rfl⟩
  · replace h := iteF hc h
    refine ATodo.skip ?_
    refine ATodo.seq ?_
    refine ATodo.seq ?_
    refine ATodo.region ?_
    refine ARun.qv (q_move rfl) rfl ?_
    refine ARun.qv (t_len rfl) rfl ?_
    refine ARun.qv (q_move rfl) rfl ?_
    refine ARun.nil ?_
    refine ATodo.block ?_
    refine ATodo.loopI (fun x : Int => place_CheckFixes_b1 p0x0 x) (fun x σ' => σ' = ⟨50, [(0, .list 5 (p0x0.map Fix.av)), (8, .list 5 (p0x0.map Fix.av)), (9, I (p0x0.length : Int)), (10, I x)], []⟩) h ?_ ?_
    · exact ImpX.lessP (by exact ⟨rfl, rfl, rfl, rfl, True.intro⟩) (.nil) (ImpX.here rfl)
    · intro n2 z1 σ' J1 hmk h hJ1 hA1
      obtain rfl := hmk
      replace h : place_CheckFixes_b1 p0x0 n2 = some z1 := h
      unfold place_CheckFixes_b1 at h
      refine ATodo.seq ?_
      refine ATodo.region ?_
      refine ARun.qv (q_lss rfl rfl) rfl ?_
      refine ARun.nil ?_
      refine ATodo.seq ?_
      refine ATodo.cond_d rfl (fun hc => ?_) (fun hc => ?_)
      · replace h := iteT hc h
        refine ATodo.skip ?_
        refine ATodo.seq ?_
        refine ATodo.block ?_
        refine ATodo.seq ?_
        refine ATodo.region ?_
        refine ARun.qv (q_move rfl) rfl ?_
        obtain ⟨v3, e1, h⟩ := bnd h
        refine ARun.qv (t_index rfl rfl rfl e1 rfl rfl) rfl ?_
        refine ARun.qv (q_load_rptr_agg rfl rfl rfl) rfl ?_
        refine n_alloc rfl rfl rfl rfl (fun b4 => ?_)
        refine ARun.qv (q_assign rfl) rfl ?_
        refine n_store_ptr rfl rfl rfl rfl .here rfl rfl ?_
        refine ARun.nil ?_
        refine ATodo.block ?_
        refine ATodo.seq ?_
        refine ATodo.region ?_
        refine ARun.qv (n_field_ptr rfl rfl) rfl ?_
        refine ARun.qv (q_load_ptr rfl rfl .here rfl) rfl ?_
        obtain ⟨v5, e2, h⟩ := bnd h
        refine r_callp rfl (base_Key_c e2) (CoL.refl _) rfl ?_
        refine ARun.qv (q_not rfl) rfl ?_
        refine ARun.qv (q_assign rfl) rfl ?_
        refine ARun.nil ?_
        refine ATodo.cond rfl (fun hc => ?_) (fun hc => ?_)
        · replace h := iteT hc h
          refine ATodo.seq ?_
          refine ATodo.region ?_
          refine ARun.qv (q_assign rfl) rfl ?_
          refine ARun.nil ?_
          refine ATodo.ret ?_
          replace h := outL h hA1
          obtain rfl := Option.some.inj h
          exact ImpX.here ⟨_, .cons (.tmp _ _ rfl) .nil, rfl⟩
        · replace h := iteFb hc h
          refine ATodo.seq ?_
          refine ATodo.cut (fun σ' => ∃ (c6 : Bool), place_CheckFixes_j1 p0x0 n2 v3 c6 = some z1 ∧ σ' = ⟨50, [(0, .list 5 (p0x0.map Fix.av)), (3, I n2), (4, .ptr b4 0), (8, .list 5 (p0x0.map Fix.av)), (9, I (p0x0.length : Int)), (10, I n2), (20, .bool c6)], [(b4, .cells [.str v3.Device, I v3.At, I v3.X, I v3.Y, I v3.Error])]⟩) ?_ ?_
          · refine ATodo.region ?_
            refine ARun.qv (n_field_ptr rfl rfl) rfl ?_
            refine ARun.qv (q_load_ptr rfl rfl .here rfl) rfl ?_
            refine r_callp rfl (base_Moment_c rfl) (CoL.refl _) rfl ?_
            refine ARun.qv (q_not rfl) rfl ?_
            refine ARun.qv (q_move rfl) rfl ?_
            refine ARun.guard rfl rfl rfl (fun hc => ?_) (fun hc => ?_)
            · rw [orFb hc] at h
              refine ARun.qv (q_load_ptr_all rfl rfl .here rfl) rfl ?_
              refine ARun.guard_yes rfl rfl rfl ?_
              refine r_callp rfl (place_spot_c rfl) (CoL.refl _) rfl ?_
              refine ARun.guard_yes rfl rfl rfl ?_
              refine r_callp rfl (place_isSpot_c rfl) (CoL.refl _) rfl ?_
              refine ARun.guard_yes rfl rfl rfl ?_
              refine ARun.qv (q_not rfl) rfl ?_
              refine ARun.qv (q_pick_f rfl rfl) rfl ?_
              refine ARun.qv (q_move rfl) rfl ?_
              refine ARun.guard rfl rfl rfl (fun hc => ?_) (fun hc => ?_)
              · rw [orFb hc] at h
                refine ARun.qv (n_field_ptr rfl rfl) rfl ?_
                refine ARun.guard_yes rfl rfl rfl ?_
                refine ARun.qv (q_load_ptr rfl rfl .here rfl) rfl ?_
                refine ARun.guard_yes rfl rfl rfl ?_
                refine r_callp rfl (base_Out_c rfl) (CoL.refl _) rfl ?_
                refine ARun.qv (q_pick_f rfl rfl) rfl ?_
                refine ARun.qv (q_assign rfl) rfl ?_
                refine ARun.nil ?_
                refine ATodo.stop ?_
                exact ImpX.lessP (by exact ⟨rfl, rfl, rfl, rfl, rfl, rfl, rfl, True.intro⟩) (.cons .here .nil) (ImpX.here ⟨(base_Out v3.Error (0 : Int) (10000 : Int)), h, rfl⟩)
              · rw [orTb hc] at h
                refine ARun.guard_no rfl rfl rfl rfl ?_
                refine ARun.guard_no rfl rfl rfl rfl ?_
                refine ARun.qv (q_pick_t rfl rfl) rfl ?_
                refine ARun.qv (q_assign rfl) rfl ?_
                refine ARun.nil ?_
                refine ATodo.stop ?_
                exact ImpX.lessP (by exact ⟨rfl, rfl, rfl, rfl, rfl, rfl, rfl, True.intro⟩) (.cons .here .nil) (ImpX.here ⟨true, h, rfl⟩)
            · rw [orTb hc] at h
              refine ARun.guard_no rfl rfl rfl rfl ?_
              refine ARun.guard_no rfl rfl rfl rfl ?_
              refine ARun.guard_no rfl rfl rfl rfl ?_
              refine ARun.qv (q_pick_t rfl rfl) rfl ?_
              refine ARun.qv (q_move rfl) rfl ?_
              refine ARun.guard_no rfl rfl rfl rfl ?_
              refine ARun.guard_no rfl rfl rfl rfl ?_
              refine ARun.guard_no rfl rfl rfl rfl ?_
              refine ARun.qv (q_pick_t rfl rfl) rfl ?_
              refine ARun.qv (q_assign rfl) rfl ?_
              refine ARun.nil ?_
              refine ATodo.stop ?_
              exact ImpX.lessP (by exact ⟨rfl, rfl, rfl, rfl, rfl, rfl, rfl, True.intro⟩) (.cons .here .nil) (ImpX.here ⟨true, h, rfl⟩)
          · rintro σ' ⟨c6, h, rfl⟩
            unfold place_CheckFixes_j1 at h
            refine ATodo.cond rfl (fun hc => ?_) (fun hc => ?_)
            · replace h := iteT hc h
              refine ATodo.seq ?_
              refine ATodo.region ?_
              refine ARun.qv (q_assign rfl) rfl ?_
              refine ARun.nil ?_
              refine ATodo.ret ?_
              replace h := outL h hA1
              obtain rfl := Option.some.inj h
              exact ImpX.here ⟨_, .cons (.tmp _ _ rfl) .nil, rfl⟩
            · replace h := iteFb hc h
              refine ATodo.seq ?_
              refine ATodo.cut (fun σ' => ∃ (c7 : Bool), place_CheckFixes_j2 n2 c7 = some z1 ∧ σ' = ⟨50, [(0, .list 5 (p0x0.map Fix.av)), (8, .list 5 (p0x0.map Fix.av)), (9, I (p0x0.length : Int)), (10, I n2), (36, .bool c7)], []⟩) ?_ ?_
              · refine ATodo.regionM (id := 10) (A := [0, 1, 3, 7, 7, 7, 39, 119, 247, 511, 1023, 2047, 4095]) 13 mixed rfl (by kernel_rfl) (by kernel_rfl) ?_
                refine AM.qv (q_move rfl) rfl ?_
                refine AM.qv (q_gtr rfl rfl) rfl ?_
                refine AM.qv (q_move rfl) rfl ?_
                refine AM.guard_dt rfl rfl rfl (fun hc => ?_) (fun hc => ?_)
                · replace h := iteT hc h
                  refine AM.qv (q_load_ptr_all rfl rfl .here rfl) rfl ?_
                  refine AM.guard_yes rfl rfl rfl ?_
                  refine AM.qv (q_move rfl) rfl ?_
                  refine AM.guard_yes rfl rfl rfl ?_
                  refine AM.qv (q_move rfl) rfl ?_
                  refine AM.guard_yes rfl rfl rfl ?_
                  refine AM.qv (q_subw rfl rfl) rfl ?_
                  refine AM.guard_yes rfl rfl rfl ?_
                  obtain ⟨v8, e3, h⟩ := bnd h
                  refine AM.qv (t_index rfl rfl rfl e3 rfl rfl) rfl ?_
                  refine AM.guard_yes rfl rfl rfl ?_
                  refine AM.qv (q_load_rptr_agg rfl rfl rfl) rfl ?_
                  refine AM.guard_yes rfl rfl rfl ?_
                  obtain ⟨v9, e4, h⟩ := bnd h
                  refine AM.callp rfl (place_byDevice_c e4) (CoL.refl _) rfl ?_
                  refine AM.guard_yes rfl rfl rfl ?_
                  refine AM.qv (q_leq rfl rfl) rfl ?_
                  refine AM.qv (q_pick_t rfl rfl) rfl ?_
                  refine AM.qv (q_assign rfl) rfl ?_
                  refine AM.nil ?_
                  refine ARun.nil ?_
                  refine ATodo.stop ?_
                  exact ImpX.lessP (by exact ⟨rfl, rfl, rfl, rfl, rfl, True.intro⟩) (.nil) (ImpX.here ⟨decide (v9 ≤ (0 : Int)), h, rfl⟩)
                · replace h := iteF hc h
                  refine AM.guard_no rfl rfl rfl rfl ?_
                  refine AM.guard_no rfl rfl rfl rfl ?_
                  refine AM.guard_no rfl rfl rfl rfl ?_
                  refine AM.guard_no rfl rfl rfl rfl ?_
                  refine AM.guard_no rfl rfl rfl rfl ?_
                  refine AM.guard_no rfl rfl rfl rfl ?_
                  refine AM.guard_no rfl rfl rfl rfl ?_
                  refine AM.qv (q_pick_f rfl rfl) rfl ?_
                  refine AM.qv (q_assign rfl) rfl ?_
                  refine AM.nil ?_
                  refine ARun.nil ?_
                  refine ATodo.stop ?_
                  exact ImpX.lessP (by exact ⟨rfl, rfl, rfl, rfl, rfl, True.intro⟩) (.nil) (ImpX.here ⟨false, h, rfl⟩)
              · rintro σ' ⟨c7, h, rfl⟩
                unfold place_CheckFixes_j2 at h
                refine ATodo.cond rfl (fun hc => ?_) (fun hc => ?_)
                · replace h := iteT hc h
                  refine ATodo.seq ?_
                  refine ATodo.region ?_
                  refine ARun.qv (q_assign rfl) rfl ?_
                  refine ARun.nil ?_
                  refine ATodo.ret ?_
                  replace h := outL h hA1
                  obtain rfl := Option.some.inj h
                  exact ImpX.here ⟨_, .cons (.tmp _ _ rfl) .nil, rfl⟩
                · replace h := iteFb hc h
                  refine ATodo.skip ?_
                  refine ATodo.blk ?_
                  refine ATodo.blk ?_
                  refine ATodo.region ?_
                  refine ARun.qv (q_addw rfl rfl) rfl ?_
                  refine ARun.qv (q_move rfl) rfl ?_
                  refine ARun.nil ?_
                  refine ATodo.stop ?_
                  obtain rfl := Option.some.inj h
                  refine hJ1 _ _ rfl ?_
                  exact ImpX.lessP (by exact ⟨rfl, rfl, rfl, rfl, True.intro⟩) (.nil) (ImpX.here rfl)
      · replace h := iteF hc h
        refine ATodo.exit rfl ?_
        replace h := outL h hA1
        refine ATodo.seq ?_
        refine ATodo.region ?_
        refine ARun.qv (q_assign rfl) rfl ?_
        refine ARun.nil ?_
        refine ATodo.ret ?_
        obtain rfl := Option.some.inj h
        exact ImpX.here ⟨_, .cons (.tmp _ _ rfl) .nil, rfl⟩

set_option maxHeartbeats 4000000 in
theorem base_First_c {p0x0 : List Int} {r : Int} (h : base_First p0x0 = some r) : Pu Try.prog 94 [.list 1 (p0x0.map I)] (I r) := by
  unfold base_First at h
  refine ACall.bodyN Try.func94 rfl Try.ntmps94 Try.results94 rfl rfl ?_
  refine ATodo.seq ?_
  refine ATodo.region ?_
  refine ARun.qv (q_assign rfl) rfl ?_
  refine ARun.nil ?_
  refine ATodo.seq ?_
  refine ATodo.seq ?_
  refine ATodo.region ?_
  refine ARun.qv (q_move rfl) rfl ?_
  refine ARun.qv (t_len rfl) rfl ?_
  refine ARun.qv (q_move rfl) rfl ?_
  refine ARun.nil ?_
  refine ATodo.block ?_
  refine ATodo.loopI (fun x : Int => base_First_b1 p0x0 x) (fun x σ' => σ' = ⟨15, [(5, .list 1 (p0x0.map I)), (6, I (p0x0.length : Int)), (7, I x)], []⟩) h ?_ ?_
  · exact ImpX.lessP (by exact ⟨rfl, rfl, rfl, True.intro⟩) (.nil) (ImpX.here rfl)
  · intro n2 z1 σ' J1 hmk h hJ1 hA1
    obtain rfl := hmk
    replace h : base_First_b1 p0x0 n2 = some z1 := h
    unfold base_First_b1 at h
    refine ATodo.seq ?_
    refine ATodo.region ?_
    refine ARun.qv (q_lss rfl rfl) rfl ?_
    refine ARun.nil ?_
    refine ATodo.seq ?_
    refine ATodo.cond_d rfl (fun hc => ?_) (fun hc => ?_)
    · replace h := iteT hc h
      refine ATodo.skip ?_
      refine ATodo.seq ?_
      refine ATodo.block ?_
      refine ATodo.seq ?_
      refine ATodo.region ?_
      obtain ⟨v3, e1, h⟩ := bnd h
      refine ARun.qv (t_index rfl rfl rfl e1 rfl rfl) rfl ?_
      refine ARun.qv (q_load_rptr rfl rfl rfl) rfl ?_
      refine ARun.qv (q_assign rfl) rfl ?_
      refine ARun.nil ?_
      refine ATodo.seq ?_
      refine ATodo.region ?_
      refine ARun.qv (q_move rfl) rfl ?_
      refine ARun.qv (q_neq rfl rfl) rfl ?_
      refine ARun.nil ?_
      refine ATodo.cond_d rfl (fun hc => ?_) (fun hc => ?_)
      · replace h := iteT hc h
        refine ATodo.seq ?_
        refine ATodo.region ?_
        refine ARun.qv (q_move rfl) rfl ?_
        refine ARun.qv (q_assign rfl) rfl ?_
        refine ARun.nil ?_
        refine ATodo.ret ?_
        replace h := outL h hA1
        obtain rfl := Option.some.inj h
        exact ImpX.here ⟨_, .cons (.tmp _ _ rfl) .nil, rfl⟩
      · replace h := iteF hc h
        refine ATodo.skip ?_
        refine ATodo.blk ?_
        refine ATodo.region ?_
        refine ARun.qv (q_addw rfl rfl) rfl ?_
        refine ARun.qv (q_move rfl) rfl ?_
        refine ARun.nil ?_
        refine ATodo.stop ?_
        obtain rfl := Option.some.inj h
        refine hJ1 _ _ rfl ?_
        exact ImpX.lessP (by exact ⟨rfl, rfl, rfl, True.intro⟩) (.nil) (ImpX.here rfl)
    · replace h := iteF hc h
      refine ATodo.exit rfl ?_
      replace h := outL h hA1
      refine ATodo.seq ?_
      refine ATodo.region ?_
      refine ARun.qv (q_assign rfl) rfl ?_
      refine ARun.nil ?_
      refine ATodo.ret ?_
      obtain rfl := Option.some.inj h
      exact ImpX.here ⟨_, .cons (.tmp _ _ rfl) .nil, rfl⟩

set_option maxHeartbeats 4000000 in
theorem slices_Grow_Fix_Fix_n0x_c {p1x0 : Int} {r : (List Fix)} (h : slices_Grow_Fix_Fix_n0x p1x0 = some r) : ACall Try.prog 195 [.nil, I p1x0] [] (T1 (fun d_0 => [(d_0, .arr 5 (r.map Fix.av))]) (fun d_0 => .sl 5 d_0 0 r.length)) := by
  unfold slices_Grow_Fix_Fix_n0x at h
  refine ACall.lessH ?_
  refine ACall.bodyN Try.func195 rfl Try.ntmps195 Try.results195 rfl rfl ?_
  refine ATodo.seq ?_
  refine ATodo.region ?_
  refine ARun.qv (q_assign rfl) rfl ?_
  refine ARun.nil ?_
  refine ATodo.seq ?_
  refine ATodo.seq ?_
  refine ATodo.region ?_
  refine ARun.qv (q_move rfl) rfl ?_
  refine ARun.qv (q_lss rfl rfl) rfl ?_
  refine ARun.nil ?_
  refine ATodo.cond_d rfl (fun hc => ?_) (fun hc => ?_)
  · replace h := iteT hc h
    refine ATodo.region ?_
    cases h
  · replace h := iteF hc h
    refine ATodo.skip ?_
    refine ATodo.seq ?_
    refine ATodo.seq ?_
    refine ATodo.region ?_
    refine ARun.qv (q_move rfl) rfl ?_
    refine ARun.qv (q_move rfl) rfl ?_
    refine ARun.qv (q_cap_nil rfl) rfl ?_
    refine ARun.qv (q_move rfl) rfl ?_
    refine ARun.qv (q_len_nil rfl) rfl ?_
    refine ARun.qv (q_subw rfl rfl) rfl ?_
    refine ARun.qv (q_subw rfl rfl) rfl ?_
    refine ARun.qv (q_assign rfl) rfl ?_
    refine ARun.nil ?_
    refine ATodo.seq ?_
    refine ATodo.region ?_
    refine ARun.qv (q_move rfl) rfl ?_
    refine ARun.qv (q_gtr rfl rfl) rfl ?_
    refine ARun.nil ?_
    refine ATodo.cut (fun σ' => ∃ (b1 : Bk) (l2 : List Fix), slices_Grow_Fix_Fix_n0x_j1 l2 = some r ∧ σ' = ⟨27, [(0, .sl 5 b1 0 l2.length)], [(b1, .arr 5 (l2.map Fix.av))]⟩) ?_ ?_
    · refine ATodo.cond_d rfl (fun hc => ?_) (fun hc => ?_)
      · replace h := iteT hc h
        refine ATodo.region ?_
        refine ARun.qv (q_move rfl) rfl ?_
        refine ARun.qv (q_move rfl) rfl ?_
        refine ARun.qv (q_cap_nil rfl) rfl ?_
        obtain ⟨l3, e1, h⟩ := bnd h
        refine ARun.qv (t_slice_nil rfl .none (.some _ _ _ rfl) rfl rfl e1) rfl ?_
        refine ARun.qv (q_move rfl) rfl ?_
        obtain ⟨l4, e2, h⟩ := bnd h
        refine t_appendZ (g := Fix.av) (Z := (⟨[], (0 : Int), (0 : Int), (0 : Int), (0 : Int)⟩ : Fix)) rfl rfl rfl rfl rfl rfl rfl rfl rfl e2 (fun b5 => ?_)
        refine ARun.qv (q_move rfl) rfl ?_
        refine ARun.qv (q_len_nil rfl) rfl ?_
        obtain ⟨l6, e3, h⟩ := bnd h
        refine ARun.qv (t_slice_sl rfl rfl .none (.some _ _ _ rfl) rfl rfl e3) rfl ?_
        refine ARun.qv (q_assign rfl) rfl ?_
        refine ARun.ghost (ImpX.takeT e3 .here (ImpX.here ?_))
        refine ARun.nil ?_
        refine ATodo.stop ?_
        exact ImpX.lessP (by exact ⟨rfl, True.intro⟩) (.cons .here .nil) (ImpX.here ⟨b5, l6, h, rfl⟩)
      · replace h := iteF hc h
        refine ATodo.skip ?_
        refine ATodo.stop ?_
        refine ImpX.arr (s := 0) 5 rfl (fun b7 => ?_)
        exact ImpX.lessP (by exact ⟨rfl, True.intro⟩) (.cons .here .nil) (ImpX.here ⟨b7, [], h, rfl⟩)
    · rintro σ' ⟨b1, l2, h, rfl⟩
      unfold slices_Grow_Fix_Fix_n0x_j1 at h
      refine ATodo.seq ?_
      refine ATodo.region ?_
      refine ARun.qv (q_move rfl) rfl ?_
      refine ARun.qv (q_assign rfl) rfl ?_
      refine ARun.nil ?_
      refine ATodo.ret ?_
      obtain rfl := Option.some.inj h
      exact ImpX.here ⟨_, .cons (.tmp _ _ rfl) .nil, _, .cons .here .nil, ⟨b1, rfl, rfl⟩⟩

set_option maxHeartbeats 4000000 in
theorem slices_Concat_Fix_Fix_c {p0x0 : List (List Fix)} {r : (List Fix)} (h : slices_Concat_Fix_Fix p0x0 = some r) : ACall Try.prog 123 [.list 1 (p0x0.map (encL 5 Fix.av))] [] (T1 (fun d_0 => [(d_0, .arr 5 (r.map Fix.av))]) (fun d_0 => .sl 5 d_0 0 r.length)) := by
  unfold slices_Concat_Fix_Fix at h
  refine ACall.lessH ?_
  refine ACall.bodyN Try.func123 rfl Try.ntmps123 Try.results123 rfl rfl ?_
  refine ATodo.seq ?_
  refine ATodo.region ?_
  refine ARun.qv (q_assign rfl) rfl ?_
  refine ARun.nil ?_
  refine ATodo.seq ?_
  refine ATodo.region ?_
  refine ARun.qv (q_assign rfl) rfl ?_
  refine ARun.nil ?_
  refine ATodo.seq ?_
  refine ATodo.seq ?_
  refine ATodo.region ?_
  refine ARun.qv (q_move rfl) rfl ?_
  refine ARun.qv (t_len rfl) rfl ?_
  refine ARun.qv (q_move rfl) rfl ?_
  refine ARun.nil ?_
  refine ATodo.block ?_
  refine ATodo.loopI (fun x : Int × Int => slices_Concat_Fix_Fix_b1 p0x0 x.1 x.2) (fun x σ' => σ' = ⟨36, [(0, .list 1 (p0x0.map (encL 5 Fix.av))), (3, I x.1), (9, .list 1 (p0x0.map (encL 5 Fix.av))), (10, I (p0x0.length : Int)), (11, I x.2)], []⟩) h ?_ ?_
  · exact ImpX.lessP (by exact ⟨rfl, rfl, rfl, rfl, rfl, True.intro⟩) (.nil) (ImpX.here rfl)
  · intro x z1 σ' J1 hmk h hJ1 hA1
    obtain ⟨n3, n4⟩ := x
    obtain rfl := hmk
    replace h : slices_Concat_Fix_Fix_b1 p0x0 n3 n4 = some z1 := h
    unfold slices_Concat_Fix_Fix_b1 at h
    refine ATodo.seq ?_
    refine ATodo.region ?_
    refine ARun.qv (q_lss rfl rfl) rfl ?_
    refine ARun.nil ?_
    refine ATodo.seq ?_
    refine ATodo.cond_d rfl (fun hc => ?_) (fun hc => ?_)
    · replace h := iteT hc h
      refine ATodo.skip ?_
      refine ATodo.seq ?_
      refine ATodo.block ?_
      refine ATodo.seq ?_
      refine ATodo.region ?_
      obtain ⟨v5, e1, h⟩ := bnd h
      refine ARun.qv (t_index rfl rfl rfl e1 rfl rfl) rfl ?_
      refine ARun.qv (q_load_rptr rfl rfl rfl) rfl ?_
      refine ARun.qv (q_assign rfl) rfl ?_
      refine ARun.nil ?_
      refine ATodo.seq ?_
      refine ATodo.region ?_
      refine ARun.qv (q_move rfl) rfl ?_
      refine ARun.qv (q_move rfl) rfl ?_
      refine ARun.qv (t_len rfl) rfl ?_
      refine ARun.qv (q_addw rfl rfl) rfl ?_
      refine ARun.qv (q_assign rfl) rfl ?_
      refine ARun.nil ?_
      refine ATodo.seq ?_
      refine ATodo.region ?_
      refine ARun.qv (q_move rfl) rfl ?_
      refine ARun.qv (q_lss rfl rfl) rfl ?_
      refine ARun.nil ?_
      refine ATodo.cond_d rfl (fun hc => ?_) (fun hc => ?_)
      · replace h := iteT hc h
        refine ATodo.region ?_
        cases h
      · replace h := iteF hc h
        refine ATodo.skip ?_
        refine ATodo.blk ?_
        refine ATodo.region ?_
        refine ARun.qv (q_addw rfl rfl) rfl ?_
        refine ARun.qv (q_move rfl) rfl ?_
        refine ARun.nil ?_
        refine ATodo.stop ?_
        obtain rfl := Option.some.inj h
        refine hJ1 _ _ rfl ?_
        exact ImpX.lessP (by exact ⟨rfl, rfl, rfl, rfl, rfl, True.intro⟩) (.nil) (ImpX.here rfl)
    · replace h := iteF hc h
      refine ATodo.exit rfl ?_
      replace h := outL h hA1
      unfold slices_Concat_Fix_Fix_k1 at h
      refine ATodo.seq ?_
      refine ATodo.region ?_
      refine ARun.qv (q_move rfl) rfl ?_
      obtain ⟨v6, e2, h⟩ := bnd h
      refine t_call1 rfl (slices_Grow_Fix_Fix_n0x_c e2) (CoL.refl _) .nil (fun _ => rfl) rfl (fun b7 => ?_)
      refine ARun.qv (q_assign rfl) rfl ?_
      refine ARun.nil ?_
      refine ATodo.seq ?_
      refine ATodo.seq ?_
      refine ATodo.region ?_
      refine ARun.qv (q_move rfl) rfl ?_
      refine ARun.qv (t_len rfl) rfl ?_
      refine ARun.qv (q_move rfl) rfl ?_
      refine ARun.nil ?_
      refine ATodo.block ?_
      refine ATodo.loopI (fun x : (List Fix) × Int => slices_Concat_Fix_Fix_b2 p0x0 x.1 x.2) (fun x σ' => ∃ (b11 : Bk), σ' = ⟨36, [(6, .sl 5 b11 0 x.1.length), (25, .list 1 (p0x0.map (encL 5 Fix.av))), (26, I (p0x0.length : Int)), (27, I x.2)], [(b11, .arr 5 (x.1.map Fix.av))]⟩) h ?_ ?_
      · exact ImpX.lessP (by exact ⟨rfl, rfl, rfl, rfl, True.intro⟩) (.cons .here .nil) (ImpX.here ⟨b7, rfl⟩)
      · intro x z2 σ' J2 hmk h hJ2 hA2
        obtain ⟨l12, n13⟩ := x
        obtain ⟨b11, rfl⟩ := hmk
        replace h : slices_Concat_Fix_Fix_b2 p0x0 l12 n13 = some z2 := h
        unfold slices_Concat_Fix_Fix_b2 at h
        refine ATodo.seq ?_
        refine ATodo.region ?_
        refine ARun.qv (q_lss rfl rfl) rfl ?_
        refine ARun.nil ?_
        refine ATodo.seq ?_
        refine ATodo.cond_d rfl (fun hc => ?_) (fun hc => ?_)
        · replace h := iteT hc h
          refine ATodo.skip ?_
          refine ATodo.seq ?_
          refine ATodo.block ?_
          refine ATodo.seq ?_
          refine ATodo.region ?_
          obtain ⟨v14, e3, h⟩ := bnd h
          refine ARun.qv (t_index rfl rfl rfl e3 rfl rfl) rfl ?_
          refine ARun.qv (q_load_rptr rfl rfl rfl) rfl ?_
          refine ARun.qv (q_assign rfl) rfl ?_
          refine ARun.nil ?_
          refine ATodo.region ?_
          refine ARun.qv (q_move rfl) rfl ?_
          refine ARun.qv (q_move rfl) rfl ?_
          obtain ⟨l15, e4, h⟩ := bnd h
          refine t_append (g := Fix.av) rfl rfl rfl rfl rfl rfl rfl rfl (.list _) e4 (fun _ => .here) rfl (fun b16 => ?_)
          refine ARun.qv (q_assign rfl) rfl ?_
          refine ARun.nil ?_
          refine ATodo.blk ?_
          refine ATodo.region ?_
          refine ARun.qv (q_addw rfl rfl) rfl ?_
          refine ARun.qv (q_move rfl) rfl ?_
          refine ARun.nil ?_
          refine ATodo.stop ?_
          obtain rfl := Option.some.inj h
          refine hJ2 _ _ rfl ?_
          exact ImpX.lessP (by exact ⟨rfl, rfl, rfl, rfl, True.intro⟩) (.cons .here .nil) (ImpX.here ⟨b16, rfl⟩)
        · replace h := iteF hc h
          refine ATodo.exit rfl ?_
          replace h := outL h hA2
          refine ATodo.seq ?_
          refine ATodo.region ?_
          refine ARun.qv (q_move rfl) rfl ?_
          refine ARun.qv (q_assign rfl) rfl ?_
          refine ARun.nil ?_
          refine ATodo.ret ?_
          obtain rfl := Option.some.inj h
          exact ImpX.here ⟨_, .cons (.tmp _ _ rfl) .nil, _, .cons .here .nil, ⟨b11, rfl, rfl⟩⟩

set_option maxHeartbeats 4000000 in
theorem slices_Compact_Fix_Fix_c {b_0 : Bk} {p0x0 : List Fix} {r : (List Fix)} (h : slices_Compact_Fix_Fix p0x0 = some r) : ACall Try.prog 125 [.sl 5 b_0 0 p0x0.length] [(b_0, .arr 5 (p0x0.map Fix.av))] (T1 (fun d_0 => [(d_0, .arr 5 (r.map Fix.av))]) (fun d_0 => .sl 5 d_0 0 r.length)) := by
  unfold slices_Compact_Fix_Fix at h
  refine ACall.lessH ?_
  refine ACall.bodyN Try.func125 rfl Try.ntmps125 Try.results125 rfl rfl ?_
  refine ATodo.seq ?_
  refine ATodo.region ?_
  refine ARun.qv (q_assign rfl) rfl ?_
  refine ARun.nil ?_
  refine ATodo.seq ?_
  refine ATodo.seq ?_
  refine ATodo.region ?_
  refine ARun.qv (q_move rfl) rfl ?_
  refine ARun.qv (t_len_sl rfl) rfl ?_
  refine ARun.qv (q_lss rfl rfl) rfl ?_
  refine ARun.nil ?_
  refine ATodo.cond_d rfl (fun hc => ?_) (fun hc => ?_)
  · replace h := iteT hc h
    refine ATodo.seq ?_
    refine ATodo.region ?_
    refine ARun.qv (q_move rfl) rfl ?_
    refine ARun.qv (q_assign rfl) rfl ?_
    refine ARun.nil ?_
    refine ATodo.ret ?_
    obtain rfl := Option.some.inj h
    exact ImpX.here ⟨_, .cons (.tmp _ _ rfl) .nil, _, .cons .here .nil, ⟨b_0, rfl, rfl⟩⟩
  · replace h := iteF hc h
    refine ATodo.skip ?_
    refine ATodo.seq ?_
    refine ATodo.seq ?_
    refine ATodo.region ?_
    refine ARun.qv (q_assign rfl) rfl ?_
    refine ARun.nil ?_
    refine ATodo.block ?_
    refine ATodo.loopI (fun x : Int => slices_Compact_Fix_Fix_b1 p0x0 x) (fun x σ' => σ' = ⟨61, [(0, .sl 5 b_0 0 p0x0.length), (3, I x)], [(b_0, .arr 5 (p0x0.map Fix.av))]⟩) h ?_ ?_
    · exact ImpX.lessP (by exact ⟨rfl, rfl, True.intro⟩) (.cons .here .nil) (ImpX.here rfl)
    · intro n2 z1 σ' J1 hmk h hJ1 hA1
      obtain rfl := hmk
      replace h : slices_Compact_Fix_Fix_b1 p0x0 n2 = some z1 := h
      unfold slices_Compact_Fix_Fix_b1 at h
      refine ATodo.seq ?_
      refine ATodo.seq ?_
      refine ATodo.region ?_
      refine ARun.qv (q_move rfl) rfl ?_
      refine ARun.qv (q_move rfl) rfl ?_
      refine ARun.qv (t_len_sl rfl) rfl ?_
      refine ARun.qv (q_lss rfl rfl) rfl ?_
      refine ARun.nil ?_
      refine ATodo.cond_d rfl (fun hc => ?_) (fun hc => ?_)
      · replace h := iteT hc h
        refine ATodo.skip ?_
        refine ATodo.seq ?_
        refine ATodo.block ?_
        refine ATodo.seq ?_
        refine ATodo.regionM (id := 6) (A := [0, 0, 3, 7, 0, 0, 32, 112, 240, 511]) 10 mixed rfl (by kernel_rfl) (by kernel_rfl) ?_
        refine AM.qv (q_move rfl) rfl ?_
        refine AM.qv (q_move rfl) rfl ?_
        obtain ⟨v3, e1, h⟩ := bnd h
        refine AM.qv (t_index_sl rfl rfl rfl e1) rfl ?_
        refine AM.qv (t_load_aptr_agg (g := Fix.av) rfl rfl (.inl .here) rfl e1 rfl) rfl ?_
        refine AM.qv (q_move rfl) rfl ?_
        refine AM.qv (q_move rfl) rfl ?_
        refine AM.qv (q_subw rfl rfl) rfl ?_
        obtain ⟨v4, e2, h⟩ := bnd h
        refine AM.qv (t_index_sl rfl rfl rfl e2) rfl ?_
        refine AM.qv (t_load_aptr_agg (g := Fix.av) rfl rfl (.inl .here) rfl e2 rfl) rfl ?_
        refine AM.qv (t_teq (g := Fix.av) (X := v3) (Y := v4) rfl rfl rfl rfl rfl) rfl ?_
        refine AM.nil ?_
        refine ARun.nil ?_
        refine ATodo.cond_d rfl (fun hc => ?_) (fun hc => ?_)
        · replace h := iteT hc h
          refine ATodo.seq ?_
          refine ATodo.region ?_
          refine ARun.qv (q_move rfl) rfl ?_
          refine ARun.qv (q_move rfl) rfl ?_
          obtain ⟨l5, e3, h⟩ := bnd h
          refine ARun.qv (t_slice_sl rfl rfl (.some _ _ _ rfl) .none rfl rfl e3) rfl ?_
          refine ARun.qv (q_assign rfl) rfl ?_
          refine ARun.nil ?_
          refine ATodo.seq ?_
          refine ATodo.seq ?_
          refine ATodo.region ?_
          refine ARun.qv (q_assign rfl) rfl ?_
          refine ARun.nil ?_
          refine ATodo.block ?_
          refine ATodo.loopI (fun x : (List Fix) × Int × Int => slices_Compact_Fix_Fix_b2 n2 l5 x.1 x.2.1 x.2.2) (fun x σ' => σ' = ⟨61, [(0, .sl 5 b_0 0 x.1.length), (3, I x.2.1), (4, .sl 5 b_0 n2.toNat l5.length), (5, I x.2.2)], [(b_0, .arr 5 (x.1.map Fix.av))]⟩) h ?_ ?_
          · exact ImpX.lessP (by exact ⟨rfl, rfl, rfl, rfl, True.intro⟩) (.cons .here .nil) (ImpX.here rfl)
          · intro x z2 σ' J2 hmk h hJ2 hA2
            obtain ⟨l9, n10, n11⟩ := x
            obtain rfl := hmk
            replace h : slices_Compact_Fix_Fix_b2 n2 l5 l9 n10 n11 = some z2 := h
            unfold slices_Compact_Fix_Fix_b2 at h
            refine ATodo.seq ?_
            refine ATodo.seq ?_
            refine ATodo.region ?_
            refine ARun.qv (q_move rfl) rfl ?_
            refine ARun.qv (q_move rfl) rfl ?_
            refine ARun.qv (t_len_sub rfl) rfl ?_
            refine ARun.qv (q_lss rfl rfl) rfl ?_
            refine ARun.nil ?_
            refine ATodo.cond_d rfl (fun hc => ?_) (fun hc => ?_)
            · replace h := iteT hc h
              refine ATodo.skip ?_
              refine ATodo.seq ?_
              refine ATodo.block ?_
              refine ATodo.seq ?_
              refine ATodo.regionM (id := 11) (A := [0, 0, 3, 7, 0, 0, 32, 112, 240, 511]) 10 mixed rfl (by kernel_rfl) (by kernel_rfl) ?_
              refine AM.qv (q_move rfl) rfl ?_
              refine AM.qv (q_move rfl) rfl ?_
              obtain ⟨v12, e4, h⟩ := bnd h
              refine AM.qv (t_index_sub (L := n2) rfl rfl rfl e4) rfl ?_
              refine AM.qv (t_load_aptr_agg (g := Fix.av) rfl rfl (.inl .here) rfl (idxS_some e4).2 rfl) rfl ?_
              refine AM.qv (q_move rfl) rfl ?_
              refine AM.qv (q_move rfl) rfl ?_
              refine AM.qv (q_subw rfl rfl) rfl ?_
              obtain ⟨v13, e5, h⟩ := bnd h
              refine AM.qv (t_index_sub (L := n2) rfl rfl rfl e5) rfl ?_
              refine AM.qv (t_load_aptr_agg (g := Fix.av) rfl rfl (.inl .here) rfl (idxS_some e5).2 rfl) rfl ?_
              refine AM.qv (t_tne (g := Fix.av) (X := v12) (Y := v13) rfl rfl rfl rfl rfl) rfl ?_
              refine AM.nil ?_
              refine ARun.nil ?_
              refine ATodo.cut (fun σ' => ∃ (l14 : List Fix) (n15 : Int), slices_Compact_Fix_Fix_j1 n11 l14 n15 = some z2 ∧ σ' = ⟨61, [(0, .sl 5 b_0 0 l14.length), (3, I n15), (4, .sl 5 b_0 n2.toNat l5.length), (5, I n11)], [(b_0, .arr 5 (l14.map Fix.av))]⟩) ?_ ?_
              · refine ATodo.cond_d rfl (fun hc => ?_) (fun hc => ?_)
                · replace h := iteT hc h
                  refine ATodo.seq ?_
                  refine ATodo.region ?_
                  refine ARun.qv (q_move rfl) rfl ?_
                  refine ARun.qv (q_move rfl) rfl ?_
                  refine ARun.qv (q_move rfl) rfl ?_
                  refine ARun.qv (q_move rfl) rfl ?_
                  obtain ⟨v16, e6, h⟩ := bnd h
                  refine ARun.qv (t_index_sub (L := n2) rfl rfl rfl e6) rfl ?_
                  refine ARun.qv (t_load_aptr_agg (g := Fix.av) rfl rfl (.inl .here) rfl (idxS_some e6).2 rfl) rfl ?_
                  obtain ⟨v17, e7, h⟩ := bnd h
                  refine ARun.qv (t_index_sl rfl rfl rfl e7) rfl ?_
                  refine t_store_aptr1 (g := Fix.av) (el' := v16) rfl rfl rfl rfl e7 rfl .here rfl ?_
                  refine ARun.ghost (ImpX.eqs (s := 0) (av' := .sl 5 b_0 0 (l9.set n10.toNat v16).length) rfl (by rw [List.length_set]) (ImpX.here ?_))
                  refine ARun.ghost (ImpX.eqs (s := 45) (av' := .sl 5 b_0 0 (l9.set n10.toNat v16).length) rfl (by rw [List.length_set]) (ImpX.here ?_))
                  refine ARun.nil ?_
                  refine ATodo.region ?_
                  refine ARun.qv (q_move rfl) rfl ?_
                  refine ARun.qv (q_addw rfl rfl) rfl ?_
                  refine ARun.qv (q_assign rfl) rfl ?_
                  refine ARun.nil ?_
                  refine ATodo.stop ?_
                  exact ImpX.lessP (by exact ⟨rfl, rfl, rfl, rfl, True.intro⟩) (.cons .here .nil) (ImpX.here ⟨l9.set n10.toNat v16, w64 (n10 + (1 : Int)), h, rfl⟩)
                · replace h := iteF hc h
                  refine ATodo.skip ?_
                  refine ATodo.stop ?_
                  exact ImpX.lessP (by exact ⟨rfl, rfl, rfl, rfl, True.intro⟩) (.cons .here .nil) (ImpX.here ⟨l9, n10, h, rfl⟩)
              · rintro σ' ⟨l14, n15, h, rfl⟩
                unfold slices_Compact_Fix_Fix_j1 at h
                refine ATodo.blk ?_
                refine ATodo.region ?_
                refine ARun.qv (q_move rfl) rfl ?_
                refine ARun.qv (q_addw rfl rfl) rfl ?_
                refine ARun.qv (q_assign rfl) rfl ?_
                refine ARun.nil ?_
                refine ATodo.stop ?_
                obtain rfl := Option.some.inj h
                refine hJ2 _ _ rfl ?_
                exact ImpX.lessP (by exact ⟨rfl, rfl, rfl, rfl, True.intro⟩) (.cons .here .nil) (ImpX.here rfl)
            · replace h := iteF hc h
              refine ATodo.exit rfl ?_
              replace h := outL h hA2
              unfold slices_Compact_Fix_Fix_k2 at h
              refine ATodo.seq ?_
              refine ATodo.region ?_
              refine ARun.qv (q_move rfl) rfl ?_
              refine ARun.qv (q_move rfl) rfl ?_
              obtain ⟨l18, e8, h⟩ := bnd h
              refine ARun.qv (t_slice_sl rfl rfl (.some _ _ _ rfl) .none rfl rfl e8) rfl ?_
              refine t_clear (g := Fix.av) (Z := (⟨[], (0 : Int), (0 : Int), (0 : Int), (0 : Int)⟩ : Fix)) (L := n10) rfl rfl rfl rfl rfl rfl e8 .here ?_
              refine ARun.ghost (ImpX.eqs (s := 0) (av' := .sl 5 b_0 0 (clr l9 n10 l18.length (⟨[], (0 : Int), (0 : Int), (0 : Int), (0 : Int)⟩ : Fix)).length) rfl (congrArg (AV.sl 5 b_0 0) (clr_len e8)) (ImpX.here ?_))
              refine ARun.ghost (ImpX.eqs (s := 54) (av' := .sl 5 b_0 0 (clr l9 n10 l18.length (⟨[], (0 : Int), (0 : Int), (0 : Int), (0 : Int)⟩ : Fix)).length) rfl (congrArg (AV.sl 5 b_0 0) (clr_len e8)) (ImpX.here ?_))
              refine ARun.nil ?_
              refine ATodo.seq ?_
              refine ATodo.region ?_
              refine ARun.qv (q_move rfl) rfl ?_
              refine ARun.qv (q_move rfl) rfl ?_
              obtain ⟨l19, e9, h⟩ := bnd h
              refine ARun.qv (t_slice_sl rfl rfl .none (.some _ _ _ rfl) rfl rfl e9) rfl ?_
              refine ARun.qv (q_assign rfl) rfl ?_
              refine ARun.ghost (ImpX.takeT e9 .here (ImpX.here ?_))
              refine ARun.nil ?_
              refine ATodo.ret ?_
              replace h := outL h hA1
              obtain rfl := Option.some.inj h
              exact ImpX.here ⟨_, .cons (.tmp _ _ rfl) .nil, _, .cons .here .nil, ⟨b_0, rfl, rfl⟩⟩
        · replace h := iteF hc h
          refine ATodo.skip ?_
          refine ATodo.blk ?_
          refine ATodo.region ?_
          refine ARun.qv (q_move rfl) rfl ?_
          refine ARun.qv (q_addw rfl rfl) rfl ?_
          refine ARun.qv (q_assign rfl) rfl ?_
          refine ARun.nil ?_
          refine ATodo.stop ?_
          obtain rfl := Option.some.inj h
          refine hJ1 _ _ rfl ?_
          exact ImpX.lessP (by exact ⟨rfl, rfl, True.intro⟩) (.cons .here .nil) (ImpX.here rfl)
      · replace h := iteF hc h
        refine ATodo.exit rfl ?_
        replace h := outL h hA1
        refine ATodo.seq ?_
        refine ATodo.region ?_
        refine ARun.qv (q_move rfl) rfl ?_
        refine ARun.qv (q_assign rfl) rfl ?_
        refine ARun.nil ?_
        refine ATodo.ret ?_
        obtain rfl := Option.some.inj h
        exact ImpX.here ⟨_, .cons (.tmp _ _ rfl) .nil, _, .cons .here .nil, ⟨b_0, rfl, rfl⟩⟩

end Go.Proofs.Ytnnljbpmkcefaaa
