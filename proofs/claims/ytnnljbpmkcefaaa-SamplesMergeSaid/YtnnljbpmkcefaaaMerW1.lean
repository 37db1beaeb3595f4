/- The code computes the plain functions: proofs written by shal.py. -/
import Derived.Test.YtnnljbpmkcefaaaMerP
import Derived.Test.YtnnljbpmkcefaaaLib
set_option maxRecDepth 100000
set_option linter.unusedVariables false
set_option linter.unusedSimpArgs false
namespace Go.Proofs.Ytnnljbpmkcefaaa
open Go Go.Eng Go.Proofs Go.Beacon
attribute [local irreducible] ARun ATodo AQ QV ACall ImpX AWp AM
instance eqg120 : EqGd Try.prog 120 := ⟨by kernel_rfl⟩
instance eqt120 : EqTy Try.prog 120 2 Sample.av := ⟨fun x y w S v u hv hu => by
  obtain ⟨vs, rfl, hl, ha⟩ := At.agg_inv hv
  obtain ⟨us, rfl, hl', ha'⟩ := At.agg_inv hu
  obtain ⟨v0, p0, q0⟩ := AtA.get hl ha (off := 0) rfl
  obtain ⟨u0, p0', q0'⟩ := AtA.get hl' ha' (off := 0) rfl
  obtain ⟨v1, p1, q1⟩ := AtA.get hl ha (off := 1) rfl
  obtain ⟨u1, p1', q1'⟩ := AtA.get hl' ha' (off := 1) rfl
  obtain ⟨v2, p2, q2⟩ := AtA.get hl ha (off := 2) rfl
  obtain ⟨u2, p2', q2'⟩ := AtA.get hl' ha' (off := 2) rfl
  obtain ⟨v3, p3, q3⟩ := AtA.get hl ha (off := 3) rfl
  obtain ⟨u3, p3', q3'⟩ := AtA.get hl' ha' (off := 3) rfl
  refine EqR.cast (EqR.struct Try.underlying120 (by kernel_rfl) (.cons (by decide) (part_one rfl p0) (part_one rfl p0') (EqR.up (EqTy.h (g := AV.str) x.Device y.Device w S _ _ q0 q0') 0)  (.cons (by decide) (part_one rfl p1) (part_one rfl p1') (EqR.up (EqTy.h (g := AV.str) x.Metric y.Metric w S _ _ q1 q1') 0)  (.cons (by decide) (part_one rfl p2) (part_one rfl p2') (EqR.up (EqTy.h (g := I) x.At y.At w S _ _ q2 q2') 0)  (.cons (by decide) (part_one rfl p3) (part_one rfl p3') (EqR.up (EqTy.h (g := I) x.Value y.Value w S _ _ q3 q3') 0) .nil))))) ?_
  obtain ⟨_, _, _, _⟩ := x
  obtain ⟨_, _, _, _⟩ := y
  rw [Bool.eq_iff_iff]; simp [and_assoc]⟩
set_option maxHeartbeats 4000000 in
theorem Below_c {p0x0 : Int} {p1x0 : Int} {r : Int} (h : Below p0x0 p1x0 = some r) : Pu Try.prog 122 [I p0x0, I p1x0] (I r) := by
  unfold Below at h
  refine ACall.bodyN Try.func122 rfl Try.ntmps122 Try.results122 rfl rfl ?_
  refine ATodo.seq ?_
  refine ATodo.region ?_
  refine ARun.qv (q_assign rfl) rfl ?_
  refine ARun.nil ?_
  refine ATodo.seq ?_
  refine ATodo.seq ?_
  refine ATodo.region ?_
  refine ARun.qv (q_move rfl) rfl ?_
  refine ARun.qv (q_lss rfl rfl) rfl ?_
  refine ARun.nil ?_
  refine ATodo.cond_d rfl (fun hc => ?_) (fun hc => ?_)
  · replace h := iteT hc h
    refine ATodo.seq ?_
    refine ATodo.region ?_
    refine ARun.qv (q_assign rfl) rfl ?_
    refine ARun.nil ?_
    refine ATodo.ret ?_
    obtain rfl := Option.some.inj h
    exact ImpX.here ⟨_, .cons (.tmp _ _ rfl) .nil, rfl⟩
  · replace h := iteF hc h
    refine ATodo.skip ?_
    refine ATodo.seq ?_
    refine ATodo.region ?_
    refine ARun.qv (q_move rfl) rfl ?_
    refine ARun.qv (q_move rfl) rfl ?_
    obtain ⟨n1, e1, h⟩ := bnd h
    refine ARun.qv (t_remS rfl rfl e1) rfl ?_
    refine ARun.qv (q_assign rfl) rfl ?_
    refine ARun.nil ?_
    refine ATodo.seq ?_
    refine ATodo.seq ?_
    refine ATodo.region ?_
    refine ARun.qv (q_move rfl) rfl ?_
    refine ARun.qv (q_lss rfl rfl) rfl ?_
    refine ARun.nil ?_
    refine ATodo.cut (fun σ' => ∃ (n2 : Int), Below_j1 n2 = some r ∧ σ' = ⟨16, [(0, I n2)], []⟩) ?_ ?_
    · refine ATodo.cond_d rfl (fun hc => ?_) (fun hc => ?_)
      · replace h := iteT hc h
        refine ATodo.region ?_
        refine ARun.qv (q_move rfl) rfl ?_
        refine ARun.qv (q_move rfl) rfl ?_
        refine ARun.qv (q_addw rfl rfl) rfl ?_
        refine ARun.qv (q_assign rfl) rfl ?_
        refine ARun.nil ?_
        refine ATodo.stop ?_
        exact ImpX.lessP (by exact ⟨rfl, True.intro⟩) (.nil) (ImpX.here ⟨w64 (n1 + p1x0), h, rfl⟩)
      · replace h := iteF hc h
        refine ATodo.skip ?_
        refine ATodo.stop ?_
        exact ImpX.lessP (by exact ⟨rfl, True.intro⟩) (.nil) (ImpX.here ⟨n1, h, rfl⟩)
    · rintro σ' ⟨n2, h, rfl⟩
      unfold Below_j1 at h
      refine ATodo.seq ?_
      refine ATodo.region ?_
      refine ARun.qv (q_move rfl) rfl ?_
      refine ARun.qv (q_assign rfl) rfl ?_
      refine ARun.nil ?_
      refine ATodo.ret ?_
      obtain rfl := Option.some.inj h
      exact ImpX.here ⟨_, .cons (.tmp _ _ rfl) .nil, rfl⟩

set_option maxHeartbeats 4000000 in
theorem Stream_Next_c {b_0 : Bk} {p0x0 : Fleetmake_Stream} {p1x0 : Int} {r : Int × Fleetmake_Stream} (h : Stream_Next p0x0 p1x0 = some r) : ACall Try.prog 40 [.ptr b_0 0, I p1x0] [(b_0, .cells [.list 1 (p0x0.L.map I), I p0x0.at_])] (T0 ([(b_0, .cells [.list 1 (r.2.L.map I), I r.2.at_])]) (I r.1)) := by
  unfold Stream_Next at h
  refine ACall.lessH ?_
  refine ACall.bodyN Try.func40 rfl Try.ntmps40 Try.results40 rfl rfl ?_
  refine ATodo.seq ?_
  refine ATodo.region ?_
  refine ARun.qv (q_assign rfl) rfl ?_
  refine ARun.nil ?_
  refine ATodo.seq ?_
  refine ATodo.region ?_
  refine ARun.qv (q_move rfl) rfl ?_
  refine ARun.qv (q_nilCheck_ptr rfl) rfl ?_
  refine ARun.qv (n_field_ptr rfl rfl) rfl ?_
  refine ARun.qv (q_load_ptr rfl rfl .here rfl) rfl ?_
  refine ARun.qv (q_addw rfl rfl) rfl ?_
  refine ARun.qv (q_nilCheck_ptr rfl) rfl ?_
  refine ARun.qv (n_field_ptr rfl rfl) rfl ?_
  refine n_store_ptr rfl rfl rfl rfl .here rfl rfl ?_
  refine ARun.nil ?_
  refine ATodo.seq ?_
  refine ATodo.seq ?_
  refine ATodo.region ?_
  refine ARun.qv (q_move rfl) rfl ?_
  refine ARun.qv (q_nilCheck_ptr rfl) rfl ?_
  refine ARun.qv (n_field_ptr rfl rfl) rfl ?_
  refine ARun.qv (q_load_ptr rfl rfl .here rfl) rfl ?_
  refine ARun.qv (t_len rfl) rfl ?_
  refine ARun.qv (q_eql rfl rfl) rfl ?_
  refine ARun.nil ?_
  refine ATodo.cond_d rfl (fun hc => ?_) (fun hc => ?_)
  · replace h := iteT hc h
    refine ATodo.seq ?_
    refine ATodo.region ?_
    refine ARun.qv (q_move rfl) rfl ?_
    refine ARun.qv (q_nilCheck_ptr rfl) rfl ?_
    refine ARun.qv (n_field_ptr rfl rfl) rfl ?_
    refine ARun.qv (q_load_ptr rfl rfl .here rfl) rfl ?_
    refine ARun.qv (q_mulw rfl rfl) rfl ?_
    refine ARun.qv (q_move rfl) rfl ?_
    obtain ⟨v1, e1, h⟩ := bnd h
    refine r_callp rfl (Below_c e1) (CoL.refl _) rfl ?_
    refine ARun.qv (q_assign rfl) rfl ?_
    refine ARun.nil ?_
    refine ATodo.ret ?_
    obtain rfl := Option.some.inj h
    exact ImpX.here ⟨_, .cons (.tmp _ _ rfl) .nil, _, .cons .here .nil, ⟨rfl, rfl⟩⟩
  · replace h := iteF hc h
    refine ATodo.skip ?_
    refine ATodo.seq ?_
    refine ATodo.regionM (id := 4) (A := [0, 1, 3, 7, 15, 0, 32, 96, 224, 480, 1023, 2047]) 12 mixed rfl (by kernel_rfl) (by kernel_rfl) ?_
    refine AM.qv (q_move rfl) rfl ?_
    refine AM.qv (q_nilCheck_ptr rfl) rfl ?_
    refine AM.qv (n_field_ptr rfl rfl) rfl ?_
    refine AM.qv (q_load_ptr rfl rfl .here rfl) rfl ?_
    refine AM.qv (q_subw rfl rfl) rfl ?_
    refine AM.qv (q_move rfl) rfl ?_
    refine AM.qv (q_nilCheck_ptr rfl) rfl ?_
    refine AM.qv (n_field_ptr rfl rfl) rfl ?_
    refine AM.qv (q_load_ptr rfl rfl .here rfl) rfl ?_
    refine AM.qv (t_len rfl) rfl ?_
    obtain ⟨n2, e2, h⟩ := bnd h
    refine AM.qv (t_remS rfl rfl e2) rfl ?_
    refine AM.qv (q_assign rfl) rfl ?_
    refine AM.nil ?_
    refine ARun.nil ?_
    refine ATodo.seq ?_
    refine ATodo.regionM (id := 5) (A := [0, 1, 3, 7, 15, 0, 32, 96, 224, 480, 1023, 2047]) 12 mixed rfl (by kernel_rfl) (by kernel_rfl) ?_
    refine AM.qv (q_move rfl) rfl ?_
    refine AM.qv (q_nilCheck_ptr rfl) rfl ?_
    refine AM.qv (n_field_ptr rfl rfl) rfl ?_
    refine AM.qv (q_load_ptr rfl rfl .here rfl) rfl ?_
    refine AM.qv (q_subw rfl rfl) rfl ?_
    refine AM.qv (q_move rfl) rfl ?_
    refine AM.qv (q_nilCheck_ptr rfl) rfl ?_
    refine AM.qv (n_field_ptr rfl rfl) rfl ?_
    refine AM.qv (q_load_ptr rfl rfl .here rfl) rfl ?_
    refine AM.qv (t_len rfl) rfl ?_
    obtain ⟨n3, e3, h⟩ := bnd h
    refine AM.qv (t_quoS rfl rfl e3) rfl ?_
    refine AM.qv (q_assign rfl) rfl ?_
    refine AM.nil ?_
    refine ARun.nil ?_
    refine ATodo.seq ?_
    refine ATodo.region ?_
    refine ARun.qv (q_move rfl) rfl ?_
    refine ARun.qv (q_nilCheck_ptr rfl) rfl ?_
    refine ARun.qv (n_field_ptr rfl rfl) rfl ?_
    refine ARun.qv (q_load_ptr rfl rfl .here rfl) rfl ?_
    refine ARun.qv (q_move rfl) rfl ?_
    obtain ⟨v4, e4, h⟩ := bnd h
    refine ARun.qv (t_index rfl rfl rfl e4 rfl rfl) rfl ?_
    refine ARun.qv (q_load_rptr rfl rfl rfl) rfl ?_
    obtain ⟨v5, e5, h⟩ := bnd h
    refine r_callp rfl (Below_c e5) (CoL.refl _) rfl ?_
    refine ARun.qv (q_move rfl) rfl ?_
    refine ARun.qv (q_move rfl) rfl ?_
    refine ARun.qv (q_addw rfl rfl) rfl ?_
    refine ARun.qv (q_mulw rfl rfl) rfl ?_
    refine ARun.qv (q_addw rfl rfl) rfl ?_
    refine ARun.qv (q_move rfl) rfl ?_
    obtain ⟨v6, e6, h⟩ := bnd h
    refine r_callp rfl (Below_c e6) (CoL.refl _) rfl ?_
    refine ARun.qv (q_assign rfl) rfl ?_
    refine ARun.nil ?_
    refine ATodo.ret ?_
    obtain rfl := Option.some.inj h
    exact ImpX.here ⟨_, .cons (.tmp _ _ rfl) .nil, _, .cons .here .nil, ⟨rfl, rfl⟩⟩

set_option maxHeartbeats 4000000 in
theorem Stream_Range_c {b_0 : Bk} {p0x0 : Fleetmake_Stream} {p1x0 : Int} {p2x0 : Int} {r : Int × Fleetmake_Stream} (h : Stream_Range p0x0 p1x0 p2x0 = some r) : ACall Try.prog 37 [.ptr b_0 0, I p1x0, I p2x0] [(b_0, .cells [.list 1 (p0x0.L.map I), I p0x0.at_])] (T0 ([(b_0, .cells [.list 1 (r.2.L.map I), I r.2.at_])]) (I r.1)) := by
  unfold Stream_Range at h
  refine ACall.lessH ?_
  refine ACall.bodyN Try.func37 rfl Try.ntmps37 Try.results37 rfl rfl ?_
  refine ATodo.seq ?_
  refine ATodo.region ?_
  refine ARun.qv (q_assign rfl) rfl ?_
  refine ARun.nil ?_
  refine ATodo.seq ?_
  refine ATodo.seq ?_
  refine ATodo.region ?_
  refine ARun.qv (q_move rfl) rfl ?_
  refine ARun.qv (q_move rfl) rfl ?_
  refine ARun.qv (q_lss rfl rfl) rfl ?_
  refine ARun.nil ?_
  refine ATodo.cond_d rfl (fun hc => ?_) (fun hc => ?_)
  · replace h := iteT hc h
    refine ATodo.seq ?_
    refine ATodo.region ?_
    refine ARun.qv (q_move rfl) rfl ?_
    refine ARun.qv (q_assign rfl) rfl ?_
    refine ARun.nil ?_
    refine ATodo.ret ?_
    obtain rfl := Option.some.inj h
    exact ImpX.here ⟨_, .cons (.tmp _ _ rfl) .nil, _, .cons .here .nil, ⟨rfl, rfl⟩⟩
  · replace h := iteF hc h
    refine ATodo.skip ?_
    refine ATodo.seq ?_
    refine ATodo.region ?_
    refine ARun.qv (q_move rfl) rfl ?_
    refine ARun.qv (q_move rfl) rfl ?_
    refine ARun.qv (q_move rfl) rfl ?_
    refine ARun.qv (q_move rfl) rfl ?_
    refine ARun.qv (q_subw rfl rfl) rfl ?_
    refine ARun.qv (q_addw rfl rfl) rfl ?_
    obtain ⟨v1, e1, h⟩ := bnd h
    refine t_call0 rfl (Stream_Next_c e1) (CoL.refl _) (.cons .here .nil) rfl rfl ?_
    refine ARun.qv (q_addw rfl rfl) rfl ?_
    refine ARun.qv (q_assign rfl) rfl ?_
    refine ARun.nil ?_
    refine ATodo.ret ?_
    obtain rfl := Option.some.inj h
    exact ImpX.here ⟨_, .cons (.tmp _ _ rfl) .nil, _, .cons .here .nil, ⟨rfl, rfl⟩⟩

set_option maxHeartbeats 4000000 in
theorem Stream_Some_c {b_0 : Bk} {p0x0 : Fleetmake_Stream} {p1x0 : List Str} {r : Str × Fleetmake_Stream} (h : Stream_Some p0x0 p1x0 = some r) : ACall Try.prog 13 [.ptr b_0 0, .list 1 (p1x0.map AV.str)] [(b_0, .cells [.list 1 (p0x0.L.map I), I p0x0.at_])] (T0 ([(b_0, .cells [.list 1 (r.2.L.map I), I r.2.at_])]) (.str r.1)) := by
  unfold Stream_Some at h
  refine ACall.lessH ?_
  refine ACall.bodyN Try.func13 rfl Try.ntmps13 Try.results13 rfl rfl ?_
  refine ATodo.seq ?_
  refine ATodo.region ?_
  refine ARun.qv (q_assign rfl) rfl ?_
  refine ARun.nil ?_
  refine ATodo.seq ?_
  refine ATodo.region ?_
  refine ARun.qv (q_move rfl) rfl ?_
  refine ARun.qv (q_move rfl) rfl ?_
  refine ARun.qv (q_move rfl) rfl ?_
  refine ARun.qv (t_len rfl) rfl ?_
  obtain ⟨v1, e1, h⟩ := bnd h
  refine t_call0 rfl (Stream_Next_c e1) (CoL.refl _) (.cons .here .nil) rfl rfl ?_
  obtain ⟨v2, e2, h⟩ := bnd h
  refine ARun.qv (t_index rfl rfl rfl e2 rfl rfl) rfl ?_
  refine ARun.qv (q_load_rptr rfl rfl rfl) rfl ?_
  refine ARun.qv (q_assign rfl) rfl ?_
  refine ARun.nil ?_
  refine ATodo.ret ?_
  obtain rfl := Option.some.inj h
  exact ImpX.here ⟨_, .cons (.tmp _ _ rfl) .nil, _, .cons .here .nil, ⟨rfl, rfl⟩⟩

set_option maxHeartbeats 4000000 in
theorem Stream_Pick_c {b_0 : Bk} {p0x0 : Fleetmake_Stream} {p1x0 : List Int} {r : Int × Fleetmake_Stream} (h : Stream_Pick p0x0 p1x0 = some r) : ACall Try.prog 15 [.ptr b_0 0, .list 1 (p1x0.map I)] [(b_0, .cells [.list 1 (p0x0.L.map I), I p0x0.at_])] (T0 ([(b_0, .cells [.list 1 (r.2.L.map I), I r.2.at_])]) (I r.1)) := by
  unfold Stream_Pick at h
  refine ACall.lessH ?_
  refine ACall.bodyN Try.func15 rfl Try.ntmps15 Try.results15 rfl rfl ?_
  refine ATodo.seq ?_
  refine ATodo.region ?_
  refine ARun.qv (q_assign rfl) rfl ?_
  refine ARun.nil ?_
  refine ATodo.seq ?_
  refine ATodo.region ?_
  refine ARun.qv (q_move rfl) rfl ?_
  refine ARun.qv (q_move rfl) rfl ?_
  refine ARun.qv (q_move rfl) rfl ?_
  refine ARun.qv (t_len rfl) rfl ?_
  obtain ⟨v1, e1, h⟩ := bnd h
  refine t_call0 rfl (Stream_Next_c e1) (CoL.refl _) (.cons .here .nil) rfl rfl ?_
  obtain ⟨v2, e2, h⟩ := bnd h
  refine ARun.qv (t_index rfl rfl rfl e2 rfl rfl) rfl ?_
  refine ARun.qv (q_load_rptr rfl rfl rfl) rfl ?_
  refine ARun.qv (q_assign rfl) rfl ?_
  refine ARun.nil ?_
  refine ATodo.ret ?_
  obtain rfl := Option.some.inj h
  exact ImpX.here ⟨_, .cons (.tmp _ _ rfl) .nil, _, .cons .here .nil, ⟨rfl, rfl⟩⟩

set_option maxHeartbeats 4000000 in
theorem cmp_isNaN_string_c {p0x0 : Str} {r : Bool} (h : cmp_isNaN_string p0x0 = r) : Pu Try.prog 288 [.str p0x0] (.bool r) := by
  unfold cmp_isNaN_string at h
  refine ACall.bodyN Try.func288 rfl Try.ntmps288 Try.results288 rfl rfl ?_
  refine ATodo.seq ?_
  refine ATodo.region ?_
  refine ARun.qv (q_assign rfl) rfl ?_
  refine ARun.nil ?_
  refine ATodo.seq ?_
  refine ATodo.region ?_
  refine ARun.qv (q_move rfl) rfl ?_
  refine ARun.qv (q_move rfl) rfl ?_
  refine ARun.qv (q_sne rfl rfl) rfl ?_
  refine ARun.qv (q_assign rfl) rfl ?_
  refine ARun.nil ?_
  refine ATodo.ret ?_
  obtain rfl := h
  exact ImpX.here ⟨_, .cons (.tmp _ _ rfl) .nil, rfl⟩

set_option maxHeartbeats 4000000 in
theorem cmp_Compare_string_c {p0x0 : Str} {p1x0 : Str} {r : Int} (h : cmp_Compare_string p0x0 p1x0 = r) : Pu Try.prog 260 [.str p0x0, .str p1x0] (I r) := by
  unfold cmp_Compare_string at h
  refine ACall.bodyN Try.func260 rfl Try.ntmps260 Try.results260 rfl rfl ?_
  refine ATodo.seq ?_
  refine ATodo.region ?_
  refine ARun.qv (q_assign rfl) rfl ?_
  refine ARun.nil ?_
  refine ATodo.seq ?_
  refine ATodo.region ?_
  refine ARun.qv (q_move rfl) rfl ?_
  refine r_callp rfl (cmp_isNaN_string_c rfl) (CoL.refl _) rfl ?_
  refine ARun.qv (q_assign rfl) rfl ?_
  refine ARun.nil ?_
  refine ATodo.seq ?_
  refine ATodo.region ?_
  refine ARun.qv (q_move rfl) rfl ?_
  refine r_callp rfl (cmp_isNaN_string_c rfl) (CoL.refl _) rfl ?_
  refine ARun.qv (q_assign rfl) rfl ?_
  refine ARun.nil ?_
  refine ATodo.seq ?_
  refine ATodo.seq ?_
  refine ATodo.region ?_
  refine ARun.qv (q_move rfl) rfl ?_
  refine ARun.nil ?_
  refine ATodo.cond rfl (fun hc => ?_) (fun hc => ?_)
  · replace h := iteT hc h
    refine ATodo.seq ?_
    refine ATodo.seq ?_
    refine ATodo.region ?_
    refine ARun.qv (q_move rfl) rfl ?_
    refine ARun.nil ?_
    refine ATodo.cond rfl (fun hc => ?_) (fun hc => ?_)
    · replace h := iteT hc h
      refine ATodo.seq ?_
      refine ATodo.region ?_
      refine ARun.qv (q_assign rfl) rfl ?_
      refine ARun.nil ?_
      refine ATodo.ret ?_
      obtain rfl := h
      exact ImpX.here ⟨_, .cons (.tmp _ _ rfl) .nil, rfl⟩
    · replace h := iteFb hc h
      refine ATodo.skip ?_
      refine ATodo.seq ?_
      refine ATodo.region ?_
      refine ARun.qv (q_assign rfl) rfl ?_
      refine ARun.nil ?_
      refine ATodo.ret ?_
      obtain rfl := h
      exact ImpX.here ⟨_, .cons (.tmp _ _ rfl) .nil, rfl⟩
  · replace h := iteFb hc h
    refine ATodo.skip ?_
    refine ATodo.seq ?_
    refine ATodo.seq ?_
    refine ATodo.region ?_
    refine ARun.qv (q_move rfl) rfl ?_
    refine ARun.nil ?_
    refine ATodo.cond rfl (fun hc => ?_) (fun hc => ?_)
    · replace h := iteT hc h
      refine ATodo.seq ?_
      refine ATodo.region ?_
      refine ARun.qv (q_assign rfl) rfl ?_
      refine ARun.nil ?_
      refine ATodo.ret ?_
      obtain rfl := h
      exact ImpX.here ⟨_, .cons (.tmp _ _ rfl) .nil, rfl⟩
    · replace h := iteFb hc h
      refine ATodo.skip ?_
      refine ATodo.seq ?_
      refine ATodo.seq ?_
      refine ATodo.region ?_
      refine ARun.qv (q_move rfl) rfl ?_
      refine ARun.qv (q_move rfl) rfl ?_
      refine ARun.qv (t_slss rfl rfl) rfl ?_
      refine ARun.nil ?_
      refine ATodo.cond rfl (fun hc => ?_) (fun hc => ?_)
      · replace h := iteT hc h
        refine ATodo.seq ?_
        refine ATodo.region ?_
        refine ARun.qv (q_assign rfl) rfl ?_
        refine ARun.nil ?_
        refine ATodo.ret ?_
        obtain rfl := h
        exact ImpX.here ⟨_, .cons (.tmp _ _ rfl) .nil, rfl⟩
      · replace h := iteFb hc h
        refine ATodo.skip ?_
        refine ATodo.seq ?_
        refine ATodo.seq ?_
        refine ATodo.region ?_
        refine ARun.qv (q_move rfl) rfl ?_
        refine ARun.qv (q_move rfl) rfl ?_
        refine ARun.qv (t_sgtr rfl rfl) rfl ?_
        refine ARun.nil ?_
        refine ATodo.cond rfl (fun hc => ?_) (fun hc => ?_)
        · replace h := iteT hc h
          refine ATodo.seq ?_
          refine ATodo.region ?_
          refine ARun.qv (q_assign rfl) rfl ?_
          refine ARun.nil ?_
          refine ATodo.ret ?_
          obtain rfl := h
          exact ImpX.here ⟨_, .cons (.tmp _ _ rfl) .nil, rfl⟩
        · replace h := iteFb hc h
          refine ATodo.skip ?_
          refine ATodo.seq ?_
          refine ATodo.region ?_
          refine ARun.qv (q_assign rfl) rfl ?_
          refine ARun.nil ?_
          refine ATodo.ret ?_
          obtain rfl := h
          exact ImpX.here ⟨_, .cons (.tmp _ _ rfl) .nil, rfl⟩

set_option maxHeartbeats 4000000 in
theorem slices_Compare_string_string_c {p0x0 : List Str} {p1x0 : List Str} {r : Int} (h : slices_Compare_string_string p0x0 p1x0 = some r) : Pu Try.prog 222 [.list 1 (p0x0.map AV.str), .list 1 (p1x0.map AV.str)] (I r) := by
  unfold slices_Compare_string_string at h
  refine ACall.bodyN Try.func222 rfl Try.ntmps222 Try.results222 rfl rfl ?_
  refine ATodo.seq ?_
  refine ATodo.region ?_
  refine ARun.qv (q_assign rfl) rfl ?_
  refine ARun.nil ?_
  refine ATodo.seq ?_
  refine ATodo.seq ?_
  refine ATodo.region ?_
  refine ARun.qv (q_move rfl) rfl ?_
  refine ARun.qv (t_len rfl) rfl ?_
  refine ARun.qv (q_move rfl) rfl ?_
  refine ARun.nil ?_
  refine ATodo.block ?_
  refine ATodo.loopI (fun x : Int => slices_Compare_string_string_b1 p0x0 p1x0 x) (fun x σ' => σ' = ⟨36, [(0, .list 1 (p0x0.map AV.str)), (1, .list 1 (p1x0.map AV.str)), (9, .list 1 (p0x0.map AV.str)), (10, I (p0x0.length : Int)), (11, I x)], []⟩) h ?_ ?_
  · exact ImpX.lessP (by exact ⟨rfl, rfl, rfl, rfl, rfl, True.intro⟩) (.nil) (ImpX.here rfl)
  · intro n2 z1 σ' J1 hmk h hJ1 hA1
    obtain rfl := hmk
    replace h : slices_Compare_string_string_b1 p0x0 p1x0 n2 = some z1 := h
    unfold slices_Compare_string_string_b1 at h
    refine ATodo.seq ?_
    refine ATodo.region ?_
    refine ARun.qv (q_lss rfl rfl) rfl ?_
    refine ARun.nil ?_
    refine ATodo.seq ?_
    refine ATodo.cond_d rfl (fun hc => ?_) (fun hc => ?_)
    · replace h := iteT hc h
      refine ATodo.skip ?_
      refine ATodo.seq ?_
      refine ATodo.block ?_
      refine ATodo.seq ?_
      refine ATodo.region ?_
      refine ARun.qv (q_move rfl) rfl ?_
      obtain ⟨v3, e1, h⟩ := bnd h
      refine ARun.qv (t_index rfl rfl rfl e1 rfl rfl) rfl ?_
      refine ARun.qv (q_load_rptr rfl rfl rfl) rfl ?_
      refine ARun.qv (q_assign rfl) rfl ?_
      refine ARun.qv (q_assign rfl) rfl ?_
      refine ARun.nil ?_
      refine ATodo.seq ?_
      refine ATodo.seq ?_
      refine ATodo.region ?_
      refine ARun.qv (q_move rfl) rfl ?_
      refine ARun.qv (q_move rfl) rfl ?_
      refine ARun.qv (t_len rfl) rfl ?_
      refine ARun.qv (q_geq rfl rfl) rfl ?_
      refine ARun.nil ?_
      refine ATodo.cond_d rfl (fun hc => ?_) (fun hc => ?_)
      · replace h := iteT hc h
        refine ATodo.seq ?_
        refine ATodo.region ?_
        refine ARun.qv (q_assign rfl) rfl ?_
        refine ARun.nil ?_
        refine ATodo.ret ?_
        replace h := outL h hA1
        obtain rfl := Option.some.inj h
        exact ImpX.here ⟨_, .cons (.tmp _ _ rfl) .nil, rfl⟩
      · replace h := iteF hc h
        refine ATodo.skip ?_
        refine ATodo.seq ?_
        refine ATodo.region ?_
        refine ARun.qv (q_move rfl) rfl ?_
        refine ARun.qv (q_move rfl) rfl ?_
        obtain ⟨v4, e2, h⟩ := bnd h
        refine ARun.qv (t_index rfl rfl rfl e2 rfl rfl) rfl ?_
        refine ARun.qv (q_load_rptr rfl rfl rfl) rfl ?_
        refine ARun.qv (q_assign rfl) rfl ?_
        refine ARun.nil ?_
        refine ATodo.seq ?_
        refine ATodo.region ?_
        refine ARun.qv (q_move rfl) rfl ?_
        refine ARun.qv (q_move rfl) rfl ?_
        refine r_callp rfl (cmp_Compare_string_c rfl) (CoL.refl _) rfl ?_
        refine ARun.qv (q_assign rfl) rfl ?_
        refine ARun.nil ?_
        refine ATodo.seq ?_
        refine ATodo.region ?_
        refine ARun.qv (q_move rfl) rfl ?_
        refine ARun.qv (q_neq rfl rfl) rfl ?_
        refine ARun.nil ?_
        refine ATodo.cond_d rfl (fun hc => ?_) (fun hc => ?_)
        · replace h := iteT hc h
          refine ATodo.seq ?_
          refine ATodo.region ?_
          refine ARun.qv (q_move rfl) rfl ?_
          refine ARun.qv (q_assign rfl) rfl ?_
          refine ARun.nil ?_
          refine ATodo.ret ?_
          replace h := outL h hA1
          obtain rfl := Option.some.inj h
          exact ImpX.here ⟨_, .cons (.tmp _ _ rfl) .nil, rfl⟩
        · replace h := iteF hc h
          refine ATodo.skip ?_
          refine ATodo.blk ?_
          refine ATodo.region ?_
          refine ARun.qv (q_addw rfl rfl) rfl ?_
          refine ARun.qv (q_move rfl) rfl ?_
          refine ARun.nil ?_
          refine ATodo.stop ?_
          obtain rfl := Option.some.inj h
          refine hJ1 _ _ rfl ?_
          exact ImpX.lessP (by exact ⟨rfl, rfl, rfl, rfl, rfl, True.intro⟩) (.nil) (ImpX.here rfl)
    · replace h := iteF hc h
      refine ATodo.exit rfl ?_
      replace h := outL h hA1
      unfold slices_Compare_string_string_k1 at h
      refine ATodo.seq ?_
      refine ATodo.seq ?_
      refine ATodo.region ?_
      refine ARun.qv (q_move rfl) rfl ?_
      refine ARun.qv (t_len rfl) rfl ?_
      refine ARun.qv (q_move rfl) rfl ?_
      refine ARun.qv (t_len rfl) rfl ?_
      refine ARun.qv (q_lss rfl rfl) rfl ?_
      refine ARun.nil ?_
      refine ATodo.cond_d rfl (fun hc => ?_) (fun hc => ?_)
      · replace h := iteT hc h
        refine ATodo.seq ?_
        refine ATodo.region ?_
        refine ARun.qv (q_assign rfl) rfl ?_
        refine ARun.nil ?_
        refine ATodo.ret ?_
        obtain rfl := Option.some.inj h
        exact ImpX.here ⟨_, .cons (.tmp _ _ rfl) .nil, rfl⟩
      · replace h := iteF hc h
        refine ATodo.skip ?_
        refine ATodo.seq ?_
        refine ATodo.region ?_
        refine ARun.qv (q_assign rfl) rfl ?_
        refine ARun.nil ?_
        refine ATodo.ret ?_
        obtain rfl := Option.some.inj h
        exact ImpX.here ⟨_, .cons (.tmp _ _ rfl) .nil, rfl⟩

set_option maxHeartbeats 4000000 in
theorem Q_sign_c {p0x0 : Int} {r : Int} (h : Q_sign p0x0 = r) : Pu Try.prog 190 [I p0x0] (I r) := by
  unfold Q_sign at h
  refine ACall.bodyN Try.func190 rfl Try.ntmps190 Try.results190 rfl rfl ?_
  refine ATodo.seq ?_
  refine ATodo.region ?_
  refine ARun.qv (q_assign rfl) rfl ?_
  refine ARun.nil ?_
  refine ATodo.seq ?_
  refine ATodo.block ?_
  refine ATodo.seq ?_
  refine ATodo.region ?_
  refine ARun.qv (q_move rfl) rfl ?_
  refine ARun.qv (q_lss rfl rfl) rfl ?_
  refine ARun.qv (q_assign rfl) rfl ?_
  refine ARun.nil ?_
  refine ATodo.cond_d rfl (fun hc => ?_) (fun hc => ?_)
  · replace h := iteT hc h
    refine ATodo.seq ?_
    refine ATodo.region ?_
    refine ARun.qv (q_assign rfl) rfl ?_
    refine ARun.nil ?_
    refine ATodo.ret ?_
    obtain rfl := h
    exact ImpX.here ⟨_, .cons (.tmp _ _ rfl) .nil, rfl⟩
  · replace h := iteF hc h
    refine ATodo.seq ?_
    refine ATodo.region ?_
    refine ARun.qv (q_move rfl) rfl ?_
    refine ARun.qv (q_gtr rfl rfl) rfl ?_
    refine ARun.qv (q_assign rfl) rfl ?_
    refine ARun.nil ?_
    refine ATodo.cond_d rfl (fun hc => ?_) (fun hc => ?_)
    · replace h := iteT hc h
      refine ATodo.seq ?_
      refine ATodo.region ?_
      refine ARun.qv (q_assign rfl) rfl ?_
      refine ARun.nil ?_
      refine ATodo.ret ?_
      obtain rfl := h
      exact ImpX.here ⟨_, .cons (.tmp _ _ rfl) .nil, rfl⟩
    · replace h := iteF hc h
      refine ATodo.skip ?_
      refine ATodo.blk ?_
      refine ATodo.seq ?_
      refine ATodo.region ?_
      refine ARun.qv (q_assign rfl) rfl ?_
      refine ARun.nil ?_
      refine ATodo.ret ?_
      obtain rfl := h
      exact ImpX.here ⟨_, .cons (.tmp _ _ rfl) .nil, rfl⟩

set_option maxHeartbeats 4000000 in
theorem Q_SampleOrder_c {p0x0 : Sample} {p1x0 : Sample} {r : Int} (h : Q_SampleOrder p0x0 p1x0 = some r) : Pu Try.prog 170 [.agg [.str p0x0.Device, .str p0x0.Metric, I p0x0.At, I p0x0.Value], .agg [.str p1x0.Device, .str p1x0.Metric, I p1x0.At, I p1x0.Value]] (I r) := by
  unfold Q_SampleOrder at h
  refine ACall.bodyN Try.func170 rfl Try.ntmps170 Try.results170 rfl rfl ?_
  refine ATodo.seq ?_
  refine ATodo.region ?_
  refine n_box rfl rfl rfl rfl (fun b1 => ?_)
  refine n_box rfl rfl rfl rfl (fun b2 => ?_)
  refine ARun.qv (q_assign rfl) rfl ?_
  refine ARun.nil ?_
  refine ATodo.seq ?_
  refine ATodo.seq ?_
  refine ATodo.region ?_
  refine ARun.qv (n_field_ptr rfl rfl) rfl ?_
  refine ARun.qv (q_load_ptr rfl rfl (.next .here) rfl) rfl ?_
  refine ARun.qv (n_field_ptr rfl rfl) rfl ?_
  refine ARun.qv (q_load_ptr rfl rfl (.next .here) rfl) rfl ?_
  refine n_buildSliceL (xs := ([p0x0.Device, p0x0.Metric] : List Str).map AV.str) rfl rfl rfl rfl rfl rfl ?_
  refine ARun.qv (n_field_ptr rfl rfl) rfl ?_
  refine ARun.qv (q_load_ptr rfl rfl .here rfl) rfl ?_
  refine ARun.qv (n_field_ptr rfl rfl) rfl ?_
  refine ARun.qv (q_load_ptr rfl rfl .here rfl) rfl ?_
  refine n_buildSliceL (xs := ([p1x0.Device, p1x0.Metric] : List Str).map AV.str) rfl rfl rfl rfl rfl rfl ?_
  obtain ⟨v3, e1, h⟩ := bnd h
  refine r_callp rfl (slices_Compare_string_string_c e1) (CoL.refl _) rfl ?_
  refine ARun.qv (q_assign rfl) rfl ?_
  refine ARun.nil ?_
  refine ATodo.seq ?_
  refine ATodo.region ?_
  refine ARun.qv (q_move rfl) rfl ?_
  refine ARun.qv (q_neq rfl rfl) rfl ?_
  refine ARun.nil ?_
  refine ATodo.cond_d rfl (fun hc => ?_) (fun hc => ?_)
  · replace h := iteT hc h
    refine ATodo.seq ?_
    refine ATodo.region ?_
    refine ARun.qv (q_move rfl) rfl ?_
    refine ARun.qv (q_assign rfl) rfl ?_
    refine ARun.nil ?_
    refine ATodo.ret ?_
    obtain rfl := Option.some.inj h
    exact ImpX.here ⟨_, .cons (.tmp _ _ rfl) .nil, rfl⟩
  · replace h := iteF hc h
    refine ATodo.skip ?_
    refine ATodo.seq ?_
    refine ATodo.region ?_
    refine ARun.qv (n_field_ptr rfl rfl) rfl ?_
    refine ARun.qv (q_load_ptr rfl rfl (.next .here) rfl) rfl ?_
    refine ARun.qv (n_field_ptr rfl rfl) rfl ?_
    refine ARun.qv (q_load_ptr rfl rfl .here rfl) rfl ?_
    refine ARun.qv (q_subw rfl rfl) rfl ?_
    refine r_callp rfl (Q_sign_c rfl) (CoL.refl _) rfl ?_
    refine ARun.qv (q_assign rfl) rfl ?_
    refine ARun.nil ?_
    refine ATodo.ret ?_
    obtain rfl := Option.some.inj h
    exact ImpX.here ⟨_, .cons (.tmp _ _ rfl) .nil, rfl⟩

set_option maxHeartbeats 4000000 in
theorem slices_insertionSortCmpFunc_Sample_c {b_0 : Bk} {p0x0 : List Sample} {p1x0 : Int} {p2x0 : Int} {fnd : Sample → Sample → Option Int} {fnd_F : FuncId} [IsFn Try.prog fnd_F] {fnd_C : List AV} (fnd_h : ∀ {y0 y1 : _} {u : Int}, fnd y0 y1 = some u → Pu Try.prog fnd_F (.agg [.str y0.Device, .str y0.Metric, I y0.At, I y0.Value] :: .agg [.str y1.Device, .str y1.Metric, I y1.At, I y1.Value] ::  fnd_C) (I u)) {r : (List Sample)} (h : slices_insertionSortCmpFunc_Sample p0x0 p1x0 p2x0 fnd = some r) : ACall Try.prog 258 [.sl 4 b_0 0 p0x0.length, I p1x0, I p2x0, .func (.func fnd_F) fnd_C] [(b_0, .arr 4 (p0x0.map Sample.av))] (T0 ([(b_0, .arr 4 (r.map Sample.av))]) (.tup [])) := by
  unfold slices_insertionSortCmpFunc_Sample at h
  refine ACall.lessH ?_
  refine ACall.bodyN Try.func258 rfl Try.ntmps258 Try.results258 rfl rfl ?_
  refine ATodo.seq ?_
  refine ATodo.region ?_
  refine ARun.qv (q_move rfl) rfl ?_
  refine ARun.qv (q_addw rfl rfl) rfl ?_
  refine ARun.qv (q_assign rfl) rfl ?_
  refine ARun.nil ?_
  refine ATodo.block ?_
  refine ATodo.loopI (fun x : (List Sample) × Int => slices_insertionSortCmpFunc_Sample_b1 p1x0 p2x0 fnd x.1 x.2) (fun x σ' => σ' = ⟨53, [(0, .sl 4 b_0 0 x.1.length), (1, I p1x0), (2, I p2x0), (3, .func (.func fnd_F) fnd_C), (8, I x.2)], [(b_0, .arr 4 (x.1.map Sample.av))]⟩) h ?_ ?_
  · exact ImpX.lessP (by exact ⟨rfl, rfl, rfl, rfl, rfl, True.intro⟩) (.cons .here .nil) (ImpX.here rfl)
  · intro x z1 σ' J1 hmk h hJ1 hA1
    obtain ⟨l3, n4⟩ := x
    obtain rfl := hmk
    replace h : slices_insertionSortCmpFunc_Sample_b1 p1x0 p2x0 fnd l3 n4 = some z1 := h
    unfold slices_insertionSortCmpFunc_Sample_b1 at h
    refine ATodo.seq ?_
    refine ATodo.seq ?_
    refine ATodo.region ?_
    refine ARun.qv (q_move rfl) rfl ?_
    refine ARun.qv (q_move rfl) rfl ?_
    refine ARun.qv (q_lss rfl rfl) rfl ?_
    refine ARun.nil ?_
    refine ATodo.cond_d rfl (fun hc => ?_) (fun hc => ?_)
    · replace h := iteT hc h
      refine ATodo.skip ?_
      refine ATodo.seq ?_
      refine ATodo.block ?_
      refine ATodo.seq ?_
      refine ATodo.region ?_
      refine ARun.qv (q_move rfl) rfl ?_
      refine ARun.qv (q_assign rfl) rfl ?_
      refine ARun.nil ?_
      refine ATodo.block ?_
      refine ATodo.loopI (fun x : (List Sample) × Int => slices_insertionSortCmpFunc_Sample_b2 p1x0 fnd n4 x.1 x.2) (fun x σ' => σ' = ⟨53, [(0, .sl 4 b_0 0 x.1.length), (1, I p1x0), (2, I p2x0), (3, .func (.func fnd_F) fnd_C), (8, I n4), (9, I x.2)], [(b_0, .arr 4 (x.1.map Sample.av))]⟩) h ?_ ?_
      · exact ImpX.lessP (by exact ⟨rfl, rfl, rfl, rfl, rfl, rfl, True.intro⟩) (.cons .here .nil) (ImpX.here rfl)
      · intro x z2 σ' J2 hmk h hJ2 hA2
        obtain ⟨l7, n8⟩ := x
        obtain rfl := hmk
        replace h : slices_insertionSortCmpFunc_Sample_b2 p1x0 fnd n4 l7 n8 = some z2 := h
        unfold slices_insertionSortCmpFunc_Sample_b2 at h
        refine ATodo.seq ?_
        refine ATodo.seq ?_
        refine ATodo.cut (fun σ' => ∃ (c9 : Bool), slices_insertionSortCmpFunc_Sample_j1 n4 l7 n8 c9 = some z2 ∧ σ' = ⟨53, [(0, .sl 4 b_0 0 l7.length), (1, I p1x0), (2, I p2x0), (3, .func (.func fnd_F) fnd_C), (8, I n4), (9, I n8), (34, .bool c9)], [(b_0, .arr 4 (l7.map Sample.av))]⟩) ?_ ?_
        · refine ATodo.regionM (id := 4) (A := [0, 0, 3, 7, 15, 15, 15, 111, 239, 15, 15, 1039, 3599, 7695, 16383, 32767, 65535]) 14 mixed rfl (by kernel_rfl) (by kernel_rfl) ?_
          refine AM.qv (q_move rfl) rfl ?_
          refine AM.qv (q_move rfl) rfl ?_
          refine AM.qv (q_gtr rfl rfl) rfl ?_
          refine AM.qv (q_move rfl) rfl ?_
          refine AM.guard_dt rfl rfl rfl (fun hc => ?_) (fun hc => ?_)
          · replace h := iteT hc h
            refine AM.qv (q_move rfl) rfl ?_
            refine AM.guard_yes rfl rfl rfl ?_
            refine AM.qv (q_move rfl) rfl ?_
            refine AM.guard_yes rfl rfl rfl ?_
            refine AM.qv (q_move rfl) rfl ?_
            refine AM.guard_yes rfl rfl rfl ?_
            obtain ⟨v10, e1, h⟩ := bnd h
            refine AM.qv (t_index_sl rfl rfl rfl e1) rfl ?_
            refine AM.guard_yes rfl rfl rfl ?_
            refine AM.qv (t_load_aptr_agg (g := Sample.av) rfl rfl (.inl .here) rfl e1 rfl) rfl ?_
            refine AM.guard_yes rfl rfl rfl ?_
            refine AM.qv (q_move rfl) rfl ?_
            refine AM.guard_yes rfl rfl rfl ?_
            refine AM.qv (q_move rfl) rfl ?_
            refine AM.guard_yes rfl rfl rfl ?_
            refine AM.qv (q_subw rfl rfl) rfl ?_
            refine AM.guard_yes rfl rfl rfl ?_
            obtain ⟨v11, e2, h⟩ := bnd h
            refine AM.qv (t_index_sl rfl rfl rfl e2) rfl ?_
            refine AM.guard_yes rfl rfl rfl ?_
            refine AM.qv (t_load_aptr_agg (g := Sample.av) rfl rfl (.inl .here) rfl e2 rfl) rfl ?_
            refine AM.nil ?_
            refine ARun.guard_yes rfl rfl rfl ?_
            obtain ⟨v12, e3, h⟩ := bnd h
            refine r_callvp rfl rfl (fnd_h e3) (CoL.refl _) rfl ?_
            refine ARun.guard_yes rfl rfl rfl ?_
            refine ARun.qv (q_lss rfl rfl) rfl ?_
            refine ARun.qv (q_pick_t rfl rfl) rfl ?_
            refine ARun.nil ?_
            refine ATodo.stop ?_
            exact ImpX.lessP (by exact ⟨rfl, rfl, rfl, rfl, rfl, rfl, rfl, True.intro⟩) (.cons .here .nil) (ImpX.here ⟨decide (v12 < (0 : Int)), h, rfl⟩)
          · replace h := iteF hc h
            refine AM.guard_no rfl rfl rfl rfl ?_
            refine AM.guard_no rfl rfl rfl rfl ?_
            refine AM.guard_no rfl rfl rfl rfl ?_
            refine AM.guard_no rfl rfl rfl rfl ?_
            refine AM.guard_no rfl rfl rfl rfl ?_
            refine AM.guard_no rfl rfl rfl rfl ?_
            refine AM.guard_no rfl rfl rfl rfl ?_
            refine AM.guard_no rfl rfl rfl rfl ?_
            refine AM.guard_no rfl rfl rfl rfl ?_
            refine AM.nil ?_
            refine ARun.guard_no rfl rfl rfl rfl ?_
            refine ARun.guard_no rfl rfl rfl rfl ?_
            refine ARun.qv (q_pick_f rfl rfl) rfl ?_
            refine ARun.nil ?_
            refine ATodo.stop ?_
            exact ImpX.lessP (by exact ⟨rfl, rfl, rfl, rfl, rfl, rfl, rfl, True.intro⟩) (.cons .here .nil) (ImpX.here ⟨false, h, rfl⟩)
        · rintro σ' ⟨c9, h, rfl⟩
          unfold slices_insertionSortCmpFunc_Sample_j1 at h
          refine ATodo.cond rfl (fun hc => ?_) (fun hc => ?_)
          · replace h := iteT hc h
            refine ATodo.skip ?_
            refine ATodo.seq ?_
            refine ATodo.block ?_
            obtain ⟨v13, e4, h⟩ := bnd h
            obtain ⟨v14, e5, h⟩ := bnd h
            obtain ⟨v15, e6, h⟩ := bnd h
            refine ATodo.regionT (id := 6) (A := [0, 0, 0, 0, 8, 0, 0, 64, 224, 480, 0, 0, 3072, 7168, 16355, 32739, 65535, 131071]) (H0 := [(b_0, .arr 4 (l7.map Sample.av))]) (HH := fun β => [(b_0, .arr 4 ((l7.set n8.toNat v13).map Sample.av))]) 16 mixed rfl (by kernel_rfl) (by kernel_rfl) [⟨none, some 15, [9, 13], fun _ => (b_0, .arr 4 (l7.map Sample.av)), none⟩, ⟨some 15, none, [], fun _ => (b_0, .arr 4 ((l7.set n8.toNat v13).map Sample.av)), none⟩] [] rfl (by kernel_rfl) rfl (.cons .here .nil) (fun _ => rfl) ?_
            refine AT.am 9 rfl rfl ?_
            refine AM.qv (q_move rfl) rfl ?_
            refine AM.qv (q_move rfl) rfl ?_
            refine AM.qv (q_move rfl) rfl ?_
            refine AM.qv (q_move rfl) rfl ?_
            refine AM.qv (q_subw rfl rfl) rfl ?_
            refine AM.qv (q_move rfl) rfl ?_
            refine AM.qv (q_move rfl) rfl ?_
            refine AM.qv (q_subw rfl rfl) rfl ?_
            refine AM.qv (t_index_sl rfl rfl rfl e4) rfl ?_
            refine AM.nil ?_
            refine AT.rd (Rs := [(b_0, .arr 4 (l7.map Sample.av))]) (fun _ => rfl) rfl (fun _ => rfl) (fun _ => rfl) (t_load_aptr_agg (g := Sample.av) rfl rfl (.inl .here) rfl e4 rfl) rfl ?_
            refine AT.am 3 rfl rfl ?_
            refine AM.qv (q_move rfl) rfl ?_
            refine AM.qv (q_move rfl) rfl ?_
            refine AM.qv (t_index_sl rfl rfl rfl e5) rfl ?_
            refine AM.nil ?_
            refine AT.rd (Rs := [(b_0, .arr 4 (l7.map Sample.av))]) (fun _ => rfl) rfl (fun _ => rfl) (fun _ => rfl) (t_load_aptr_agg (g := Sample.av) rfl rfl (.inl .here) rfl e5 rfl) rfl ?_
            refine AT.am 1 rfl rfl ?_
            refine AM.qv (t_index_sl rfl rfl rfl e6) rfl ?_
            refine AM.nil ?_
            refine AT.run0 (Ti := [(b_0, .arr 4 (l7.map Sample.av))]) (Pi := [(b_0, .arr 4 ((l7.set n8.toNat v13).map Sample.av))]) (fun _ => rfl) (fun _ => rfl) (fun _ => rfl) rfl rfl ?_ ?_
            · refine t_store_aptr1 (g := Sample.av) (el' := v13) rfl rfl rfl rfl e6 rfl .here rfl ?_
              exact ARun.nil ⟨_, rfl⟩
            refine AT.nilN (fun _ => rfl) (fun β => ?_)
            refine ARun.ghost (ImpX.eqs (s := 0) (av' := .sl 4 b_0 0 (l7.set n8.toNat v13).length) rfl (by simp) (ImpX.here ?_))
            refine ARun.ghost (ImpX.eqs (s := 37) (av' := .sl 4 b_0 0 (l7.set n8.toNat v13).length) rfl (by simp) (ImpX.here ?_))
            refine ARun.ghost (ImpX.eqs (s := 39) (av' := .sl 4 b_0 0 (l7.set n8.toNat v13).length) rfl (by simp) (ImpX.here ?_))
            refine ARun.ghost (ImpX.eqs (s := 42) (av' := .sl 4 b_0 0 (l7.set n8.toNat v13).length) rfl (by simp) (ImpX.here ?_))
            refine ARun.ghost (ImpX.eqs (s := 47) (av' := .sl 4 b_0 0 (l7.set n8.toNat v13).length) rfl (by simp) (ImpX.here ?_))
            obtain ⟨v16, e7, h⟩ := bnd h
            refine ARun.qv (t_index_sl rfl rfl rfl e7) rfl ?_
            refine t_store_aptr1 (g := Sample.av) (el' := v14) rfl rfl rfl rfl e7 rfl .here rfl ?_
            refine ARun.ghost (ImpX.eqs (s := 0) (av' := .sl 4 b_0 0 ((l7.set n8.toNat v13).set (w64 (n8 - (1 : Int))).toNat v14).length) rfl (by rw [List.length_set]) (ImpX.here ?_))
            refine ARun.ghost (ImpX.eqs (s := 37) (av' := .sl 4 b_0 0 ((l7.set n8.toNat v13).set (w64 (n8 - (1 : Int))).toNat v14).length) rfl (by rw [List.length_set]) (ImpX.here ?_))
            refine ARun.ghost (ImpX.eqs (s := 39) (av' := .sl 4 b_0 0 ((l7.set n8.toNat v13).set (w64 (n8 - (1 : Int))).toNat v14).length) rfl (by rw [List.length_set]) (ImpX.here ?_))
            refine ARun.ghost (ImpX.eqs (s := 42) (av' := .sl 4 b_0 0 ((l7.set n8.toNat v13).set (w64 (n8 - (1 : Int))).toNat v14).length) rfl (by rw [List.length_set]) (ImpX.here ?_))
            refine ARun.ghost (ImpX.eqs (s := 47) (av' := .sl 4 b_0 0 ((l7.set n8.toNat v13).set (w64 (n8 - (1 : Int))).toNat v14).length) rfl (by rw [List.length_set]) (ImpX.here ?_))
            refine ARun.nil ?_
            refine ATodo.blk ?_
            refine ATodo.region ?_
            refine ARun.qv (q_move rfl) rfl ?_
            refine ARun.qv (q_subw rfl rfl) rfl ?_
            refine ARun.qv (q_assign rfl) rfl ?_
            refine ARun.nil ?_
            refine ATodo.stop ?_
            obtain rfl := Option.some.inj h
            refine hJ2 _ _ rfl ?_
            exact ImpX.lessP (by exact ⟨rfl, rfl, rfl, rfl, rfl, rfl, True.intro⟩) (.cons .here .nil) (ImpX.here rfl)
          · replace h := iteFb hc h
            refine ATodo.exit rfl ?_
            replace h := outL h hA2
            refine ATodo.blk ?_
            refine ATodo.region ?_
            refine ARun.qv (q_move rfl) rfl ?_
            refine ARun.qv (q_addw rfl rfl) rfl ?_
            refine ARun.qv (q_assign rfl) rfl ?_
            refine ARun.nil ?_
            refine ATodo.stop ?_
            obtain rfl := Option.some.inj h
            refine hJ1 _ _ rfl ?_
            exact ImpX.lessP (by exact ⟨rfl, rfl, rfl, rfl, rfl, True.intro⟩) (.cons .here .nil) (ImpX.here rfl)
    · replace h := iteF hc h
      refine ATodo.exit rfl ?_
      replace h := outL h hA1
      refine ATodo.nil ?_
      obtain rfl := Option.some.inj h
      exact ImpX.here ⟨_, .nil, _, .cons .here .nil, ⟨rfl, rfl⟩⟩

set_option maxHeartbeats 4000000 in
theorem slices_swapRangeCmpFunc_Sample_c {b_0 : Bk} {p0x0 : List Sample} {p1x0 : Int} {p2x0 : Int} {p3x0 : Int} {fne : Sample → Sample → Option Int} {fne_F : FuncId} [IsFn Try.prog fne_F] {fne_C : List AV} (fne_h : ∀ {y0 y1 : _} {u : Int}, fne y0 y1 = some u → Pu Try.prog fne_F (.agg [.str y0.Device, .str y0.Metric, I y0.At, I y0.Value] :: .agg [.str y1.Device, .str y1.Metric, I y1.At, I y1.Value] ::  fne_C) (I u)) {r : (List Sample)} (h : slices_swapRangeCmpFunc_Sample p0x0 p1x0 p2x0 p3x0 fne = some r) : ACall Try.prog 298 [.sl 4 b_0 0 p0x0.length, I p1x0, I p2x0, I p3x0, .func (.func fne_F) fne_C] [(b_0, .arr 4 (p0x0.map Sample.av))] (T0 ([(b_0, .arr 4 (r.map Sample.av))]) (.tup [])) := by
  unfold slices_swapRangeCmpFunc_Sample at h
  refine ACall.lessH ?_
  refine ACall.bodyN Try.func298 rfl Try.ntmps298 Try.results298 rfl rfl ?_
  refine ATodo.seq ?_
  refine ATodo.region ?_
  refine ARun.qv (q_assign rfl) rfl ?_
  refine ARun.nil ?_
  refine ATodo.block ?_
  refine ATodo.loopI (fun x : (List Sample) × Int => slices_swapRangeCmpFunc_Sample_b1 p1x0 p2x0 p3x0 x.1 x.2) (fun x σ' => σ' = ⟨38, [(0, .sl 4 b_0 0 x.1.length), (1, I p1x0), (2, I p2x0), (3, I p3x0), (10, I x.2)], [(b_0, .arr 4 (x.1.map Sample.av))]⟩) h ?_ ?_
  · exact ImpX.lessP (by exact ⟨rfl, rfl, rfl, rfl, rfl, True.intro⟩) (.cons .here .nil) (ImpX.here rfl)
  · intro x z1 σ' J1 hmk h hJ1 hA1
    obtain ⟨l3, n4⟩ := x
    obtain rfl := hmk
    replace h : slices_swapRangeCmpFunc_Sample_b1 p1x0 p2x0 p3x0 l3 n4 = some z1 := h
    unfold slices_swapRangeCmpFunc_Sample_b1 at h
    refine ATodo.seq ?_
    refine ATodo.seq ?_
    refine ATodo.region ?_
    refine ARun.qv (q_move rfl) rfl ?_
    refine ARun.qv (q_move rfl) rfl ?_
    refine ARun.qv (q_lss rfl rfl) rfl ?_
    refine ARun.nil ?_
    refine ATodo.cond_d rfl (fun hc => ?_) (fun hc => ?_)
    · replace h := iteT hc h
      refine ATodo.skip ?_
      refine ATodo.seq ?_
      refine ATodo.block ?_
      obtain ⟨v5, e1, h⟩ := bnd h
      obtain ⟨v6, e2, h⟩ := bnd h
      obtain ⟨v7, e3, h⟩ := bnd h
      refine ATodo.regionT (id := 3) (A := [0, 0, 0, 6, 0, 0, 0, 96, 0, 0, 0, 1536, 3840, 7936, 0, 0, 0, 98304, 245760, 507904, 1048335, 2096911, 4194303, 8388607]) (H0 := [(b_0, .arr 4 (l3.map Sample.av))]) (HH := fun β => [(b_0, .arr 4 ((l3.set (w64 (p1x0 + n4)).toNat v5).map Sample.av))]) 22 mixed rfl (by kernel_rfl) (by kernel_rfl) [⟨none, some 21, [13, 19], fun _ => (b_0, .arr 4 (l3.map Sample.av)), none⟩, ⟨some 21, none, [], fun _ => (b_0, .arr 4 ((l3.set (w64 (p1x0 + n4)).toNat v5).map Sample.av)), none⟩] [] rfl (by kernel_rfl) rfl (.cons .here .nil) (fun _ => rfl) ?_
      refine AT.am 13 rfl rfl ?_
      refine AM.qv (q_move rfl) rfl ?_
      refine AM.qv (q_move rfl) rfl ?_
      refine AM.qv (q_move rfl) rfl ?_
      refine AM.qv (q_addw rfl rfl) rfl ?_
      refine AM.qv (q_move rfl) rfl ?_
      refine AM.qv (q_move rfl) rfl ?_
      refine AM.qv (q_move rfl) rfl ?_
      refine AM.qv (q_addw rfl rfl) rfl ?_
      refine AM.qv (q_move rfl) rfl ?_
      refine AM.qv (q_move rfl) rfl ?_
      refine AM.qv (q_move rfl) rfl ?_
      refine AM.qv (q_addw rfl rfl) rfl ?_
      refine AM.qv (t_index_sl rfl rfl rfl e1) rfl ?_
      refine AM.nil ?_
      refine AT.rd (Rs := [(b_0, .arr 4 (l3.map Sample.av))]) (fun _ => rfl) rfl (fun _ => rfl) (fun _ => rfl) (t_load_aptr_agg (g := Sample.av) rfl rfl (.inl .here) rfl e1 rfl) rfl ?_
      refine AT.am 5 rfl rfl ?_
      refine AM.qv (q_move rfl) rfl ?_
      refine AM.qv (q_move rfl) rfl ?_
      refine AM.qv (q_move rfl) rfl ?_
      refine AM.qv (q_addw rfl rfl) rfl ?_
      refine AM.qv (t_index_sl rfl rfl rfl e2) rfl ?_
      refine AM.nil ?_
      refine AT.rd (Rs := [(b_0, .arr 4 (l3.map Sample.av))]) (fun _ => rfl) rfl (fun _ => rfl) (fun _ => rfl) (t_load_aptr_agg (g := Sample.av) rfl rfl (.inl .here) rfl e2 rfl) rfl ?_
      refine AT.am 1 rfl rfl ?_
      refine AM.qv (t_index_sl rfl rfl rfl e3) rfl ?_
      refine AM.nil ?_
      refine AT.run0 (Ti := [(b_0, .arr 4 (l3.map Sample.av))]) (Pi := [(b_0, .arr 4 ((l3.set (w64 (p1x0 + n4)).toNat v5).map Sample.av))]) (fun _ => rfl) (fun _ => rfl) (fun _ => rfl) rfl rfl ?_ ?_
      · refine t_store_aptr1 (g := Sample.av) (el' := v5) rfl rfl rfl rfl e3 rfl .here rfl ?_
        exact ARun.nil ⟨_, rfl⟩
      refine AT.nilN (fun _ => rfl) (fun β => ?_)
      refine ARun.ghost (ImpX.eqs (s := 0) (av' := .sl 4 b_0 0 (l3.set (w64 (p1x0 + n4)).toNat v5).length) rfl (by simp) (ImpX.here ?_))
      refine ARun.ghost (ImpX.eqs (s := 16) (av' := .sl 4 b_0 0 (l3.set (w64 (p1x0 + n4)).toNat v5).length) rfl (by simp) (ImpX.here ?_))
      refine ARun.ghost (ImpX.eqs (s := 20) (av' := .sl 4 b_0 0 (l3.set (w64 (p1x0 + n4)).toNat v5).length) rfl (by simp) (ImpX.here ?_))
      refine ARun.ghost (ImpX.eqs (s := 24) (av' := .sl 4 b_0 0 (l3.set (w64 (p1x0 + n4)).toNat v5).length) rfl (by simp) (ImpX.here ?_))
      refine ARun.ghost (ImpX.eqs (s := 30) (av' := .sl 4 b_0 0 (l3.set (w64 (p1x0 + n4)).toNat v5).length) rfl (by simp) (ImpX.here ?_))
      obtain ⟨v8, e4, h⟩ := bnd h
      refine ARun.qv (t_index_sl rfl rfl rfl e4) rfl ?_
      refine t_store_aptr1 (g := Sample.av) (el' := v6) rfl rfl rfl rfl e4 rfl .here rfl ?_
      refine ARun.ghost (ImpX.eqs (s := 0) (av' := .sl 4 b_0 0 ((l3.set (w64 (p1x0 + n4)).toNat v5).set (w64 (p2x0 + n4)).toNat v6).length) rfl (by rw [List.length_set]) (ImpX.here ?_))
      refine ARun.ghost (ImpX.eqs (s := 16) (av' := .sl 4 b_0 0 ((l3.set (w64 (p1x0 + n4)).toNat v5).set (w64 (p2x0 + n4)).toNat v6).length) rfl (by rw [List.length_set]) (ImpX.here ?_))
      refine ARun.ghost (ImpX.eqs (s := 20) (av' := .sl 4 b_0 0 ((l3.set (w64 (p1x0 + n4)).toNat v5).set (w64 (p2x0 + n4)).toNat v6).length) rfl (by rw [List.length_set]) (ImpX.here ?_))
      refine ARun.ghost (ImpX.eqs (s := 24) (av' := .sl 4 b_0 0 ((l3.set (w64 (p1x0 + n4)).toNat v5).set (w64 (p2x0 + n4)).toNat v6).length) rfl (by rw [List.length_set]) (ImpX.here ?_))
      refine ARun.ghost (ImpX.eqs (s := 30) (av' := .sl 4 b_0 0 ((l3.set (w64 (p1x0 + n4)).toNat v5).set (w64 (p2x0 + n4)).toNat v6).length) rfl (by rw [List.length_set]) (ImpX.here ?_))
      refine ARun.nil ?_
      refine ATodo.blk ?_
      refine ATodo.region ?_
      refine ARun.qv (q_move rfl) rfl ?_
      refine ARun.qv (q_addw rfl rfl) rfl ?_
      refine ARun.qv (q_assign rfl) rfl ?_
      refine ARun.nil ?_
      refine ATodo.stop ?_
      obtain rfl := Option.some.inj h
      refine hJ1 _ _ rfl ?_
      exact ImpX.lessP (by exact ⟨rfl, rfl, rfl, rfl, rfl, True.intro⟩) (.cons .here .nil) (ImpX.here rfl)
    · replace h := iteF hc h
      refine ATodo.exit rfl ?_
      replace h := outL h hA1
      refine ATodo.nil ?_
      obtain rfl := Option.some.inj h
      exact ImpX.here ⟨_, .nil, _, .cons .here .nil, ⟨rfl, rfl⟩⟩

set_option maxHeartbeats 4000000 in
theorem slices_rotateCmpFunc_Sample_c {b_0 : Bk} {p0x0 : List Sample} {p1x0 : Int} {p2x0 : Int} {p3x0 : Int} {fne : Sample → Sample → Option Int} {fne_F : FuncId} [IsFn Try.prog fne_F] {fne_C : List AV} (fne_h : ∀ {y0 y1 : _} {u : Int}, fne y0 y1 = some u → Pu Try.prog fne_F (.agg [.str y0.Device, .str y0.Metric, I y0.At, I y0.Value] :: .agg [.str y1.Device, .str y1.Metric, I y1.At, I y1.Value] ::  fne_C) (I u)) {r : (List Sample)} (h : slices_rotateCmpFunc_Sample p0x0 p1x0 p2x0 p3x0 fne = some r) : ACall Try.prog 287 [.sl 4 b_0 0 p0x0.length, I p1x0, I p2x0, I p3x0, .func (.func fne_F) fne_C] [(b_0, .arr 4 (p0x0.map Sample.av))] (T0 ([(b_0, .arr 4 (r.map Sample.av))]) (.tup [])) := by
  unfold slices_rotateCmpFunc_Sample at h
  refine ACall.lessH ?_
  refine ACall.bodyN Try.func287 rfl Try.ntmps287 Try.results287 rfl rfl ?_
  refine ATodo.seq ?_
  refine ATodo.region ?_
  refine ARun.qv (q_move rfl) rfl ?_
  refine ARun.qv (q_move rfl) rfl ?_
  refine ARun.qv (q_subw rfl rfl) rfl ?_
  refine ARun.qv (q_assign rfl) rfl ?_
  refine ARun.nil ?_
  refine ATodo.seq ?_
  refine ATodo.region ?_
  refine ARun.qv (q_move rfl) rfl ?_
  refine ARun.qv (q_move rfl) rfl ?_
  refine ARun.qv (q_subw rfl rfl) rfl ?_
  refine ARun.qv (q_assign rfl) rfl ?_
  refine ARun.nil ?_
  refine ATodo.seq ?_
  refine ATodo.block ?_
  refine ATodo.loopI (fun x : (List Sample) × Int × Int => slices_rotateCmpFunc_Sample_b1 p2x0 fne x.1 x.2.1 x.2.2) (fun x σ' => σ' = ⟨58, [(0, .sl 4 b_0 0 x.1.length), (2, I p2x0), (4, .func (.func fne_F) fne_C), (10, I x.2.1), (11, I x.2.2)], [(b_0, .arr 4 (x.1.map Sample.av))]⟩) h ?_ ?_
  · exact ImpX.lessP (by exact ⟨rfl, rfl, rfl, rfl, rfl, True.intro⟩) (.cons .here .nil) (ImpX.here rfl)
  · intro x z1 σ' J1 hmk h hJ1 hA1
    obtain ⟨l4, n5, n6⟩ := x
    obtain rfl := hmk
    replace h : slices_rotateCmpFunc_Sample_b1 p2x0 fne l4 n5 n6 = some z1 := h
    unfold slices_rotateCmpFunc_Sample_b1 at h
    refine ATodo.seq ?_
    refine ATodo.seq ?_
    refine ATodo.region ?_
    refine ARun.qv (q_move rfl) rfl ?_
    refine ARun.qv (q_move rfl) rfl ?_
    refine ARun.qv (q_neq rfl rfl) rfl ?_
    refine ARun.nil ?_
    refine ATodo.cond_d rfl (fun hc => ?_) (fun hc => ?_)
    · replace h := iteT hc h
      refine ATodo.skip ?_
      refine ATodo.block ?_
      refine ATodo.seq ?_
      refine ATodo.region ?_
      refine ARun.qv (q_move rfl) rfl ?_
      refine ARun.qv (q_move rfl) rfl ?_
      refine ARun.qv (q_gtr rfl rfl) rfl ?_
      refine ARun.nil ?_
      refine ATodo.cut (fun σ' => ∃ (l7 : List Sample) (n8 : Int) (n9 : Int), slices_rotateCmpFunc_Sample_j1 l7 n8 n9 = some z1 ∧ σ' = ⟨58, [(0, .sl 4 b_0 0 l7.length), (2, I p2x0), (4, .func (.func fne_F) fne_C), (10, I n8), (11, I n9)], [(b_0, .arr 4 (l7.map Sample.av))]⟩) ?_ ?_
      · refine ATodo.cond_d rfl (fun hc => ?_) (fun hc => ?_)
        · replace h := iteT hc h
          refine ATodo.seq ?_
          refine ATodo.region ?_
          refine ARun.qv (q_move rfl) rfl ?_
          refine ARun.qv (q_move rfl) rfl ?_
          refine ARun.qv (q_move rfl) rfl ?_
          refine ARun.qv (q_subw rfl rfl) rfl ?_
          refine ARun.qv (q_move rfl) rfl ?_
          refine ARun.qv (q_move rfl) rfl ?_
          refine ARun.qv (q_move rfl) rfl ?_
          obtain ⟨v10, e1, h⟩ := bnd h
          refine t_call0 rfl (slices_swapRangeCmpFunc_Sample_c fne_h (lenOk_f e1)) (CoL.refl _) (.cons .here .nil) rfl rfl ?_
          refine ARun.ghost (ImpX.eqs (s := 0) (av' := .sl 4 b_0 0 v10.length) rfl (congrArg (AV.sl 4 b_0 0) (lenOk_l e1)) (ImpX.here ?_))
          refine ARun.ghost (ImpX.eqs (s := 24) (av' := .sl 4 b_0 0 v10.length) rfl (congrArg (AV.sl 4 b_0 0) (lenOk_l e1)) (ImpX.here ?_))
          refine ARun.nil ?_
          refine ATodo.region ?_
          refine ARun.qv (q_move rfl) rfl ?_
          refine ARun.qv (q_move rfl) rfl ?_
          refine ARun.qv (q_subw rfl rfl) rfl ?_
          refine ARun.qv (q_assign rfl) rfl ?_
          refine ARun.nil ?_
          refine ATodo.stop ?_
          exact ImpX.lessP (by exact ⟨rfl, rfl, rfl, rfl, rfl, True.intro⟩) (.cons .here .nil) (ImpX.here ⟨v10, w64 (n5 - n6), n6, h, rfl⟩)
        · replace h := iteF hc h
          refine ATodo.seq ?_
          refine ATodo.region ?_
          refine ARun.qv (q_move rfl) rfl ?_
          refine ARun.qv (q_move rfl) rfl ?_
          refine ARun.qv (q_move rfl) rfl ?_
          refine ARun.qv (q_subw rfl rfl) rfl ?_
          refine ARun.qv (q_move rfl) rfl ?_
          refine ARun.qv (q_move rfl) rfl ?_
          refine ARun.qv (q_addw rfl rfl) rfl ?_
          refine ARun.qv (q_move rfl) rfl ?_
          refine ARun.qv (q_subw rfl rfl) rfl ?_
          refine ARun.qv (q_move rfl) rfl ?_
          refine ARun.qv (q_move rfl) rfl ?_
          obtain ⟨v11, e2, h⟩ := bnd h
          refine t_call0 rfl (slices_swapRangeCmpFunc_Sample_c fne_h (lenOk_f e2)) (CoL.refl _) (.cons .here .nil) rfl rfl ?_
          refine ARun.ghost (ImpX.eqs (s := 0) (av' := .sl 4 b_0 0 v11.length) rfl (congrArg (AV.sl 4 b_0 0) (lenOk_l e2)) (ImpX.here ?_))
          refine ARun.ghost (ImpX.eqs (s := 35) (av' := .sl 4 b_0 0 v11.length) rfl (congrArg (AV.sl 4 b_0 0) (lenOk_l e2)) (ImpX.here ?_))
          refine ARun.nil ?_
          refine ATodo.region ?_
          refine ARun.qv (q_move rfl) rfl ?_
          refine ARun.qv (q_move rfl) rfl ?_
          refine ARun.qv (q_subw rfl rfl) rfl ?_
          refine ARun.qv (q_assign rfl) rfl ?_
          refine ARun.nil ?_
          refine ATodo.stop ?_
          exact ImpX.lessP (by exact ⟨rfl, rfl, rfl, rfl, rfl, True.intro⟩) (.cons .here .nil) (ImpX.here ⟨v11, n5, w64 (n6 - n5), h, rfl⟩)
      · rintro σ' ⟨l7, n8, n9, h, rfl⟩
        unfold slices_rotateCmpFunc_Sample_j1 at h
        refine ATodo.blk ?_
        refine ATodo.stop ?_
        obtain rfl := Option.some.inj h
        refine hJ1 _ _ rfl ?_
        exact ImpX.lessP (by exact ⟨rfl, rfl, rfl, rfl, rfl, True.intro⟩) (.cons .here .nil) (ImpX.here rfl)
    · replace h := iteF hc h
      refine ATodo.exit rfl ?_
      replace h := outL h hA1
      unfold slices_rotateCmpFunc_Sample_k2 at h
      refine ATodo.region ?_
      refine ARun.qv (q_move rfl) rfl ?_
      refine ARun.qv (q_move rfl) rfl ?_
      refine ARun.qv (q_move rfl) rfl ?_
      refine ARun.qv (q_subw rfl rfl) rfl ?_
      refine ARun.qv (q_move rfl) rfl ?_
      refine ARun.qv (q_move rfl) rfl ?_
      refine ARun.qv (q_move rfl) rfl ?_
      obtain ⟨v12, e3, h⟩ := bnd h
      refine t_call0 rfl (slices_swapRangeCmpFunc_Sample_c fne_h (lenOk_f e3)) (CoL.refl _) (.cons .here .nil) rfl rfl ?_
      refine ARun.ghost (ImpX.eqs (s := 0) (av' := .sl 4 b_0 0 v12.length) rfl (congrArg (AV.sl 4 b_0 0) (lenOk_l e3)) (ImpX.here ?_))
      refine ARun.ghost (ImpX.eqs (s := 50) (av' := .sl 4 b_0 0 v12.length) rfl (congrArg (AV.sl 4 b_0 0) (lenOk_l e3)) (ImpX.here ?_))
      refine ARun.nil ?_
      refine ATodo.nil ?_
      obtain rfl := Option.some.inj h
      exact ImpX.here ⟨_, .nil, _, .cons .here .nil, ⟨rfl, rfl⟩⟩

set_option maxHeartbeats 4000000 in
theorem slices_symMergeCmpFunc_Sample_bd_c {b_0 : Bk} {self : (List Sample) → Int → Int → Int → (Sample → Sample → Option Int) → Option (List Sample)} (self_h : ∀ {b_0 : Bk} {p0x0 : List Sample} {p1x0 : Int} {p2x0 : Int} {p3x0 : Int} {fne : Sample → Sample → Option Int} {fne_F : FuncId} [IsFn Try.prog fne_F] {fne_C : List AV} (fne_h : ∀ {y0 y1 : _} {u : Int}, fne y0 y1 = some u → Pu Try.prog fne_F (.agg [.str y0.Device, .str y0.Metric, I y0.At, I y0.Value] :: .agg [.str y1.Device, .str y1.Metric, I y1.At, I y1.Value] ::  fne_C) (I u)) {r : (List Sample)}, self p0x0 p1x0 p2x0 p3x0 fne = some r → ACall Try.prog 259 [.sl 4 b_0 0 p0x0.length, I p1x0, I p2x0, I p3x0, .func (.func fne_F) fne_C] [(b_0, .arr 4 (p0x0.map Sample.av))] (T0 ([(b_0, .arr 4 (r.map Sample.av))]) (.tup []))) {p0x0 : List Sample} {p1x0 : Int} {p2x0 : Int} {p3x0 : Int} {fne : Sample → Sample → Option Int} {fne_F : FuncId} [IsFn Try.prog fne_F] {fne_C : List AV} (fne_h : ∀ {y0 y1 : _} {u : Int}, fne y0 y1 = some u → Pu Try.prog fne_F (.agg [.str y0.Device, .str y0.Metric, I y0.At, I y0.Value] :: .agg [.str y1.Device, .str y1.Metric, I y1.At, I y1.Value] ::  fne_C) (I u)) {r : (List Sample)} (h : slices_symMergeCmpFunc_Sample_bd self p0x0 p1x0 p2x0 p3x0 fne = some r) : ACall Try.prog 259 [.sl 4 b_0 0 p0x0.length, I p1x0, I p2x0, I p3x0, .func (.func fne_F) fne_C] [(b_0, .arr 4 (p0x0.map Sample.av))] (T0 ([(b_0, .arr 4 (r.map Sample.av))]) (.tup [])) := by
  unfold slices_symMergeCmpFunc_Sample_bd at h
  refine ACall.lessH ?_
  refine ACall.bodyN Try.func259 rfl Try.ntmps259 Try.results259 rfl rfl ?_
  refine ATodo.seq ?_
  refine ATodo.seq ?_
  refine ATodo.region ?_
  refine ARun.qv (q_move rfl) rfl ?_
  refine ARun.qv (q_move rfl) rfl ?_
  refine ARun.qv (q_subw rfl rfl) rfl ?_
  refine ARun.qv (q_eql rfl rfl) rfl ?_
  refine ARun.nil ?_
  refine ATodo.cond_d rfl (fun hc => ?_) (fun hc => ?_)
  · replace h := iteT hc h
    refine ATodo.seq ?_
    refine ATodo.region ?_
    refine ARun.qv (q_move rfl) rfl ?_
    refine ARun.qv (q_assign rfl) rfl ?_
    refine ARun.nil ?_
    refine ATodo.seq ?_
    refine ATodo.region ?_
    refine ARun.qv (q_move rfl) rfl ?_
    refine ARun.qv (q_assign rfl) rfl ?_
    refine ARun.nil ?_
    refine ATodo.seq ?_
    refine ATodo.block ?_
    refine ATodo.loopI (fun x : Int × Int => slices_symMergeCmpFunc_Sample_b1 p0x0 p1x0 fne x.1 x.2) (fun x σ' => σ' = ⟨220, [(0, .sl 4 b_0 0 p0x0.length), (1, I p1x0), (4, .func (.func fne_F) fne_C), (10, I x.1), (11, I x.2)], [(b_0, .arr 4 (p0x0.map Sample.av))]⟩) h ?_ ?_
    · exact ImpX.lessP (by exact ⟨rfl, rfl, rfl, rfl, rfl, True.intro⟩) (.cons .here .nil) (ImpX.here rfl)
    · intro x z1 σ' J1 hmk h hJ1 hA1
      obtain ⟨n3, n4⟩ := x
      obtain rfl := hmk
      replace h : slices_symMergeCmpFunc_Sample_b1 p0x0 p1x0 fne n3 n4 = some z1 := h
      unfold slices_symMergeCmpFunc_Sample_b1 at h
      refine ATodo.seq ?_
      refine ATodo.seq ?_
      refine ATodo.region ?_
      refine ARun.qv (q_move rfl) rfl ?_
      refine ARun.qv (q_move rfl) rfl ?_
      refine ARun.qv (q_lss rfl rfl) rfl ?_
      refine ARun.nil ?_
      refine ATodo.cond_d rfl (fun hc => ?_) (fun hc => ?_)
      · replace h := iteT hc h
        refine ATodo.skip ?_
        refine ATodo.block ?_
        refine ATodo.seq ?_
        refine ATodo.region ?_
        refine ARun.qv (q_move rfl) rfl ?_
        refine ARun.qv (q_move rfl) rfl ?_
        refine ARun.qv (q_addw rfl rfl) rfl ?_
        refine ARun.qv (q_conv_int rfl) rfl ?_
        refine ARun.qv (t_shr rfl rfl (by decide)) rfl ?_
        refine ARun.qv (q_conv_int rfl) rfl ?_
        refine ARun.qv (q_assign rfl) rfl ?_
        refine ARun.nil ?_
        refine ATodo.seq ?_
        refine ATodo.regionM (id := 5) (A := [0, 0, 0, 6, 14, 0, 0, 96, 224, 511, 1023]) 9 mixed rfl (by kernel_rfl) (by kernel_rfl) ?_
        refine AM.qv (q_move rfl) rfl ?_
        refine AM.qv (q_move rfl) rfl ?_
        refine AM.qv (q_move rfl) rfl ?_
        obtain ⟨v5, e1, h⟩ := bnd h
        refine AM.qv (t_index_sl rfl rfl rfl e1) rfl ?_
        refine AM.qv (t_load_aptr_agg (g := Sample.av) rfl rfl (.inl .here) rfl e1 rfl) rfl ?_
        refine AM.qv (q_move rfl) rfl ?_
        refine AM.qv (q_move rfl) rfl ?_
        obtain ⟨v6, e2, h⟩ := bnd h
        refine AM.qv (t_index_sl rfl rfl rfl e2) rfl ?_
        refine AM.qv (t_load_aptr_agg (g := Sample.av) rfl rfl (.inl .here) rfl e2 rfl) rfl ?_
        refine AM.nil ?_
        obtain ⟨v7, e3, h⟩ := bnd h
        refine r_callvp rfl rfl (fne_h e3) (CoL.refl _) rfl ?_
        refine ARun.qv (q_lss rfl rfl) rfl ?_
        refine ARun.nil ?_
        refine ATodo.cut (fun σ' => ∃ (n8 : Int) (n9 : Int), slices_symMergeCmpFunc_Sample_j1 n8 n9 = some z1 ∧ σ' = ⟨220, [(0, .sl 4 b_0 0 p0x0.length), (1, I p1x0), (4, .func (.func fne_F) fne_C), (10, I n8), (11, I n9)], [(b_0, .arr 4 (p0x0.map Sample.av))]⟩) ?_ ?_
        · refine ATodo.cond_d rfl (fun hc => ?_) (fun hc => ?_)
          · replace h := iteT hc h
            refine ATodo.region ?_
            refine ARun.qv (q_move rfl) rfl ?_
            refine ARun.qv (q_addw rfl rfl) rfl ?_
            refine ARun.qv (q_assign rfl) rfl ?_
            refine ARun.nil ?_
            refine ATodo.stop ?_
            exact ImpX.lessP (by exact ⟨rfl, rfl, rfl, rfl, rfl, True.intro⟩) (.cons .here .nil) (ImpX.here ⟨w64 ((w64 (shrI .u64 (IntKind.u64.wrap (w64 (n3 + n4))) (1 : Int))) + (1 : Int)), n4, h, rfl⟩)
          · replace h := iteF hc h
            refine ATodo.region ?_
            refine ARun.qv (q_move rfl) rfl ?_
            refine ARun.qv (q_assign rfl) rfl ?_
            refine ARun.nil ?_
            refine ATodo.stop ?_
            exact ImpX.lessP (by exact ⟨rfl, rfl, rfl, rfl, rfl, True.intro⟩) (.cons .here .nil) (ImpX.here ⟨n3, w64 (shrI .u64 (IntKind.u64.wrap (w64 (n3 + n4))) (1 : Int)), h, rfl⟩)
        · rintro σ' ⟨n8, n9, h, rfl⟩
          unfold slices_symMergeCmpFunc_Sample_j1 at h
          refine ATodo.blk ?_
          refine ATodo.stop ?_
          obtain rfl := Option.some.inj h
          refine hJ1 _ _ rfl ?_
          exact ImpX.lessP (by exact ⟨rfl, rfl, rfl, rfl, rfl, True.intro⟩) (.cons .here .nil) (ImpX.here rfl)
      · replace h := iteF hc h
        refine ATodo.exit rfl ?_
        replace h := outL h hA1
        refine ATodo.seq ?_
        refine ATodo.seq ?_
        refine ATodo.region ?_
        refine ARun.qv (q_move rfl) rfl ?_
        refine ARun.qv (q_assign rfl) rfl ?_
        refine ARun.nil ?_
        refine ATodo.block ?_
        refine ATodo.loopI (fun x : (List Sample) × Int => slices_symMergeCmpFunc_Sample_b2 n3 x.1 x.2) (fun x σ' => σ' = ⟨220, [(0, .sl 4 b_0 0 x.1.length), (10, I n3), (13, I x.2)], [(b_0, .arr 4 (x.1.map Sample.av))]⟩) h ?_ ?_
        · exact ImpX.lessP (by exact ⟨rfl, rfl, rfl, True.intro⟩) (.cons .here .nil) (ImpX.here rfl)
        · intro x z2 σ' J2 hmk h hJ2 hA2
          obtain ⟨l12, n13⟩ := x
          obtain rfl := hmk
          replace h : slices_symMergeCmpFunc_Sample_b2 n3 l12 n13 = some z2 := h
          unfold slices_symMergeCmpFunc_Sample_b2 at h
          refine ATodo.seq ?_
          refine ATodo.seq ?_
          refine ATodo.region ?_
          refine ARun.qv (q_move rfl) rfl ?_
          refine ARun.qv (q_move rfl) rfl ?_
          refine ARun.qv (q_subw rfl rfl) rfl ?_
          refine ARun.qv (q_lss rfl rfl) rfl ?_
          refine ARun.nil ?_
          refine ATodo.cond_d rfl (fun hc => ?_) (fun hc => ?_)
          · replace h := iteT hc h
            refine ATodo.skip ?_
            refine ATodo.seq ?_
            refine ATodo.block ?_
            obtain ⟨v14, e4, h⟩ := bnd h
            obtain ⟨v15, e5, h⟩ := bnd h
            obtain ⟨v16, e6, h⟩ := bnd h
            refine ATodo.regionT (id := 11) (A := [0, 0, 0, 0, 8, 0, 0, 64, 224, 480, 0, 0, 3072, 7168, 16355, 32739, 65535, 131071]) (H0 := [(b_0, .arr 4 (l12.map Sample.av))]) (HH := fun β => [(b_0, .arr 4 ((l12.set n13.toNat v14).map Sample.av))]) 16 mixed rfl (by kernel_rfl) (by kernel_rfl) [⟨none, some 15, [9, 13], fun _ => (b_0, .arr 4 (l12.map Sample.av)), none⟩, ⟨some 15, none, [], fun _ => (b_0, .arr 4 ((l12.set n13.toNat v14).map Sample.av)), none⟩] [] rfl (by kernel_rfl) rfl (.cons .here .nil) (fun _ => rfl) ?_
            refine AT.am 9 rfl rfl ?_
            refine AM.qv (q_move rfl) rfl ?_
            refine AM.qv (q_move rfl) rfl ?_
            refine AM.qv (q_move rfl) rfl ?_
            refine AM.qv (q_move rfl) rfl ?_
            refine AM.qv (q_addw rfl rfl) rfl ?_
            refine AM.qv (q_move rfl) rfl ?_
            refine AM.qv (q_move rfl) rfl ?_
            refine AM.qv (q_addw rfl rfl) rfl ?_
            refine AM.qv (t_index_sl rfl rfl rfl e4) rfl ?_
            refine AM.nil ?_
            refine AT.rd (Rs := [(b_0, .arr 4 (l12.map Sample.av))]) (fun _ => rfl) rfl (fun _ => rfl) (fun _ => rfl) (t_load_aptr_agg (g := Sample.av) rfl rfl (.inl .here) rfl e4 rfl) rfl ?_
            refine AT.am 3 rfl rfl ?_
            refine AM.qv (q_move rfl) rfl ?_
            refine AM.qv (q_move rfl) rfl ?_
            refine AM.qv (t_index_sl rfl rfl rfl e5) rfl ?_
            refine AM.nil ?_
            refine AT.rd (Rs := [(b_0, .arr 4 (l12.map Sample.av))]) (fun _ => rfl) rfl (fun _ => rfl) (fun _ => rfl) (t_load_aptr_agg (g := Sample.av) rfl rfl (.inl .here) rfl e5 rfl) rfl ?_
            refine AT.am 1 rfl rfl ?_
            refine AM.qv (t_index_sl rfl rfl rfl e6) rfl ?_
            refine AM.nil ?_
            refine AT.run0 (Ti := [(b_0, .arr 4 (l12.map Sample.av))]) (Pi := [(b_0, .arr 4 ((l12.set n13.toNat v14).map Sample.av))]) (fun _ => rfl) (fun _ => rfl) (fun _ => rfl) rfl rfl ?_ ?_
            · refine t_store_aptr1 (g := Sample.av) (el' := v14) rfl rfl rfl rfl e6 rfl .here rfl ?_
              exact ARun.nil ⟨_, rfl⟩
            refine AT.nilN (fun _ => rfl) (fun β => ?_)
            refine ARun.ghost (ImpX.eqs (s := 0) (av' := .sl 4 b_0 0 (l12.set n13.toNat v14).length) rfl (by simp) (ImpX.here ?_))
            refine ARun.ghost (ImpX.eqs (s := 61) (av' := .sl 4 b_0 0 (l12.set n13.toNat v14).length) rfl (by simp) (ImpX.here ?_))
            refine ARun.ghost (ImpX.eqs (s := 63) (av' := .sl 4 b_0 0 (l12.set n13.toNat v14).length) rfl (by simp) (ImpX.here ?_))
            refine ARun.ghost (ImpX.eqs (s := 66) (av' := .sl 4 b_0 0 (l12.set n13.toNat v14).length) rfl (by simp) (ImpX.here ?_))
            refine ARun.ghost (ImpX.eqs (s := 71) (av' := .sl 4 b_0 0 (l12.set n13.toNat v14).length) rfl (by simp) (ImpX.here ?_))
            obtain ⟨v17, e7, h⟩ := bnd h
            refine ARun.qv (t_index_sl rfl rfl rfl e7) rfl ?_
            refine t_store_aptr1 (g := Sample.av) (el' := v15) rfl rfl rfl rfl e7 rfl .here rfl ?_
            refine ARun.ghost (ImpX.eqs (s := 0) (av' := .sl 4 b_0 0 ((l12.set n13.toNat v14).set (w64 (n13 + (1 : Int))).toNat v15).length) rfl (by rw [List.length_set]) (ImpX.here ?_))
            refine ARun.ghost (ImpX.eqs (s := 61) (av' := .sl 4 b_0 0 ((l12.set n13.toNat v14).set (w64 (n13 + (1 : Int))).toNat v15).length) rfl (by rw [List.length_set]) (ImpX.here ?_))
            refine ARun.ghost (ImpX.eqs (s := 63) (av' := .sl 4 b_0 0 ((l12.set n13.toNat v14).set (w64 (n13 + (1 : Int))).toNat v15).length) rfl (by rw [List.length_set]) (ImpX.here ?_))
            refine ARun.ghost (ImpX.eqs (s := 66) (av' := .sl 4 b_0 0 ((l12.set n13.toNat v14).set (w64 (n13 + (1 : Int))).toNat v15).length) rfl (by rw [List.length_set]) (ImpX.here ?_))
            refine ARun.ghost (ImpX.eqs (s := 71) (av' := .sl 4 b_0 0 ((l12.set n13.toNat v14).set (w64 (n13 + (1 : Int))).toNat v15).length) rfl (by rw [List.length_set]) (ImpX.here ?_))
            refine ARun.nil ?_
            refine ATodo.blk ?_
            refine ATodo.region ?_
            refine ARun.qv (q_move rfl) rfl ?_
            refine ARun.qv (q_addw rfl rfl) rfl ?_
            refine ARun.qv (q_assign rfl) rfl ?_
            refine ARun.nil ?_
            refine ATodo.stop ?_
            obtain rfl := Option.some.inj h
            refine hJ2 _ _ rfl ?_
            exact ImpX.lessP (by exact ⟨rfl, rfl, rfl, True.intro⟩) (.cons .here .nil) (ImpX.here rfl)
          · replace h := iteF hc h
            refine ATodo.exit rfl ?_
            replace h := outL h hA2
            refine ATodo.ret ?_
            obtain rfl := Option.some.inj h
            exact ImpX.here ⟨_, .nil, _, .cons .here .nil, ⟨rfl, rfl⟩⟩
  · replace h := iteF hc h
    refine ATodo.skip ?_
    refine ATodo.seq ?_
    refine ATodo.seq ?_
    refine ATodo.region ?_
    refine ARun.qv (q_move rfl) rfl ?_
    refine ARun.qv (q_move rfl) rfl ?_
    refine ARun.qv (q_subw rfl rfl) rfl ?_
    refine ARun.qv (q_eql rfl rfl) rfl ?_
    refine ARun.nil ?_
    refine ATodo.cond_d rfl (fun hc => ?_) (fun hc => ?_)
    · replace h := iteT hc h
      refine ATodo.seq ?_
      refine ATodo.region ?_
      refine ARun.qv (q_move rfl) rfl ?_
      refine ARun.qv (q_assign rfl) rfl ?_
      refine ARun.nil ?_
      refine ATodo.seq ?_
      refine ATodo.region ?_
      refine ARun.qv (q_move rfl) rfl ?_
      refine ARun.qv (q_assign rfl) rfl ?_
      refine ARun.nil ?_
      refine ATodo.seq ?_
      refine ATodo.block ?_
      refine ATodo.loopI (fun x : Int × Int => slices_symMergeCmpFunc_Sample_b3 p0x0 p2x0 fne x.1 x.2) (fun x σ' => σ' = ⟨220, [(0, .sl 4 b_0 0 p0x0.length), (2, I p2x0), (4, .func (.func fne_F) fne_C), (14, I x.1), (15, I x.2)], [(b_0, .arr 4 (p0x0.map Sample.av))]⟩) h ?_ ?_
      · exact ImpX.lessP (by exact ⟨rfl, rfl, rfl, rfl, rfl, True.intro⟩) (.cons .here .nil) (ImpX.here rfl)
      · intro x z3 σ' J3 hmk h hJ3 hA3
        obtain ⟨n20, n21⟩ := x
        obtain rfl := hmk
        replace h : slices_symMergeCmpFunc_Sample_b3 p0x0 p2x0 fne n20 n21 = some z3 := h
        unfold slices_symMergeCmpFunc_Sample_b3 at h
        refine ATodo.seq ?_
        refine ATodo.seq ?_
        refine ATodo.region ?_
        refine ARun.qv (q_move rfl) rfl ?_
        refine ARun.qv (q_move rfl) rfl ?_
        refine ARun.qv (q_lss rfl rfl) rfl ?_
        refine ARun.nil ?_
        refine ATodo.cond_d rfl (fun hc => ?_) (fun hc => ?_)
        · replace h := iteT hc h
          refine ATodo.skip ?_
          refine ATodo.block ?_
          refine ATodo.seq ?_
          refine ATodo.region ?_
          refine ARun.qv (q_move rfl) rfl ?_
          refine ARun.qv (q_move rfl) rfl ?_
          refine ARun.qv (q_addw rfl rfl) rfl ?_
          refine ARun.qv (q_conv_int rfl) rfl ?_
          refine ARun.qv (t_shr rfl rfl (by decide)) rfl ?_
          refine ARun.qv (q_conv_int rfl) rfl ?_
          refine ARun.qv (q_assign rfl) rfl ?_
          refine ARun.nil ?_
          refine ATodo.seq ?_
          refine ATodo.regionM (id := 17) (A := [0, 0, 0, 6, 14, 0, 0, 96, 224, 511, 1023, 2047]) 9 mixed rfl (by kernel_rfl) (by kernel_rfl) ?_
          refine AM.qv (q_move rfl) rfl ?_
          refine AM.qv (q_move rfl) rfl ?_
          refine AM.qv (q_move rfl) rfl ?_
          obtain ⟨v22, e8, h⟩ := bnd h
          refine AM.qv (t_index_sl rfl rfl rfl e8) rfl ?_
          refine AM.qv (t_load_aptr_agg (g := Sample.av) rfl rfl (.inl .here) rfl e8 rfl) rfl ?_
          refine AM.qv (q_move rfl) rfl ?_
          refine AM.qv (q_move rfl) rfl ?_
          obtain ⟨v23, e9, h⟩ := bnd h
          refine AM.qv (t_index_sl rfl rfl rfl e9) rfl ?_
          refine AM.qv (t_load_aptr_agg (g := Sample.av) rfl rfl (.inl .here) rfl e9 rfl) rfl ?_
          refine AM.nil ?_
          obtain ⟨v24, e10, h⟩ := bnd h
          refine r_callvp rfl rfl (fne_h e10) (CoL.refl _) rfl ?_
          refine ARun.qv (q_lss rfl rfl) rfl ?_
          refine ARun.qv (q_not_d rfl) rfl ?_
          refine ARun.nil ?_
          refine ATodo.cut (fun σ' => ∃ (n25 : Int) (n26 : Int), slices_symMergeCmpFunc_Sample_j2 n25 n26 = some z3 ∧ σ' = ⟨220, [(0, .sl 4 b_0 0 p0x0.length), (2, I p2x0), (4, .func (.func fne_F) fne_C), (14, I n25), (15, I n26)], [(b_0, .arr 4 (p0x0.map Sample.av))]⟩) ?_ ?_
          · refine ATodo.cond_d rfl (fun hc => ?_) (fun hc => ?_)
            · replace h := iteT hc h
              refine ATodo.region ?_
              refine ARun.qv (q_move rfl) rfl ?_
              refine ARun.qv (q_addw rfl rfl) rfl ?_
              refine ARun.qv (q_assign rfl) rfl ?_
              refine ARun.nil ?_
              refine ATodo.stop ?_
              exact ImpX.lessP (by exact ⟨rfl, rfl, rfl, rfl, rfl, True.intro⟩) (.cons .here .nil) (ImpX.here ⟨w64 ((w64 (shrI .u64 (IntKind.u64.wrap (w64 (n20 + n21))) (1 : Int))) + (1 : Int)), n21, h, rfl⟩)
            · replace h := iteF hc h
              refine ATodo.region ?_
              refine ARun.qv (q_move rfl) rfl ?_
              refine ARun.qv (q_assign rfl) rfl ?_
              refine ARun.nil ?_
              refine ATodo.stop ?_
              exact ImpX.lessP (by exact ⟨rfl, rfl, rfl, rfl, rfl, True.intro⟩) (.cons .here .nil) (ImpX.here ⟨n20, w64 (shrI .u64 (IntKind.u64.wrap (w64 (n20 + n21))) (1 : Int)), h, rfl⟩)
          · rintro σ' ⟨n25, n26, h, rfl⟩
            unfold slices_symMergeCmpFunc_Sample_j2 at h
            refine ATodo.blk ?_
            refine ATodo.stop ?_
            obtain rfl := Option.some.inj h
            refine hJ3 _ _ rfl ?_
            exact ImpX.lessP (by exact ⟨rfl, rfl, rfl, rfl, rfl, True.intro⟩) (.cons .here .nil) (ImpX.here rfl)
        · replace h := iteF hc h
          refine ATodo.exit rfl ?_
          replace h := outL h hA3
          refine ATodo.seq ?_
          refine ATodo.seq ?_
          refine ATodo.region ?_
          refine ARun.qv (q_move rfl) rfl ?_
          refine ARun.qv (q_assign rfl) rfl ?_
          refine ARun.nil ?_
          refine ATodo.block ?_
          refine ATodo.loopI (fun x : (List Sample) × Int => slices_symMergeCmpFunc_Sample_b4 n20 x.1 x.2) (fun x σ' => σ' = ⟨220, [(0, .sl 4 b_0 0 x.1.length), (14, I n20), (17, I x.2)], [(b_0, .arr 4 (x.1.map Sample.av))]⟩) h ?_ ?_
          · exact ImpX.lessP (by exact ⟨rfl, rfl, rfl, True.intro⟩) (.cons .here .nil) (ImpX.here rfl)
          · intro x z4 σ' J4 hmk h hJ4 hA4
            obtain ⟨l29, n30⟩ := x
            obtain rfl := hmk
            replace h : slices_symMergeCmpFunc_Sample_b4 n20 l29 n30 = some z4 := h
            unfold slices_symMergeCmpFunc_Sample_b4 at h
            refine ATodo.seq ?_
            refine ATodo.seq ?_
            refine ATodo.region ?_
            refine ARun.qv (q_move rfl) rfl ?_
            refine ARun.qv (q_move rfl) rfl ?_
            refine ARun.qv (q_gtr rfl rfl) rfl ?_
            refine ARun.nil ?_
            refine ATodo.cond_d rfl (fun hc => ?_) (fun hc => ?_)
            · replace h := iteT hc h
              refine ATodo.skip ?_
              refine ATodo.seq ?_
              refine ATodo.block ?_
              obtain ⟨v31, e11, h⟩ := bnd h
              obtain ⟨v32, e12, h⟩ := bnd h
              obtain ⟨v33, e13, h⟩ := bnd h
              refine ATodo.regionT (id := 23) (A := [0, 0, 0, 0, 8, 0, 0, 64, 224, 480, 0, 0, 3072, 7168, 16355, 32739, 65535, 131071]) (H0 := [(b_0, .arr 4 (l29.map Sample.av))]) (HH := fun β => [(b_0, .arr 4 ((l29.set n30.toNat v31).map Sample.av))]) 16 mixed rfl (by kernel_rfl) (by kernel_rfl) [⟨none, some 15, [9, 13], fun _ => (b_0, .arr 4 (l29.map Sample.av)), none⟩, ⟨some 15, none, [], fun _ => (b_0, .arr 4 ((l29.set n30.toNat v31).map Sample.av)), none⟩] [] rfl (by kernel_rfl) rfl (.cons .here .nil) (fun _ => rfl) ?_
              refine AT.am 9 rfl rfl ?_
              refine AM.qv (q_move rfl) rfl ?_
              refine AM.qv (q_move rfl) rfl ?_
              refine AM.qv (q_move rfl) rfl ?_
              refine AM.qv (q_move rfl) rfl ?_
              refine AM.qv (q_subw rfl rfl) rfl ?_
              refine AM.qv (q_move rfl) rfl ?_
              refine AM.qv (q_move rfl) rfl ?_
              refine AM.qv (q_subw rfl rfl) rfl ?_
              refine AM.qv (t_index_sl rfl rfl rfl e11) rfl ?_
              refine AM.nil ?_
              refine AT.rd (Rs := [(b_0, .arr 4 (l29.map Sample.av))]) (fun _ => rfl) rfl (fun _ => rfl) (fun _ => rfl) (t_load_aptr_agg (g := Sample.av) rfl rfl (.inl .here) rfl e11 rfl) rfl ?_
              refine AT.am 3 rfl rfl ?_
              refine AM.qv (q_move rfl) rfl ?_
              refine AM.qv (q_move rfl) rfl ?_
              refine AM.qv (t_index_sl rfl rfl rfl e12) rfl ?_
              refine AM.nil ?_
              refine AT.rd (Rs := [(b_0, .arr 4 (l29.map Sample.av))]) (fun _ => rfl) rfl (fun _ => rfl) (fun _ => rfl) (t_load_aptr_agg (g := Sample.av) rfl rfl (.inl .here) rfl e12 rfl) rfl ?_
              refine AT.am 1 rfl rfl ?_
              refine AM.qv (t_index_sl rfl rfl rfl e13) rfl ?_
              refine AM.nil ?_
              refine AT.run0 (Ti := [(b_0, .arr 4 (l29.map Sample.av))]) (Pi := [(b_0, .arr 4 ((l29.set n30.toNat v31).map Sample.av))]) (fun _ => rfl) (fun _ => rfl) (fun _ => rfl) rfl rfl ?_ ?_
              · refine t_store_aptr1 (g := Sample.av) (el' := v31) rfl rfl rfl rfl e13 rfl .here rfl ?_
                exact ARun.nil ⟨_, rfl⟩
              refine AT.nilN (fun _ => rfl) (fun β => ?_)
              refine ARun.ghost (ImpX.eqs (s := 0) (av' := .sl 4 b_0 0 (l29.set n30.toNat v31).length) rfl (by simp) (ImpX.here ?_))
              refine ARun.ghost (ImpX.eqs (s := 113) (av' := .sl 4 b_0 0 (l29.set n30.toNat v31).length) rfl (by simp) (ImpX.here ?_))
              refine ARun.ghost (ImpX.eqs (s := 115) (av' := .sl 4 b_0 0 (l29.set n30.toNat v31).length) rfl (by simp) (ImpX.here ?_))
              refine ARun.ghost (ImpX.eqs (s := 118) (av' := .sl 4 b_0 0 (l29.set n30.toNat v31).length) rfl (by simp) (ImpX.here ?_))
              refine ARun.ghost (ImpX.eqs (s := 123) (av' := .sl 4 b_0 0 (l29.set n30.toNat v31).length) rfl (by simp) (ImpX.here ?_))
              obtain ⟨v34, e14, h⟩ := bnd h
              refine ARun.qv (t_index_sl rfl rfl rfl e14) rfl ?_
              refine t_store_aptr1 (g := Sample.av) (el' := v32) rfl rfl rfl rfl e14 rfl .here rfl ?_
              refine ARun.ghost (ImpX.eqs (s := 0) (av' := .sl 4 b_0 0 ((l29.set n30.toNat v31).set (w64 (n30 - (1 : Int))).toNat v32).length) rfl (by rw [List.length_set]) (ImpX.here ?_))
              refine ARun.ghost (ImpX.eqs (s := 113) (av' := .sl 4 b_0 0 ((l29.set n30.toNat v31).set (w64 (n30 - (1 : Int))).toNat v32).length) rfl (by rw [List.length_set]) (ImpX.here ?_))
              refine ARun.ghost (ImpX.eqs (s := 115) (av' := .sl 4 b_0 0 ((l29.set n30.toNat v31).set (w64 (n30 - (1 : Int))).toNat v32).length) rfl (by rw [List.length_set]) (ImpX.here ?_))
              refine ARun.ghost (ImpX.eqs (s := 118) (av' := .sl 4 b_0 0 ((l29.set n30.toNat v31).set (w64 (n30 - (1 : Int))).toNat v32).length) rfl (by rw [List.length_set]) (ImpX.here ?_))
              refine ARun.ghost (ImpX.eqs (s := 123) (av' := .sl 4 b_0 0 ((l29.set n30.toNat v31).set (w64 (n30 - (1 : Int))).toNat v32).length) rfl (by rw [List.length_set]) (ImpX.here ?_))
              refine ARun.nil ?_
              refine ATodo.blk ?_
              refine ATodo.region ?_
              refine ARun.qv (q_move rfl) rfl ?_
              refine ARun.qv (q_subw rfl rfl) rfl ?_
              refine ARun.qv (q_assign rfl) rfl ?_
              refine ARun.nil ?_
              refine ATodo.stop ?_
              obtain rfl := Option.some.inj h
              refine hJ4 _ _ rfl ?_
              exact ImpX.lessP (by exact ⟨rfl, rfl, rfl, True.intro⟩) (.cons .here .nil) (ImpX.here rfl)
            · replace h := iteF hc h
              refine ATodo.exit rfl ?_
              replace h := outL h hA4
              refine ATodo.ret ?_
              obtain rfl := Option.some.inj h
              exact ImpX.here ⟨_, .nil, _, .cons .here .nil, ⟨rfl, rfl⟩⟩
    · replace h := iteF hc h
      refine ATodo.skip ?_
      refine ATodo.seq ?_
      refine ATodo.region ?_
      refine ARun.qv (q_move rfl) rfl ?_
      refine ARun.qv (q_move rfl) rfl ?_
      refine ARun.qv (q_addw rfl rfl) rfl ?_
      refine ARun.qv (q_conv_int rfl) rfl ?_
      refine ARun.qv (t_shr rfl rfl (by decide)) rfl ?_
      refine ARun.qv (q_conv_int rfl) rfl ?_
      refine ARun.qv (q_assign rfl) rfl ?_
      refine ARun.nil ?_
      refine ATodo.seq ?_
      refine ATodo.region ?_
      refine ARun.qv (q_move rfl) rfl ?_
      refine ARun.qv (q_move rfl) rfl ?_
      refine ARun.qv (q_addw rfl rfl) rfl ?_
      refine ARun.qv (q_assign rfl) rfl ?_
      refine ARun.nil ?_
      refine ATodo.seq ?_
      refine ATodo.region ?_
      refine ARun.qv (q_assign rfl) rfl ?_
      refine ARun.qv (q_assign rfl) rfl ?_
      refine ARun.nil ?_
      refine ATodo.seq ?_
      refine ATodo.seq ?_
      refine ATodo.region ?_
      refine ARun.qv (q_move rfl) rfl ?_
      refine ARun.qv (q_move rfl) rfl ?_
      refine ARun.qv (q_gtr rfl rfl) rfl ?_
      refine ARun.nil ?_
      refine ATodo.cut (fun σ' => ∃ (n35 : Int) (n36 : Int), slices_symMergeCmpFunc_Sample_j3 self p0x0 p1x0 p2x0 p3x0 fne n35 n36 = some r ∧ σ' = ⟨220, [(0, .sl 4 b_0 0 p0x0.length), (1, I p1x0), (2, I p2x0), (3, I p3x0), (4, .func (.func fne_F) fne_C), (18, I (w64 (shrI .u64 (IntKind.u64.wrap (w64 (p1x0 + p3x0))) (1 : Int)))), (19, I (w64 ((w64 (shrI .u64 (IntKind.u64.wrap (w64 (p1x0 + p3x0))) (1 : Int))) + p2x0))), (20, I n35), (21, I n36)], [(b_0, .arr 4 (p0x0.map Sample.av))]⟩) ?_ ?_
      · refine ATodo.cond_d rfl (fun hc => ?_) (fun hc => ?_)
        · replace h := iteT hc h
          refine ATodo.seq ?_
          refine ATodo.region ?_
          refine ARun.qv (q_move rfl) rfl ?_
          refine ARun.qv (q_move rfl) rfl ?_
          refine ARun.qv (q_subw rfl rfl) rfl ?_
          refine ARun.qv (q_assign rfl) rfl ?_
          refine ARun.nil ?_
          refine ATodo.region ?_
          refine ARun.qv (q_move rfl) rfl ?_
          refine ARun.qv (q_assign rfl) rfl ?_
          refine ARun.nil ?_
          refine ATodo.stop ?_
          exact ImpX.lessP (by exact ⟨rfl, rfl, rfl, rfl, rfl, rfl, rfl, rfl, rfl, True.intro⟩) (.cons .here .nil) (ImpX.here ⟨w64 ((w64 ((w64 (shrI .u64 (IntKind.u64.wrap (w64 (p1x0 + p3x0))) (1 : Int))) + p2x0)) - p3x0), w64 (shrI .u64 (IntKind.u64.wrap (w64 (p1x0 + p3x0))) (1 : Int)), h, rfl⟩)
        · replace h := iteF hc h
          refine ATodo.seq ?_
          refine ATodo.region ?_
          refine ARun.qv (q_move rfl) rfl ?_
          refine ARun.qv (q_assign rfl) rfl ?_
          refine ARun.nil ?_
          refine ATodo.region ?_
          refine ARun.qv (q_move rfl) rfl ?_
          refine ARun.qv (q_assign rfl) rfl ?_
          refine ARun.nil ?_
          refine ATodo.stop ?_
          exact ImpX.lessP (by exact ⟨rfl, rfl, rfl, rfl, rfl, rfl, rfl, rfl, rfl, True.intro⟩) (.cons .here .nil) (ImpX.here ⟨p1x0, p2x0, h, rfl⟩)
      · rintro σ' ⟨n35, n36, h, rfl⟩
        unfold slices_symMergeCmpFunc_Sample_j3 at h
        refine ATodo.seq ?_
        refine ATodo.region ?_
        refine ARun.qv (q_move rfl) rfl ?_
        refine ARun.qv (q_subw rfl rfl) rfl ?_
        refine ARun.qv (q_assign rfl) rfl ?_
        refine ARun.nil ?_
        refine ATodo.seq ?_
        refine ATodo.block ?_
        refine ATodo.loopI (fun x : Int × Int => slices_symMergeCmpFunc_Sample_b5 self p0x0 p1x0 p2x0 p3x0 fne x.1 x.2) (fun x σ' => σ' = ⟨220, [(0, .sl 4 b_0 0 p0x0.length), (1, I p1x0), (2, I p2x0), (3, I p3x0), (4, .func (.func fne_F) fne_C), (18, I (w64 (shrI .u64 (IntKind.u64.wrap (w64 (p1x0 + p3x0))) (1 : Int)))), (19, I (w64 ((w64 (shrI .u64 (IntKind.u64.wrap (w64 (p1x0 + p3x0))) (1 : Int))) + p2x0))), (20, I x.1), (21, I x.2), (22, I (w64 ((w64 ((w64 (shrI .u64 (IntKind.u64.wrap (w64 (p1x0 + p3x0))) (1 : Int))) + p2x0)) - (1 : Int))))], [(b_0, .arr 4 (p0x0.map Sample.av))]⟩) h ?_ ?_
        · exact ImpX.lessP (by exact ⟨rfl, rfl, rfl, rfl, rfl, rfl, rfl, rfl, rfl, rfl, True.intro⟩) (.cons .here .nil) (ImpX.here rfl)
        · intro x z5 σ' J5 hmk h hJ5 hA5
          obtain ⟨n39, n40⟩ := x
          obtain rfl := hmk
          replace h : slices_symMergeCmpFunc_Sample_b5 self p0x0 p1x0 p2x0 p3x0 fne n39 n40 = some z5 := h
          unfold slices_symMergeCmpFunc_Sample_b5 at h
          refine ATodo.seq ?_
          refine ATodo.seq ?_
          refine ATodo.region ?_
          refine ARun.qv (q_move rfl) rfl ?_
          refine ARun.qv (q_move rfl) rfl ?_
          refine ARun.qv (q_lss rfl rfl) rfl ?_
          refine ARun.nil ?_
          refine ATodo.cond_d rfl (fun hc => ?_) (fun hc => ?_)
          · replace h := iteT hc h
            refine ATodo.skip ?_
            refine ATodo.block ?_
            refine ATodo.seq ?_
            refine ATodo.region ?_
            refine ARun.qv (q_move rfl) rfl ?_
            refine ARun.qv (q_move rfl) rfl ?_
            refine ARun.qv (q_addw rfl rfl) rfl ?_
            refine ARun.qv (q_conv_int rfl) rfl ?_
            refine ARun.qv (t_shr rfl rfl (by decide)) rfl ?_
            refine ARun.qv (q_conv_int rfl) rfl ?_
            refine ARun.qv (q_assign rfl) rfl ?_
            refine ARun.nil ?_
            refine ATodo.seq ?_
            refine ATodo.regionM (id := 35) (A := [0, 0, 0, 0, 12, 30, 62, 0, 0, 384, 896, 2047, 4095, 8191]) 11 mixed rfl (by kernel_rfl) (by kernel_rfl) ?_
            refine AM.qv (q_move rfl) rfl ?_
            refine AM.qv (q_move rfl) rfl ?_
            refine AM.qv (q_move rfl) rfl ?_
            refine AM.qv (q_move rfl) rfl ?_
            refine AM.qv (q_subw rfl rfl) rfl ?_
            obtain ⟨v41, e15, h⟩ := bnd h
            refine AM.qv (t_index_sl rfl rfl rfl e15) rfl ?_
            refine AM.qv (t_load_aptr_agg (g := Sample.av) rfl rfl (.inl .here) rfl e15 rfl) rfl ?_
            refine AM.qv (q_move rfl) rfl ?_
            refine AM.qv (q_move rfl) rfl ?_
            obtain ⟨v42, e16, h⟩ := bnd h
            refine AM.qv (t_index_sl rfl rfl rfl e16) rfl ?_
            refine AM.qv (t_load_aptr_agg (g := Sample.av) rfl rfl (.inl .here) rfl e16 rfl) rfl ?_
            refine AM.nil ?_
            obtain ⟨v43, e17, h⟩ := bnd h
            refine r_callvp rfl rfl (fne_h e17) (CoL.refl _) rfl ?_
            refine ARun.qv (q_lss rfl rfl) rfl ?_
            refine ARun.qv (q_not_d rfl) rfl ?_
            refine ARun.nil ?_
            refine ATodo.cut (fun σ' => ∃ (n44 : Int) (n45 : Int), slices_symMergeCmpFunc_Sample_j4 n44 n45 = some z5 ∧ σ' = ⟨220, [(0, .sl 4 b_0 0 p0x0.length), (1, I p1x0), (2, I p2x0), (3, I p3x0), (4, .func (.func fne_F) fne_C), (18, I (w64 (shrI .u64 (IntKind.u64.wrap (w64 (p1x0 + p3x0))) (1 : Int)))), (19, I (w64 ((w64 (shrI .u64 (IntKind.u64.wrap (w64 (p1x0 + p3x0))) (1 : Int))) + p2x0))), (20, I n44), (21, I n45), (22, I (w64 ((w64 ((w64 (shrI .u64 (IntKind.u64.wrap (w64 (p1x0 + p3x0))) (1 : Int))) + p2x0)) - (1 : Int))))], [(b_0, .arr 4 (p0x0.map Sample.av))]⟩) ?_ ?_
            · refine ATodo.cond_d rfl (fun hc => ?_) (fun hc => ?_)
              · replace h := iteT hc h
                refine ATodo.region ?_
                refine ARun.qv (q_move rfl) rfl ?_
                refine ARun.qv (q_addw rfl rfl) rfl ?_
                refine ARun.qv (q_assign rfl) rfl ?_
                refine ARun.nil ?_
                refine ATodo.stop ?_
                exact ImpX.lessP (by exact ⟨rfl, rfl, rfl, rfl, rfl, rfl, rfl, rfl, rfl, rfl, True.intro⟩) (.cons .here .nil) (ImpX.here ⟨w64 ((w64 (shrI .u64 (IntKind.u64.wrap (w64 (n39 + n40))) (1 : Int))) + (1 : Int)), n40, h, rfl⟩)
              · replace h := iteF hc h
                refine ATodo.region ?_
                refine ARun.qv (q_move rfl) rfl ?_
                refine ARun.qv (q_assign rfl) rfl ?_
                refine ARun.nil ?_
                refine ATodo.stop ?_
                exact ImpX.lessP (by exact ⟨rfl, rfl, rfl, rfl, rfl, rfl, rfl, rfl, rfl, rfl, True.intro⟩) (.cons .here .nil) (ImpX.here ⟨n39, w64 (shrI .u64 (IntKind.u64.wrap (w64 (n39 + n40))) (1 : Int)), h, rfl⟩)
            · rintro σ' ⟨n44, n45, h, rfl⟩
              unfold slices_symMergeCmpFunc_Sample_j4 at h
              refine ATodo.blk ?_
              refine ATodo.stop ?_
              obtain rfl := Option.some.inj h
              refine hJ5 _ _ rfl ?_
              exact ImpX.lessP (by exact ⟨rfl, rfl, rfl, rfl, rfl, rfl, rfl, rfl, rfl, rfl, True.intro⟩) (.cons .here .nil) (ImpX.here rfl)
          · replace h := iteF hc h
            refine ATodo.exit rfl ?_
            replace h := outL h hA5
            refine ATodo.seq ?_
            refine ATodo.region ?_
            refine ARun.qv (q_move rfl) rfl ?_
            refine ARun.qv (q_move rfl) rfl ?_
            refine ARun.qv (q_subw rfl rfl) rfl ?_
            refine ARun.qv (q_assign rfl) rfl ?_
            refine ARun.nil ?_
            refine ATodo.seq ?_
            refine ATodo.seq ?_
            refine ATodo.cut (fun σ' => ∃ (c46 : Bool), slices_symMergeCmpFunc_Sample_j5 self p0x0 p1x0 p2x0 p3x0 fne n39 c46 = some r ∧ σ' = ⟨220, [(0, .sl 4 b_0 0 p0x0.length), (1, I p1x0), (2, I p2x0), (3, I p3x0), (4, .func (.func fne_F) fne_C), (18, I (w64 (shrI .u64 (IntKind.u64.wrap (w64 (p1x0 + p3x0))) (1 : Int)))), (20, I n39), (24, I (w64 ((w64 ((w64 (shrI .u64 (IntKind.u64.wrap (w64 (p1x0 + p3x0))) (1 : Int))) + p2x0)) - n39))), (185, .bool c46)], [(b_0, .arr 4 (p0x0.map Sample.av))]⟩) ?_ ?_
            · refine ATodo.region ?_
              refine ARun.qv (q_move rfl) rfl ?_
              refine ARun.qv (q_move rfl) rfl ?_
              refine ARun.qv (q_lss rfl rfl) rfl ?_
              refine ARun.qv (q_move rfl) rfl ?_
              refine ARun.guard_dt rfl rfl rfl (fun hc => ?_) (fun hc => ?_)
              · rw [andTd hc] at h
                refine ARun.qv (q_move rfl) rfl ?_
                refine ARun.guard_yes rfl rfl rfl ?_
                refine ARun.qv (q_move rfl) rfl ?_
                refine ARun.guard_yes rfl rfl rfl ?_
                refine ARun.qv (q_lss rfl rfl) rfl ?_
                refine ARun.qv (q_pick_t rfl rfl) rfl ?_
                refine ARun.nil ?_
                refine ATodo.stop ?_
                exact ImpX.lessP (by exact ⟨rfl, rfl, rfl, rfl, rfl, rfl, rfl, rfl, rfl, True.intro⟩) (.cons .here .nil) (ImpX.here ⟨decide (p2x0 < (w64 ((w64 ((w64 (shrI .u64 (IntKind.u64.wrap (w64 (p1x0 + p3x0))) (1 : Int))) + p2x0)) - n39))), h, rfl⟩)
              · rw [andFd hc] at h
                refine ARun.guard_no rfl rfl rfl rfl ?_
                refine ARun.guard_no rfl rfl rfl rfl ?_
                refine ARun.qv (q_pick_f rfl rfl) rfl ?_
                refine ARun.nil ?_
                refine ATodo.stop ?_
                exact ImpX.lessP (by exact ⟨rfl, rfl, rfl, rfl, rfl, rfl, rfl, rfl, rfl, True.intro⟩) (.cons .here .nil) (ImpX.here ⟨false, h, rfl⟩)
            · rintro σ' ⟨c46, h, rfl⟩
              unfold slices_symMergeCmpFunc_Sample_j5 at h
              refine ATodo.cut (fun σ' => ∃ (l47 : List Sample), slices_symMergeCmpFunc_Sample_j6 self p1x0 p2x0 p3x0 fne n39 l47 = some r ∧ σ' = ⟨220, [(0, .sl 4 b_0 0 l47.length), (1, I p1x0), (3, I p3x0), (4, .func (.func fne_F) fne_C), (18, I (w64 (shrI .u64 (IntKind.u64.wrap (w64 (p1x0 + p3x0))) (1 : Int)))), (20, I n39), (24, I (w64 ((w64 ((w64 (shrI .u64 (IntKind.u64.wrap (w64 (p1x0 + p3x0))) (1 : Int))) + p2x0)) - n39)))], [(b_0, .arr 4 (l47.map Sample.av))]⟩) ?_ ?_
              · refine ATodo.cond rfl (fun hc => ?_) (fun hc => ?_)
                · replace h := iteT hc h
                  refine ATodo.region ?_
                  refine ARun.qv (q_move rfl) rfl ?_
                  refine ARun.qv (q_move rfl) rfl ?_
                  refine ARun.qv (q_move rfl) rfl ?_
                  refine ARun.qv (q_move rfl) rfl ?_
                  refine ARun.qv (q_move rfl) rfl ?_
                  obtain ⟨v48, e18, h⟩ := bnd h
                  refine t_call0 rfl (slices_rotateCmpFunc_Sample_c fne_h (lenOk_f e18)) (CoL.refl _) (.cons .here .nil) rfl rfl ?_
                  refine ARun.ghost (ImpX.eqs (s := 0) (av' := .sl 4 b_0 0 v48.length) rfl (congrArg (AV.sl 4 b_0 0) (lenOk_l e18)) (ImpX.here ?_))
                  refine ARun.ghost (ImpX.eqs (s := 186) (av' := .sl 4 b_0 0 v48.length) rfl (congrArg (AV.sl 4 b_0 0) (lenOk_l e18)) (ImpX.here ?_))
                  refine ARun.nil ?_
                  refine ATodo.stop ?_
                  exact ImpX.lessP (by exact ⟨rfl, rfl, rfl, rfl, rfl, rfl, rfl, True.intro⟩) (.cons .here .nil) (ImpX.here ⟨v48, h, rfl⟩)
                · replace h := iteFb hc h
                  refine ATodo.skip ?_
                  refine ATodo.stop ?_
                  exact ImpX.lessP (by exact ⟨rfl, rfl, rfl, rfl, rfl, rfl, rfl, True.intro⟩) (.cons .here .nil) (ImpX.here ⟨p0x0, h, rfl⟩)
              · rintro σ' ⟨l47, h, rfl⟩
                unfold slices_symMergeCmpFunc_Sample_j6 at h
                refine ATodo.seq ?_
                refine ATodo.seq ?_
                refine ATodo.cut (fun σ' => ∃ (c49 : Bool), slices_symMergeCmpFunc_Sample_j7 self p1x0 p2x0 p3x0 fne n39 l47 c49 = some r ∧ σ' = ⟨220, [(0, .sl 4 b_0 0 l47.length), (1, I p1x0), (3, I p3x0), (4, .func (.func fne_F) fne_C), (18, I (w64 (shrI .u64 (IntKind.u64.wrap (w64 (p1x0 + p3x0))) (1 : Int)))), (20, I n39), (24, I (w64 ((w64 ((w64 (shrI .u64 (IntKind.u64.wrap (w64 (p1x0 + p3x0))) (1 : Int))) + p2x0)) - n39))), (199, .bool c49)], [(b_0, .arr 4 (l47.map Sample.av))]⟩) ?_ ?_
                · refine ATodo.region ?_
                  refine ARun.qv (q_move rfl) rfl ?_
                  refine ARun.qv (q_move rfl) rfl ?_
                  refine ARun.qv (q_lss rfl rfl) rfl ?_
                  refine ARun.qv (q_move rfl) rfl ?_
                  refine ARun.guard_dt rfl rfl rfl (fun hc => ?_) (fun hc => ?_)
                  · rw [andTd hc] at h
                    refine ARun.qv (q_move rfl) rfl ?_
                    refine ARun.guard_yes rfl rfl rfl ?_
                    refine ARun.qv (q_move rfl) rfl ?_
                    refine ARun.guard_yes rfl rfl rfl ?_
                    refine ARun.qv (q_lss rfl rfl) rfl ?_
                    refine ARun.qv (q_pick_t rfl rfl) rfl ?_
                    refine ARun.nil ?_
                    refine ATodo.stop ?_
                    exact ImpX.lessP (by exact ⟨rfl, rfl, rfl, rfl, rfl, rfl, rfl, rfl, True.intro⟩) (.cons .here .nil) (ImpX.here ⟨decide (n39 < (w64 (shrI .u64 (IntKind.u64.wrap (w64 (p1x0 + p3x0))) (1 : Int)))), h, rfl⟩)
                  · rw [andFd hc] at h
                    refine ARun.guard_no rfl rfl rfl rfl ?_
                    refine ARun.guard_no rfl rfl rfl rfl ?_
                    refine ARun.qv (q_pick_f rfl rfl) rfl ?_
                    refine ARun.nil ?_
                    refine ATodo.stop ?_
                    exact ImpX.lessP (by exact ⟨rfl, rfl, rfl, rfl, rfl, rfl, rfl, rfl, True.intro⟩) (.cons .here .nil) (ImpX.here ⟨false, h, rfl⟩)
                · rintro σ' ⟨c49, h, rfl⟩
                  unfold slices_symMergeCmpFunc_Sample_j7 at h
                  refine ATodo.cut (fun σ' => ∃ (l50 : List Sample), slices_symMergeCmpFunc_Sample_j8 self p1x0 p2x0 p3x0 fne n39 l50 = some r ∧ σ' = ⟨220, [(0, .sl 4 b_0 0 l50.length), (3, I p3x0), (4, .func (.func fne_F) fne_C), (18, I (w64 (shrI .u64 (IntKind.u64.wrap (w64 (p1x0 + p3x0))) (1 : Int)))), (24, I (w64 ((w64 ((w64 (shrI .u64 (IntKind.u64.wrap (w64 (p1x0 + p3x0))) (1 : Int))) + p2x0)) - n39)))], [(b_0, .arr 4 (l50.map Sample.av))]⟩) ?_ ?_
                  · refine ATodo.cond rfl (fun hc => ?_) (fun hc => ?_)
                    · replace h := iteT hc h
                      refine ATodo.region ?_
                      refine ARun.qv (q_move rfl) rfl ?_
                      refine ARun.qv (q_move rfl) rfl ?_
                      refine ARun.qv (q_move rfl) rfl ?_
                      refine ARun.qv (q_move rfl) rfl ?_
                      refine ARun.qv (q_move rfl) rfl ?_
                      obtain ⟨v51, e19, h⟩ := bnd h
                      refine t_call0 rfl (self_h fne_h (lenOk_f e19)) (CoL.refl _) (.cons .here .nil) rfl rfl ?_
                      refine ARun.ghost (ImpX.eqs (s := 0) (av' := .sl 4 b_0 0 v51.length) rfl (congrArg (AV.sl 4 b_0 0) (lenOk_l e19)) (ImpX.here ?_))
                      refine ARun.ghost (ImpX.eqs (s := 200) (av' := .sl 4 b_0 0 v51.length) rfl (congrArg (AV.sl 4 b_0 0) (lenOk_l e19)) (ImpX.here ?_))
                      refine ARun.nil ?_
                      refine ATodo.stop ?_
                      exact ImpX.lessP (by exact ⟨rfl, rfl, rfl, rfl, rfl, True.intro⟩) (.cons .here .nil) (ImpX.here ⟨v51, h, rfl⟩)
                    · replace h := iteFb hc h
                      refine ATodo.skip ?_
                      refine ATodo.stop ?_
                      exact ImpX.lessP (by exact ⟨rfl, rfl, rfl, rfl, rfl, True.intro⟩) (.cons .here .nil) (ImpX.here ⟨l47, h, rfl⟩)
                  · rintro σ' ⟨l50, h, rfl⟩
                    unfold slices_symMergeCmpFunc_Sample_j8 at h
                    refine ATodo.seq ?_
                    refine ATodo.cut (fun σ' => ∃ (c52 : Bool), slices_symMergeCmpFunc_Sample_j9 self p1x0 p2x0 p3x0 fne n39 l50 c52 = some r ∧ σ' = ⟨220, [(0, .sl 4 b_0 0 l50.length), (3, I p3x0), (4, .func (.func fne_F) fne_C), (18, I (w64 (shrI .u64 (IntKind.u64.wrap (w64 (p1x0 + p3x0))) (1 : Int)))), (24, I (w64 ((w64 ((w64 (shrI .u64 (IntKind.u64.wrap (w64 (p1x0 + p3x0))) (1 : Int))) + p2x0)) - n39))), (213, .bool c52)], [(b_0, .arr 4 (l50.map Sample.av))]⟩) ?_ ?_
                    · refine ATodo.region ?_
                      refine ARun.qv (q_move rfl) rfl ?_
                      refine ARun.qv (q_move rfl) rfl ?_
                      refine ARun.qv (q_lss rfl rfl) rfl ?_
                      refine ARun.qv (q_move rfl) rfl ?_
                      refine ARun.guard_dt rfl rfl rfl (fun hc => ?_) (fun hc => ?_)
                      · rw [andTd hc] at h
                        refine ARun.qv (q_move rfl) rfl ?_
                        refine ARun.guard_yes rfl rfl rfl ?_
                        refine ARun.qv (q_move rfl) rfl ?_
                        refine ARun.guard_yes rfl rfl rfl ?_
                        refine ARun.qv (q_lss rfl rfl) rfl ?_
                        refine ARun.qv (q_pick_t rfl rfl) rfl ?_
                        refine ARun.nil ?_
                        refine ATodo.stop ?_
                        exact ImpX.lessP (by exact ⟨rfl, rfl, rfl, rfl, rfl, rfl, True.intro⟩) (.cons .here .nil) (ImpX.here ⟨decide ((w64 ((w64 ((w64 (shrI .u64 (IntKind.u64.wrap (w64 (p1x0 + p3x0))) (1 : Int))) + p2x0)) - n39)) < p3x0), h, rfl⟩)
                      · rw [andFd hc] at h
                        refine ARun.guard_no rfl rfl rfl rfl ?_
                        refine ARun.guard_no rfl rfl rfl rfl ?_
                        refine ARun.qv (q_pick_f rfl rfl) rfl ?_
                        refine ARun.nil ?_
                        refine ATodo.stop ?_
                        exact ImpX.lessP (by exact ⟨rfl, rfl, rfl, rfl, rfl, rfl, True.intro⟩) (.cons .here .nil) (ImpX.here ⟨false, h, rfl⟩)
                    · rintro σ' ⟨c52, h, rfl⟩
                      unfold slices_symMergeCmpFunc_Sample_j9 at h
                      refine ATodo.cut (fun σ' => ∃ (l53 : List Sample), slices_symMergeCmpFunc_Sample_j10 l53 = some r ∧ σ' = ⟨220, [], [(b_0, .arr 4 (l53.map Sample.av))]⟩) ?_ ?_
                      · refine ATodo.cond rfl (fun hc => ?_) (fun hc => ?_)
                        · replace h := iteT hc h
                          refine ATodo.region ?_
                          refine ARun.qv (q_move rfl) rfl ?_
                          refine ARun.qv (q_move rfl) rfl ?_
                          refine ARun.qv (q_move rfl) rfl ?_
                          refine ARun.qv (q_move rfl) rfl ?_
                          refine ARun.qv (q_move rfl) rfl ?_
                          obtain ⟨v54, e20, h⟩ := bnd h
                          refine t_call0 rfl (self_h fne_h (lenOk_f e20)) (CoL.refl _) (.cons .here .nil) rfl rfl ?_
                          refine ARun.ghost (ImpX.eqs (s := 0) (av' := .sl 4 b_0 0 v54.length) rfl (congrArg (AV.sl 4 b_0 0) (lenOk_l e20)) (ImpX.here ?_))
                          refine ARun.ghost (ImpX.eqs (s := 214) (av' := .sl 4 b_0 0 v54.length) rfl (congrArg (AV.sl 4 b_0 0) (lenOk_l e20)) (ImpX.here ?_))
                          refine ARun.nil ?_
                          refine ATodo.stop ?_
                          exact ImpX.lessP (by exact True.intro) (.cons .here .nil) (ImpX.here ⟨v54, h, rfl⟩)
                        · replace h := iteFb hc h
                          refine ATodo.skip ?_
                          refine ATodo.stop ?_
                          exact ImpX.lessP (by exact True.intro) (.cons .here .nil) (ImpX.here ⟨l50, h, rfl⟩)
                      · rintro σ' ⟨l53, h, rfl⟩
                        unfold slices_symMergeCmpFunc_Sample_j10 at h
                        refine ATodo.nil ?_
                        obtain rfl := Option.some.inj h
                        exact ImpX.here ⟨_, .nil, _, .cons .here .nil, ⟨rfl, rfl⟩⟩
theorem slices_symMergeCmpFunc_Sample_r_c : ∀ (k : Nat) {b_0 : Bk} {p0x0 : List Sample} {p1x0 : Int} {p2x0 : Int} {p3x0 : Int} {fne : Sample → Sample → Option Int} {fne_F : FuncId} [IsFn Try.prog fne_F] {fne_C : List AV} (fne_h : ∀ {y0 y1 : _} {u : Int}, fne y0 y1 = some u → Pu Try.prog fne_F (.agg [.str y0.Device, .str y0.Metric, I y0.At, I y0.Value] :: .agg [.str y1.Device, .str y1.Metric, I y1.At, I y1.Value] ::  fne_C) (I u)) {r : (List Sample)}, slices_symMergeCmpFunc_Sample_r k p0x0 p1x0 p2x0 p3x0 fne = some r → ACall Try.prog 259 [.sl 4 b_0 0 p0x0.length, I p1x0, I p2x0, I p3x0, .func (.func fne_F) fne_C] [(b_0, .arr 4 (p0x0.map Sample.av))] (T0 ([(b_0, .arr 4 (r.map Sample.av))]) (.tup [])) := by
  intro k
  induction k with
  | zero => intro b_0 p0x0 p1x0 p2x0 p3x0 fne fne_F _ fne_C fne_h r h; cases h
  | succ k ih => intro b_0 p0x0 p1x0 p2x0 p3x0 fne fne_F _ fne_C fne_h r h; exact slices_symMergeCmpFunc_Sample_bd_c ih fne_h h
theorem slices_symMergeCmpFunc_Sample_c {b_0 : Bk} {p0x0 : List Sample} {p1x0 : Int} {p2x0 : Int} {p3x0 : Int} {fne : Sample → Sample → Option Int} {fne_F : FuncId} [IsFn Try.prog fne_F] {fne_C : List AV} (fne_h : ∀ {y0 y1 : _} {u : Int}, fne y0 y1 = some u → Pu Try.prog fne_F (.agg [.str y0.Device, .str y0.Metric, I y0.At, I y0.Value] :: .agg [.str y1.Device, .str y1.Metric, I y1.At, I y1.Value] ::  fne_C) (I u)) {r : (List Sample)} (h : slices_symMergeCmpFunc_Sample p0x0 p1x0 p2x0 p3x0 fne = some r) : ACall Try.prog 259 [.sl 4 b_0 0 p0x0.length, I p1x0, I p2x0, I p3x0, .func (.func fne_F) fne_C] [(b_0, .arr 4 (p0x0.map Sample.av))] (T0 ([(b_0, .arr 4 (r.map Sample.av))]) (.tup [])) := slices_symMergeCmpFunc_Sample_r_c depth fne_h h

set_option maxHeartbeats 4000000 in
theorem slices_stableCmpFunc_Sample_c {b_0 : Bk} {p0x0 : List Sample} {p1x0 : Int} {fnc : Sample → Sample → Option Int} {fnc_F : FuncId} [IsFn Try.prog fnc_F] {fnc_C : List AV} (fnc_h : ∀ {y0 y1 : _} {u : Int}, fnc y0 y1 = some u → Pu Try.prog fnc_F (.agg [.str y0.Device, .str y0.Metric, I y0.At, I y0.Value] :: .agg [.str y1.Device, .str y1.Metric, I y1.At, I y1.Value] ::  fnc_C) (I u)) {r : (List Sample)} (h : slices_stableCmpFunc_Sample p0x0 p1x0 fnc = some r) : ACall Try.prog 221 [.sl 4 b_0 0 p0x0.length, I p1x0, .func (.func fnc_F) fnc_C] [(b_0, .arr 4 (p0x0.map Sample.av))] (T0 ([(b_0, .arr 4 (r.map Sample.av))]) (.tup [])) := by
  unfold slices_stableCmpFunc_Sample at h
  refine ACall.lessH ?_
  refine ACall.bodyN Try.func221 rfl Try.ntmps221 Try.results221 rfl rfl ?_
  refine ATodo.seq ?_
  refine ATodo.region ?_
  refine ARun.qv (q_assign rfl) rfl ?_
  refine ARun.nil ?_
  refine ATodo.seq ?_
  refine ATodo.region ?_
  refine ARun.qv (q_move rfl) rfl ?_
  refine ARun.qv (q_assign rfl) rfl ?_
  refine ARun.qv (q_assign rfl) rfl ?_
  refine ARun.nil ?_
  refine ATodo.seq ?_
  refine ATodo.block ?_
  refine ATodo.loopI (fun x : (List Sample) × Int × Int => slices_stableCmpFunc_Sample_b1 p1x0 fnc x.1 x.2.1 x.2.2) (fun x σ' => σ' = ⟨63, [(0, .sl 4 b_0 0 x.1.length), (1, I p1x0), (2, .func (.func fnc_F) fnc_C), (6, I (20 : Int)), (7, I x.2.1), (8, I x.2.2)], [(b_0, .arr 4 (x.1.map Sample.av))]⟩) h ?_ ?_
  · exact ImpX.lessP (by exact ⟨rfl, rfl, rfl, rfl, rfl, rfl, True.intro⟩) (.cons .here .nil) (ImpX.here rfl)
  · intro x z1 σ' J1 hmk h hJ1 hA1
    obtain ⟨l4, n5, n6⟩ := x
    obtain rfl := hmk
    replace h : slices_stableCmpFunc_Sample_b1 p1x0 fnc l4 n5 n6 = some z1 := h
    unfold slices_stableCmpFunc_Sample_b1 at h
    refine ATodo.seq ?_
    refine ATodo.seq ?_
    refine ATodo.region ?_
    refine ARun.qv (q_move rfl) rfl ?_
    refine ARun.qv (q_move rfl) rfl ?_
    refine ARun.qv (q_leq rfl rfl) rfl ?_
    refine ARun.nil ?_
    refine ATodo.cond_d rfl (fun hc => ?_) (fun hc => ?_)
    · replace h := iteT hc h
      refine ATodo.skip ?_
      refine ATodo.block ?_
      refine ATodo.seq ?_
      refine ATodo.region ?_
      refine ARun.qv (q_move rfl) rfl ?_
      refine ARun.qv (q_move rfl) rfl ?_
      refine ARun.qv (q_move rfl) rfl ?_
      refine ARun.qv (q_move rfl) rfl ?_
      obtain ⟨v7, e1, h⟩ := bnd h
      refine t_call0 rfl (slices_insertionSortCmpFunc_Sample_c fnc_h (lenOk_f e1)) (CoL.refl _) (.cons .here .nil) rfl rfl ?_
      refine ARun.ghost (ImpX.eqs (s := 0) (av' := .sl 4 b_0 0 v7.length) rfl (congrArg (AV.sl 4 b_0 0) (lenOk_l e1)) (ImpX.here ?_))
      refine ARun.ghost (ImpX.eqs (s := 14) (av' := .sl 4 b_0 0 v7.length) rfl (congrArg (AV.sl 4 b_0 0) (lenOk_l e1)) (ImpX.here ?_))
      refine ARun.nil ?_
      refine ATodo.seq ?_
      refine ATodo.region ?_
      refine ARun.qv (q_move rfl) rfl ?_
      refine ARun.qv (q_assign rfl) rfl ?_
      refine ARun.nil ?_
      refine ATodo.region ?_
      refine ARun.qv (q_move rfl) rfl ?_
      refine ARun.qv (q_move rfl) rfl ?_
      refine ARun.qv (q_addw rfl rfl) rfl ?_
      refine ARun.qv (q_assign rfl) rfl ?_
      refine ARun.nil ?_
      refine ATodo.blk ?_
      refine ATodo.stop ?_
      obtain rfl := Option.some.inj h
      refine hJ1 _ _ rfl ?_
      exact ImpX.lessP (by exact ⟨rfl, rfl, rfl, rfl, rfl, rfl, True.intro⟩) (.cons .here .nil) (ImpX.here rfl)
    · replace h := iteF hc h
      refine ATodo.exit rfl ?_
      replace h := outL h hA1
      unfold slices_stableCmpFunc_Sample_k3 at h
      refine ATodo.seq ?_
      refine ATodo.region ?_
      refine ARun.qv (q_move rfl) rfl ?_
      refine ARun.qv (q_move rfl) rfl ?_
      refine ARun.qv (q_move rfl) rfl ?_
      refine ARun.qv (q_move rfl) rfl ?_
      obtain ⟨v8, e2, h⟩ := bnd h
      refine t_call0 rfl (slices_insertionSortCmpFunc_Sample_c fnc_h (lenOk_f e2)) (CoL.refl _) (.cons .here .nil) rfl rfl ?_
      refine ARun.ghost (ImpX.eqs (s := 0) (av' := .sl 4 b_0 0 v8.length) rfl (congrArg (AV.sl 4 b_0 0) (lenOk_l e2)) (ImpX.here ?_))
      refine ARun.ghost (ImpX.eqs (s := 23) (av' := .sl 4 b_0 0 v8.length) rfl (congrArg (AV.sl 4 b_0 0) (lenOk_l e2)) (ImpX.here ?_))
      refine ARun.nil ?_
      refine ATodo.block ?_
      refine ATodo.loopI (fun x : (List Sample) × Int => slices_stableCmpFunc_Sample_b2 p1x0 fnc x.1 x.2) (fun x σ' => σ' = ⟨63, [(0, .sl 4 b_0 0 x.1.length), (1, I p1x0), (2, .func (.func fnc_F) fnc_C), (6, I x.2)], [(b_0, .arr 4 (x.1.map Sample.av))]⟩) h ?_ ?_
      · exact ImpX.lessP (by exact ⟨rfl, rfl, rfl, rfl, True.intro⟩) (.cons .here .nil) (ImpX.here rfl)
      · intro x z2 σ' J2 hmk h hJ2 hA2
        obtain ⟨l11, n12⟩ := x
        obtain rfl := hmk
        replace h : slices_stableCmpFunc_Sample_b2 p1x0 fnc l11 n12 = some z2 := h
        unfold slices_stableCmpFunc_Sample_b2 at h
        refine ATodo.seq ?_
        refine ATodo.seq ?_
        refine ATodo.region ?_
        refine ARun.qv (q_move rfl) rfl ?_
        refine ARun.qv (q_move rfl) rfl ?_
        refine ARun.qv (q_lss rfl rfl) rfl ?_
        refine ARun.nil ?_
        refine ATodo.cond_d rfl (fun hc => ?_) (fun hc => ?_)
        · replace h := iteT hc h
          refine ATodo.skip ?_
          refine ATodo.block ?_
          refine ATodo.seq ?_
          refine ATodo.region ?_
          refine ARun.qv (q_move rfl) rfl ?_
          refine ARun.qv (q_mulw rfl rfl) rfl ?_
          refine ARun.qv (q_assign rfl) rfl ?_
          refine ARun.qv (q_assign rfl) rfl ?_
          refine ARun.nil ?_
          refine ATodo.seq ?_
          refine ATodo.block ?_
          refine ATodo.loopI (fun x : (List Sample) × Int × Int => slices_stableCmpFunc_Sample_b3 p1x0 fnc n12 x.1 x.2.1 x.2.2) (fun x σ' => σ' = ⟨63, [(0, .sl 4 b_0 0 x.1.length), (1, I p1x0), (2, .func (.func fnc_F) fnc_C), (6, I n12), (7, I x.2.1), (8, I x.2.2)], [(b_0, .arr 4 (x.1.map Sample.av))]⟩) h ?_ ?_
          · exact ImpX.lessP (by exact ⟨rfl, rfl, rfl, rfl, rfl, rfl, True.intro⟩) (.cons .here .nil) (ImpX.here rfl)
          · intro x z3 σ' J3 hmk h hJ3 hA3
            obtain ⟨l16, n17, n18⟩ := x
            obtain rfl := hmk
            replace h : slices_stableCmpFunc_Sample_b3 p1x0 fnc n12 l16 n17 n18 = some z3 := h
            unfold slices_stableCmpFunc_Sample_b3 at h
            refine ATodo.seq ?_
            refine ATodo.seq ?_
            refine ATodo.region ?_
            refine ARun.qv (q_move rfl) rfl ?_
            refine ARun.qv (q_move rfl) rfl ?_
            refine ARun.qv (q_leq rfl rfl) rfl ?_
            refine ARun.nil ?_
            refine ATodo.cond_d rfl (fun hc => ?_) (fun hc => ?_)
            · replace h := iteT hc h
              refine ATodo.skip ?_
              refine ATodo.block ?_
              refine ATodo.seq ?_
              refine ATodo.region ?_
              refine ARun.qv (q_move rfl) rfl ?_
              refine ARun.qv (q_move rfl) rfl ?_
              refine ARun.qv (q_move rfl) rfl ?_
              refine ARun.qv (q_move rfl) rfl ?_
              refine ARun.qv (q_addw rfl rfl) rfl ?_
              refine ARun.qv (q_move rfl) rfl ?_
              refine ARun.qv (q_move rfl) rfl ?_
              obtain ⟨v19, e3, h⟩ := bnd h
              refine t_call0 rfl (slices_symMergeCmpFunc_Sample_c fnc_h (lenOk_f e3)) (CoL.refl _) (.cons .here .nil) rfl rfl ?_
              refine ARun.ghost (ImpX.eqs (s := 0) (av' := .sl 4 b_0 0 v19.length) rfl (congrArg (AV.sl 4 b_0 0) (lenOk_l e3)) (ImpX.here ?_))
              refine ARun.ghost (ImpX.eqs (s := 36) (av' := .sl 4 b_0 0 v19.length) rfl (congrArg (AV.sl 4 b_0 0) (lenOk_l e3)) (ImpX.here ?_))
              refine ARun.nil ?_
              refine ATodo.seq ?_
              refine ATodo.region ?_
              refine ARun.qv (q_move rfl) rfl ?_
              refine ARun.qv (q_assign rfl) rfl ?_
              refine ARun.nil ?_
              refine ATodo.region ?_
              refine ARun.qv (q_move rfl) rfl ?_
              refine ARun.qv (q_move rfl) rfl ?_
              refine ARun.qv (q_mulw rfl rfl) rfl ?_
              refine ARun.qv (q_addw rfl rfl) rfl ?_
              refine ARun.qv (q_assign rfl) rfl ?_
              refine ARun.nil ?_
              refine ATodo.blk ?_
              refine ATodo.stop ?_
              obtain rfl := Option.some.inj h
              refine hJ3 _ _ rfl ?_
              exact ImpX.lessP (by exact ⟨rfl, rfl, rfl, rfl, rfl, rfl, True.intro⟩) (.cons .here .nil) (ImpX.here rfl)
            · replace h := iteF hc h
              refine ATodo.exit rfl ?_
              replace h := outL h hA3
              unfold slices_stableCmpFunc_Sample_k2 at h
              refine ATodo.seq ?_
              refine ATodo.seq ?_
              refine ATodo.region ?_
              refine ARun.qv (q_move rfl) rfl ?_
              refine ARun.qv (q_move rfl) rfl ?_
              refine ARun.qv (q_addw rfl rfl) rfl ?_
              refine ARun.qv (q_assign rfl) rfl ?_
              refine ARun.nil ?_
              refine ATodo.seq ?_
              refine ATodo.region ?_
              refine ARun.qv (q_move rfl) rfl ?_
              refine ARun.qv (q_move rfl) rfl ?_
              refine ARun.qv (q_lss rfl rfl) rfl ?_
              refine ARun.nil ?_
              refine ATodo.cut (fun σ' => ∃ (l20 : List Sample), slices_stableCmpFunc_Sample_j1 n12 l20 = some z2 ∧ σ' = ⟨63, [(0, .sl 4 b_0 0 l20.length), (1, I p1x0), (2, .func (.func fnc_F) fnc_C), (6, I n12)], [(b_0, .arr 4 (l20.map Sample.av))]⟩) ?_ ?_
              · refine ATodo.cond_d rfl (fun hc => ?_) (fun hc => ?_)
                · replace h := iteT hc h
                  refine ATodo.region ?_
                  refine ARun.qv (q_move rfl) rfl ?_
                  refine ARun.qv (q_move rfl) rfl ?_
                  refine ARun.qv (q_move rfl) rfl ?_
                  refine ARun.qv (q_move rfl) rfl ?_
                  refine ARun.qv (q_move rfl) rfl ?_
                  obtain ⟨v21, e4, h⟩ := bnd h
                  refine t_call0 rfl (slices_symMergeCmpFunc_Sample_c fnc_h (lenOk_f e4)) (CoL.refl _) (.cons .here .nil) rfl rfl ?_
                  refine ARun.ghost (ImpX.eqs (s := 0) (av' := .sl 4 b_0 0 v21.length) rfl (congrArg (AV.sl 4 b_0 0) (lenOk_l e4)) (ImpX.here ?_))
                  refine ARun.ghost (ImpX.eqs (s := 55) (av' := .sl 4 b_0 0 v21.length) rfl (congrArg (AV.sl 4 b_0 0) (lenOk_l e4)) (ImpX.here ?_))
                  refine ARun.nil ?_
                  refine ATodo.stop ?_
                  exact ImpX.lessP (by exact ⟨rfl, rfl, rfl, rfl, True.intro⟩) (.cons .here .nil) (ImpX.here ⟨v21, h, rfl⟩)
                · replace h := iteF hc h
                  refine ATodo.skip ?_
                  refine ATodo.stop ?_
                  exact ImpX.lessP (by exact ⟨rfl, rfl, rfl, rfl, True.intro⟩) (.cons .here .nil) (ImpX.here ⟨l16, h, rfl⟩)
              · rintro σ' ⟨l20, h, rfl⟩
                unfold slices_stableCmpFunc_Sample_j1 at h
                refine ATodo.region ?_
                refine ARun.qv (q_move rfl) rfl ?_
                refine ARun.qv (q_mulw rfl rfl) rfl ?_
                refine ARun.qv (q_assign rfl) rfl ?_
                refine ARun.nil ?_
                refine ATodo.blk ?_
                refine ATodo.stop ?_
                obtain rfl := Option.some.inj h
                refine hJ2 _ _ rfl ?_
                exact ImpX.lessP (by exact ⟨rfl, rfl, rfl, rfl, True.intro⟩) (.cons .here .nil) (ImpX.here rfl)
        · replace h := iteF hc h
          refine ATodo.exit rfl ?_
          replace h := outL h hA2
          refine ATodo.nil ?_
          obtain rfl := Option.some.inj h
          exact ImpX.here ⟨_, .nil, _, .cons .here .nil, ⟨rfl, rfl⟩⟩

set_option maxHeartbeats 4000000 in
theorem slices_SortStableFunc_Sample_Sample_c {b_0 : Bk} {p0x0 : List Sample} {fnb : Sample → Sample → Option Int} {fnb_F : FuncId} [IsFn Try.prog fnb_F] {fnb_C : List AV} (fnb_h : ∀ {y0 y1 : _} {u : Int}, fnb y0 y1 = some u → Pu Try.prog fnb_F (.agg [.str y0.Device, .str y0.Metric, I y0.At, I y0.Value] :: .agg [.str y1.Device, .str y1.Metric, I y1.At, I y1.Value] ::  fnb_C) (I u)) {r : (List Sample)} (h : slices_SortStableFunc_Sample_Sample p0x0 fnb = some r) : ACall Try.prog 169 [.sl 4 b_0 0 p0x0.length, .func (.func fnb_F) fnb_C] [(b_0, .arr 4 (p0x0.map Sample.av))] (T0 ([(b_0, .arr 4 (r.map Sample.av))]) (.tup [])) := by
  unfold slices_SortStableFunc_Sample_Sample at h
  refine ACall.lessH ?_
  refine ACall.bodyN Try.func169 rfl Try.ntmps169 Try.results169 rfl rfl ?_
  refine ATodo.region ?_
  refine ARun.qv (q_move rfl) rfl ?_
  refine ARun.qv (q_move rfl) rfl ?_
  refine ARun.qv (t_len_sl rfl) rfl ?_
  refine ARun.qv (q_move rfl) rfl ?_
  obtain ⟨v1, e1, h⟩ := bnd h
  refine t_call0 rfl (slices_stableCmpFunc_Sample_c fnb_h (lenOk_f e1)) (CoL.refl _) (.cons .here .nil) rfl rfl ?_
  refine ARun.ghost (ImpX.eqs (s := 0) (av' := .sl 4 b_0 0 v1.length) rfl (congrArg (AV.sl 4 b_0 0) (lenOk_l e1)) (ImpX.here ?_))
  refine ARun.ghost (ImpX.eqs (s := 4) (av' := .sl 4 b_0 0 v1.length) rfl (congrArg (AV.sl 4 b_0 0) (lenOk_l e1)) (ImpX.here ?_))
  refine ARun.ghost (ImpX.eqs (s := 5) (av' := .sl 4 b_0 0 v1.length) rfl (congrArg (AV.sl 4 b_0 0) (lenOk_l e1)) (ImpX.here ?_))
  refine ARun.nil ?_
  refine ATodo.nil ?_
  obtain rfl := Option.some.inj h
  exact ImpX.here ⟨_, .nil, _, .cons .here .nil, ⟨rfl, rfl⟩⟩

set_option maxHeartbeats 4000000 in
theorem Stream_Flip_c {b_0 : Bk} {p0x0 : Fleetmake_Stream} {p1x0 : Int} {r : Bool × Fleetmake_Stream} (h : Stream_Flip p0x0 p1x0 = some r) : ACall Try.prog 38 [.ptr b_0 0, I p1x0] [(b_0, .cells [.list 1 (p0x0.L.map I), I p0x0.at_])] (T0 ([(b_0, .cells [.list 1 (r.2.L.map I), I r.2.at_])]) (.bool r.1)) := by
  unfold Stream_Flip at h
  refine ACall.lessH ?_
  refine ACall.bodyN Try.func38 rfl Try.ntmps38 Try.results38 rfl rfl ?_
  refine ATodo.seq ?_
  refine ATodo.region ?_
  refine ARun.qv (q_assign rfl) rfl ?_
  refine ARun.nil ?_
  refine ATodo.seq ?_
  refine ATodo.region ?_
  refine ARun.qv (q_move rfl) rfl ?_
  refine ARun.qv (q_move rfl) rfl ?_
  obtain ⟨v1, e1, h⟩ := bnd h
  refine t_call0 rfl (Stream_Next_c e1) (CoL.refl _) (.cons .here .nil) rfl rfl ?_
  refine ARun.qv (q_eql rfl rfl) rfl ?_
  refine ARun.qv (q_assign rfl) rfl ?_
  refine ARun.nil ?_
  refine ATodo.ret ?_
  obtain rfl := Option.some.inj h
  exact ImpX.here ⟨_, .cons (.tmp _ _ rfl) .nil, _, .cons .here .nil, ⟨rfl, rfl⟩⟩

set_option maxHeartbeats 4000000 in
theorem Stream_Samples_1x_c {p0x0 : Sample} {p1x0 : Sample} {r : Bool} (h : Stream_Samples_1x p0x0 p1x0 = some r) : Pu Try.prog 172 [.agg [.str p0x0.Device, .str p0x0.Metric, I p0x0.At, I p0x0.Value], .agg [.str p1x0.Device, .str p1x0.Metric, I p1x0.At, I p1x0.Value]] (.bool r) := by
  unfold Stream_Samples_1x at h
  refine ACall.bodyN Try.func172 rfl Try.ntmps172 Try.results172 rfl rfl ?_
  refine ATodo.seq ?_
  refine ATodo.region ?_
  refine n_box rfl rfl rfl rfl (fun b1 => ?_)
  refine n_box rfl rfl rfl rfl (fun b2 => ?_)
  refine ARun.qv (q_assign rfl) rfl ?_
  refine ARun.nil ?_
  refine ATodo.seq ?_
  refine ATodo.region ?_
  refine ARun.qv (q_load_ptr_all rfl rfl (.next .here) rfl) rfl ?_
  refine ARun.qv (q_load_ptr_all rfl rfl .here rfl) rfl ?_
  obtain ⟨v3, e1, h⟩ := bnd h
  refine r_callp rfl (Q_SampleOrder_c e1) (CoL.refl _) rfl ?_
  refine ARun.qv (q_eql rfl rfl) rfl ?_
  refine ARun.qv (q_assign rfl) rfl ?_
  refine ARun.nil ?_
  refine ATodo.ret ?_
  obtain rfl := Option.some.inj h
  exact ImpX.here ⟨_, .cons (.tmp _ _ rfl) .nil, rfl⟩

set_option maxHeartbeats 4000000 in
theorem slices_CompactFunc_Sample_Sample_c {b_0 : Bk} {p0x0 : List Sample} {fnb : Sample → Sample → Option Bool} {fnb_F : FuncId} [IsFn Try.prog fnb_F] {fnb_C : List AV} (fnb_h : ∀ {y0 y1 : _} {u : Bool}, fnb y0 y1 = some u → Pu Try.prog fnb_F (.agg [.str y0.Device, .str y0.Metric, I y0.At, I y0.Value] :: .agg [.str y1.Device, .str y1.Metric, I y1.At, I y1.Value] ::  fnb_C) (.bool u)) {r : (List Sample)} (h : slices_CompactFunc_Sample_Sample p0x0 fnb = some r) : ACall Try.prog 171 [.sl 4 b_0 0 p0x0.length, .func (.func fnb_F) fnb_C] [(b_0, .arr 4 (p0x0.map Sample.av))] (T1 (fun d_0 => [(d_0, .arr 4 (r.map Sample.av))]) (fun d_0 => .sl 4 d_0 0 r.length)) := by
  unfold slices_CompactFunc_Sample_Sample at h
  refine ACall.lessH ?_
  refine ACall.bodyN Try.func171 rfl Try.ntmps171 Try.results171 rfl rfl ?_
  refine ATodo.seq ?_
  refine ATodo.region ?_
  refine ARun.qv (q_assign rfl) rfl ?_
  refine ARun.nil ?_
  refine ATodo.seq ?_
  refine ATodo.seq ?_
  refine ATodo.region ?_
  refine ARun.qv (q_move rfl) rfl ?_
  refine ARun.qv (t_len_sl rfl) rfl ?_
  refine ARun.qv (q_lss rfl rfl) rfl ?_
  refine ARun.nil ?_
  refine ATodo.cond_d rfl (fun hc => ?_) (fun hc => ?_)
  · replace h := iteT hc h
    refine ATodo.seq ?_
    refine ATodo.region ?_
    refine ARun.qv (q_move rfl) rfl ?_
    refine ARun.qv (q_assign rfl) rfl ?_
    refine ARun.nil ?_
    refine ATodo.ret ?_
    obtain rfl := Option.some.inj h
    exact ImpX.here ⟨_, .cons (.tmp _ _ rfl) .nil, _, .cons .here .nil, ⟨b_0, rfl, rfl⟩⟩
  · replace h := iteF hc h
    refine ATodo.skip ?_
    refine ATodo.seq ?_
    refine ATodo.seq ?_
    refine ATodo.region ?_
    refine ARun.qv (q_assign rfl) rfl ?_
    refine ARun.nil ?_
    refine ATodo.block ?_
    refine ATodo.loopI (fun x : Int => slices_CompactFunc_Sample_Sample_b1 p0x0 fnb x) (fun x σ' => σ' = ⟨66, [(0, .sl 4 b_0 0 p0x0.length), (1, .func (.func fnb_F) fnb_C), (5, I x)], [(b_0, .arr 4 (p0x0.map Sample.av))]⟩) h ?_ ?_
    · exact ImpX.lessP (by exact ⟨rfl, rfl, rfl, True.intro⟩) (.cons .here .nil) (ImpX.here rfl)
    · intro n2 z1 σ' J1 hmk h hJ1 hA1
      obtain rfl := hmk
      replace h : slices_CompactFunc_Sample_Sample_b1 p0x0 fnb n2 = some z1 := h
      unfold slices_CompactFunc_Sample_Sample_b1 at h
      refine ATodo.seq ?_
      refine ATodo.seq ?_
      refine ATodo.region ?_
      refine ARun.qv (q_move rfl) rfl ?_
      refine ARun.qv (q_move rfl) rfl ?_
      refine ARun.qv (t_len_sl rfl) rfl ?_
      refine ARun.qv (q_lss rfl rfl) rfl ?_
      refine ARun.nil ?_
      refine ATodo.cond_d rfl (fun hc => ?_) (fun hc => ?_)
      · replace h := iteT hc h
        refine ATodo.skip ?_
        refine ATodo.seq ?_
        refine ATodo.block ?_
        refine ATodo.seq ?_
        refine ATodo.regionM (id := 6) (A := [0, 0, 0, 6, 14, 0, 0, 64, 224, 480, 1023]) 10 mixed rfl (by kernel_rfl) (by kernel_rfl) ?_
        refine AM.qv (q_move rfl) rfl ?_
        refine AM.qv (q_move rfl) rfl ?_
        refine AM.qv (q_move rfl) rfl ?_
        obtain ⟨v3, e1, h⟩ := bnd h
        refine AM.qv (t_index_sl rfl rfl rfl e1) rfl ?_
        refine AM.qv (t_load_aptr_agg (g := Sample.av) rfl rfl (.inl .here) rfl e1 rfl) rfl ?_
        refine AM.qv (q_move rfl) rfl ?_
        refine AM.qv (q_move rfl) rfl ?_
        refine AM.qv (q_subw rfl rfl) rfl ?_
        obtain ⟨v4, e2, h⟩ := bnd h
        refine AM.qv (t_index_sl rfl rfl rfl e2) rfl ?_
        refine AM.qv (t_load_aptr_agg (g := Sample.av) rfl rfl (.inl .here) rfl e2 rfl) rfl ?_
        refine AM.nil ?_
        obtain ⟨v5, e3, h⟩ := bnd h
        refine r_callvp rfl rfl (fnb_h e3) (CoL.refl _) rfl ?_
        refine ARun.nil ?_
        refine ATodo.cond rfl (fun hc => ?_) (fun hc => ?_)
        · replace h := iteT hc h
          refine ATodo.seq ?_
          refine ATodo.region ?_
          refine ARun.qv (q_move rfl) rfl ?_
          refine ARun.qv (q_move rfl) rfl ?_
          obtain ⟨l6, e4, h⟩ := bnd h
          refine ARun.qv (t_slice_sl rfl rfl (.some _ _ _ rfl) .none rfl rfl e4) rfl ?_
          refine ARun.qv (q_assign rfl) rfl ?_
          refine ARun.nil ?_
          refine ATodo.seq ?_
          refine ATodo.seq ?_
          refine ATodo.region ?_
          refine ARun.qv (q_assign rfl) rfl ?_
          refine ARun.nil ?_
          refine ATodo.block ?_
          refine ATodo.loopI (fun x : (List Sample) × Int × Int => slices_CompactFunc_Sample_Sample_b2 fnb n2 l6 x.1 x.2.1 x.2.2) (fun x σ' => σ' = ⟨66, [(0, .sl 4 b_0 0 x.1.length), (1, .func (.func fnb_F) fnb_C), (5, I x.2.1), (6, .sl 4 b_0 n2.toNat l6.length), (7, I x.2.2)], [(b_0, .arr 4 (x.1.map Sample.av))]⟩) h ?_ ?_
          · exact ImpX.lessP (by exact ⟨rfl, rfl, rfl, rfl, rfl, True.intro⟩) (.cons .here .nil) (ImpX.here rfl)
          · intro x z2 σ' J2 hmk h hJ2 hA2
            obtain ⟨l10, n11, n12⟩ := x
            obtain rfl := hmk
            replace h : slices_CompactFunc_Sample_Sample_b2 fnb n2 l6 l10 n11 n12 = some z2 := h
            unfold slices_CompactFunc_Sample_Sample_b2 at h
            refine ATodo.seq ?_
            refine ATodo.seq ?_
            refine ATodo.region ?_
            refine ARun.qv (q_move rfl) rfl ?_
            refine ARun.qv (q_move rfl) rfl ?_
            refine ARun.qv (t_len_sub rfl) rfl ?_
            refine ARun.qv (q_lss rfl rfl) rfl ?_
            refine ARun.nil ?_
            refine ATodo.cond_d rfl (fun hc => ?_) (fun hc => ?_)
            · replace h := iteT hc h
              refine ATodo.skip ?_
              refine ATodo.seq ?_
              refine ATodo.block ?_
              refine ATodo.seq ?_
              refine ATodo.regionM (id := 11) (A := [0, 0, 0, 6, 14, 0, 0, 64, 224, 480, 1023, 2047]) 10 mixed rfl (by kernel_rfl) (by kernel_rfl) ?_
              refine AM.qv (q_move rfl) rfl ?_
              refine AM.qv (q_move rfl) rfl ?_
              refine AM.qv (q_move rfl) rfl ?_
              obtain ⟨v13, e5, h⟩ := bnd h
              refine AM.qv (t_index_sub (L := n2) rfl rfl rfl e5) rfl ?_
              refine AM.qv (t_load_aptr_agg (g := Sample.av) rfl rfl (.inl .here) rfl (idxS_some e5).2 rfl) rfl ?_
              refine AM.qv (q_move rfl) rfl ?_
              refine AM.qv (q_move rfl) rfl ?_
              refine AM.qv (q_subw rfl rfl) rfl ?_
              obtain ⟨v14, e6, h⟩ := bnd h
              refine AM.qv (t_index_sub (L := n2) rfl rfl rfl e6) rfl ?_
              refine AM.qv (t_load_aptr_agg (g := Sample.av) rfl rfl (.inl .here) rfl (idxS_some e6).2 rfl) rfl ?_
              refine AM.nil ?_
              obtain ⟨v15, e7, h⟩ := bnd h
              refine r_callvp rfl rfl (fnb_h e7) (CoL.refl _) rfl ?_
              refine ARun.qv (q_not rfl) rfl ?_
              refine ARun.nil ?_
              refine ATodo.cut (fun σ' => ∃ (l16 : List Sample) (n17 : Int), slices_CompactFunc_Sample_Sample_j1 n12 l16 n17 = some z2 ∧ σ' = ⟨66, [(0, .sl 4 b_0 0 l16.length), (1, .func (.func fnb_F) fnb_C), (5, I n17), (6, .sl 4 b_0 n2.toNat l6.length), (7, I n12)], [(b_0, .arr 4 (l16.map Sample.av))]⟩) ?_ ?_
              · refine ATodo.cond rfl (fun hc => ?_) (fun hc => ?_)
                · replace h := iteT hc h
                  refine ATodo.seq ?_
                  refine ATodo.region ?_
                  refine ARun.qv (q_move rfl) rfl ?_
                  refine ARun.qv (q_move rfl) rfl ?_
                  refine ARun.qv (q_move rfl) rfl ?_
                  refine ARun.qv (q_move rfl) rfl ?_
                  obtain ⟨v18, e8, h⟩ := bnd h
                  refine ARun.qv (t_index_sub (L := n2) rfl rfl rfl e8) rfl ?_
                  refine ARun.qv (t_load_aptr_agg (g := Sample.av) rfl rfl (.inl .here) rfl (idxS_some e8).2 rfl) rfl ?_
                  obtain ⟨v19, e9, h⟩ := bnd h
                  refine ARun.qv (t_index_sl rfl rfl rfl e9) rfl ?_
                  refine t_store_aptr1 (g := Sample.av) (el' := v18) rfl rfl rfl rfl e9 rfl .here rfl ?_
                  refine ARun.ghost (ImpX.eqs (s := 0) (av' := .sl 4 b_0 0 (l10.set n11.toNat v18).length) rfl (by rw [List.length_set]) (ImpX.here ?_))
                  refine ARun.ghost (ImpX.eqs (s := 50) (av' := .sl 4 b_0 0 (l10.set n11.toNat v18).length) rfl (by rw [List.length_set]) (ImpX.here ?_))
                  refine ARun.nil ?_
                  refine ATodo.region ?_
                  refine ARun.qv (q_move rfl) rfl ?_
                  refine ARun.qv (q_addw rfl rfl) rfl ?_
                  refine ARun.qv (q_assign rfl) rfl ?_
                  refine ARun.nil ?_
                  refine ATodo.stop ?_
                  exact ImpX.lessP (by exact ⟨rfl, rfl, rfl, rfl, rfl, True.intro⟩) (.cons .here .nil) (ImpX.here ⟨l10.set n11.toNat v18, w64 (n11 + (1 : Int)), h, rfl⟩)
                · replace h := iteFb hc h
                  refine ATodo.skip ?_
                  refine ATodo.stop ?_
                  exact ImpX.lessP (by exact ⟨rfl, rfl, rfl, rfl, rfl, True.intro⟩) (.cons .here .nil) (ImpX.here ⟨l10, n11, h, rfl⟩)
              · rintro σ' ⟨l16, n17, h, rfl⟩
                unfold slices_CompactFunc_Sample_Sample_j1 at h
                refine ATodo.blk ?_
                refine ATodo.region ?_
                refine ARun.qv (q_move rfl) rfl ?_
                refine ARun.qv (q_addw rfl rfl) rfl ?_
                refine ARun.qv (q_assign rfl) rfl ?_
                refine ARun.nil ?_
                refine ATodo.stop ?_
                obtain rfl := Option.some.inj h
                refine hJ2 _ _ rfl ?_
                exact ImpX.lessP (by exact ⟨rfl, rfl, rfl, rfl, rfl, True.intro⟩) (.cons .here .nil) (ImpX.here rfl)
            · replace h := iteF hc h
              refine ATodo.exit rfl ?_
              replace h := outL h hA2
              unfold slices_CompactFunc_Sample_Sample_k2 at h
              refine ATodo.seq ?_
              refine ATodo.region ?_
              refine ARun.qv (q_move rfl) rfl ?_
              refine ARun.qv (q_move rfl) rfl ?_
              obtain ⟨l20, e10, h⟩ := bnd h
              refine ARun.qv (t_slice_sl rfl rfl (.some _ _ _ rfl) .none rfl rfl e10) rfl ?_
              refine t_clear (g := Sample.av) (Z := (⟨[], [], (0 : Int), (0 : Int)⟩ : Sample)) (L := n11) rfl rfl rfl rfl rfl rfl e10 .here ?_
              refine ARun.ghost (ImpX.eqs (s := 0) (av' := .sl 4 b_0 0 (clr l10 n11 l20.length (⟨[], [], (0 : Int), (0 : Int)⟩ : Sample)).length) rfl (congrArg (AV.sl 4 b_0 0) (clr_len e10)) (ImpX.here ?_))
              refine ARun.ghost (ImpX.eqs (s := 59) (av' := .sl 4 b_0 0 (clr l10 n11 l20.length (⟨[], [], (0 : Int), (0 : Int)⟩ : Sample)).length) rfl (congrArg (AV.sl 4 b_0 0) (clr_len e10)) (ImpX.here ?_))
              refine ARun.nil ?_
              refine ATodo.seq ?_
              refine ATodo.region ?_
              refine ARun.qv (q_move rfl) rfl ?_
              refine ARun.qv (q_move rfl) rfl ?_
              obtain ⟨l21, e11, h⟩ := bnd h
              refine ARun.qv (t_slice_sl rfl rfl .none (.some _ _ _ rfl) rfl rfl e11) rfl ?_
              refine ARun.qv (q_assign rfl) rfl ?_
              refine ARun.ghost (ImpX.takeT e11 .here (ImpX.here ?_))
              refine ARun.nil ?_
              refine ATodo.ret ?_
              replace h := outL h hA1
              obtain rfl := Option.some.inj h
              exact ImpX.here ⟨_, .cons (.tmp _ _ rfl) .nil, _, .cons .here .nil, ⟨b_0, rfl, rfl⟩⟩
        · replace h := iteFb hc h
          refine ATodo.skip ?_
          refine ATodo.blk ?_
          refine ATodo.region ?_
          refine ARun.qv (q_move rfl) rfl ?_
          refine ARun.qv (q_addw rfl rfl) rfl ?_
          refine ARun.qv (q_assign rfl) rfl ?_
          refine ARun.nil ?_
          refine ATodo.stop ?_
          obtain rfl := Option.some.inj h
          refine hJ1 _ _ rfl ?_
          exact ImpX.lessP (by exact ⟨rfl, rfl, rfl, True.intro⟩) (.cons .here .nil) (ImpX.here rfl)
      · replace h := iteF hc h
        refine ATodo.exit rfl ?_
        replace h := outL h hA1
        refine ATodo.seq ?_
        refine ATodo.region ?_
        refine ARun.qv (q_move rfl) rfl ?_
        refine ARun.qv (q_assign rfl) rfl ?_
        refine ARun.nil ?_
        refine ATodo.ret ?_
        obtain rfl := Option.some.inj h
        exact ImpX.here ⟨_, .cons (.tmp _ _ rfl) .nil, _, .cons .here .nil, ⟨b_0, rfl, rfl⟩⟩

set_option maxHeartbeats 4000000 in
theorem Stream_Odd_c {b_0 : Bk} {p0x0 : Fleetmake_Stream} {p1x0 : Int} {p2x0 : Int} {r : Int × Fleetmake_Stream} (h : Stream_Odd p0x0 p1x0 p2x0 = some r) : ACall Try.prog 14 [.ptr b_0 0, I p1x0, I p2x0] [(b_0, .cells [.list 1 (p0x0.L.map I), I p0x0.at_])] (T0 ([(b_0, .cells [.list 1 (r.2.L.map I), I r.2.at_])]) (I r.1)) := by
  unfold Stream_Odd at h
  refine ACall.lessH ?_
  refine ACall.bodyN Try.func14 rfl Try.ntmps14 Try.results14 rfl rfl ?_
  refine ATodo.seq ?_
  refine ATodo.region ?_
  refine ARun.qv (q_assign rfl) rfl ?_
  refine ARun.nil ?_
  refine ATodo.seq ?_
  refine ATodo.seq ?_
  refine ATodo.region ?_
  refine ARun.qv (q_move rfl) rfl ?_
  obtain ⟨v1, e1, h⟩ := bnd h
  refine t_call0 rfl (Stream_Flip_c e1) (CoL.refl _) (.cons .here .nil) rfl rfl ?_
  refine ARun.nil ?_
  refine ATodo.cond rfl (fun hc => ?_) (fun hc => ?_)
  · replace h := iteT hc h
    refine ATodo.seq ?_
    refine ATodo.region ?_
    refine ARun.qv (q_move rfl) rfl ?_
    refine ARun.qv (q_move rfl) rfl ?_
    refine ARun.qv (q_subw rfl rfl) rfl ?_
    refine ARun.qv (q_move rfl) rfl ?_
    refine ARun.qv (q_addw rfl rfl) rfl ?_
    refine ARun.qv (q_move rfl) rfl ?_
    refine ARun.qv (q_move rfl) rfl ?_
    refine n_buildSliceL (xs := ([w64 (p1x0 - (1 : Int)), w64 (p2x0 + (1 : Int)), p1x0, p2x0, (-1099511627776 : Int), (1099511627776 : Int)]).map I) rfl rfl rfl rfl rfl rfl ?_
    obtain ⟨v2, e2, h⟩ := bnd h
    refine t_call0 rfl (Stream_Pick_c e2) (CoL.refl _) (.cons .here .nil) rfl rfl ?_
    refine ARun.qv (q_assign rfl) rfl ?_
    refine ARun.nil ?_
    refine ATodo.ret ?_
    obtain rfl := Option.some.inj h
    exact ImpX.here ⟨_, .cons (.tmp _ _ rfl) .nil, _, .cons .here .nil, ⟨rfl, rfl⟩⟩
  · replace h := iteFb hc h
    refine ATodo.skip ?_
    refine ATodo.seq ?_
    refine ATodo.region ?_
    refine ARun.qv (q_move rfl) rfl ?_
    refine ARun.qv (q_move rfl) rfl ?_
    refine ARun.qv (q_move rfl) rfl ?_
    obtain ⟨v3, e3, h⟩ := bnd h
    refine t_call0 rfl (Stream_Range_c e3) (CoL.refl _) (.cons .here .nil) rfl rfl ?_
    refine ARun.qv (q_assign rfl) rfl ?_
    refine ARun.nil ?_
    refine ATodo.ret ?_
    obtain rfl := Option.some.inj h
    exact ImpX.here ⟨_, .cons (.tmp _ _ rfl) .nil, _, .cons .here .nil, ⟨rfl, rfl⟩⟩

set_option maxHeartbeats 4000000 in
theorem Stream_Samples_c {b_0 : Bk} {p0x0 : Fleetmake_Stream} {p1x0 : Int} {r : (List Sample) × Fleetmake_Stream} (h : Stream_Samples p0x0 p1x0 = some r) : ACall Try.prog 80 [.ptr b_0 0, I p1x0] [(b_0, .cells [.list 1 (p0x0.L.map I), I p0x0.at_])] (T1 (fun d_0 => [(b_0, .cells [.list 1 (r.2.L.map I), I r.2.at_]), (d_0, .arr 4 (r.1.map Sample.av))]) (fun d_0 => .sl 4 d_0 0 r.1.length)) := by
  unfold Stream_Samples at h
  refine ACall.lessH ?_
  refine ACall.bodyN Try.func80 rfl Try.ntmps80 Try.results80 rfl rfl ?_
  refine ATodo.seq ?_
  refine ATodo.region ?_
  refine ARun.qv (q_assign rfl) rfl ?_
  refine ARun.nil ?_
  refine ATodo.seq ?_
  refine ATodo.region ?_
  refine ARun.qv (q_assign rfl) rfl ?_
  refine ARun.nil ?_
  refine ATodo.seq ?_
  refine ATodo.seq ?_
  refine ATodo.region ?_
  refine ARun.qv (q_move rfl) rfl ?_
  refine ARun.qv (q_move rfl) rfl ?_
  refine ARun.nil ?_
  refine ATodo.block ?_
  refine ATodo.loopI (fun x : (List Int) × Int × (List Sample) × Int => Stream_Samples_b1 p1x0 x.1 x.2.1 x.2.2.1 x.2.2.2) (fun x σ' => ∃ (b8 : Bk), σ' = ⟨68, [(0, .ptr b_0 0), (5, .sl 4 b8 0 x.2.2.1.length), (7, I p1x0), (8, I x.2.2.2)], [(b_0, .cells [.list 1 (x.1.map I), I x.2.1]), (b8, .arr 4 (x.2.2.1.map Sample.av))]⟩) h ?_ ?_
  · refine ImpX.arr (s := 5) 4 rfl (fun b11 => ?_)
    exact ImpX.lessP (by exact ⟨rfl, rfl, rfl, rfl, True.intro⟩) (.cons (.next .here) (.cons .here .nil)) (ImpX.here ⟨b11, rfl⟩)
  · intro x z1 σ' J1 hmk h hJ1 hA1
    obtain ⟨l6, n7, l9, n10⟩ := x
    obtain ⟨b8, rfl⟩ := hmk
    replace h : Stream_Samples_b1 p1x0 l6 n7 l9 n10 = some z1 := h
    unfold Stream_Samples_b1 at h
    refine ATodo.seq ?_
    refine ATodo.region ?_
    refine ARun.qv (q_lss rfl rfl) rfl ?_
    refine ARun.nil ?_
    refine ATodo.seq ?_
    refine ATodo.cond_d rfl (fun hc => ?_) (fun hc => ?_)
    · replace h := iteT hc h
      refine ATodo.skip ?_
      refine ATodo.seq ?_
      refine ATodo.block ?_
      refine ATodo.region ?_
      refine ARun.qv (q_move rfl) rfl ?_
      refine ARun.qv (q_move rfl) rfl ?_
      refine n_buildSliceL (xs := ([([100] : Str), ([100] : Str), ([101] : Str)]).map AV.str) rfl rfl rfl rfl rfl rfl ?_
      obtain ⟨v12, e1, h⟩ := bnd h
      refine t_call0 rfl (Stream_Some_c e1) (CoL.refl _) (.cons .here .nil) rfl rfl ?_
      refine ARun.qv (q_move rfl) rfl ?_
      refine n_buildSliceL (xs := ([([109] : Str), ([109] : Str), ([110] : Str)]).map AV.str) rfl rfl rfl rfl rfl rfl ?_
      obtain ⟨v13, e2, h⟩ := bnd h
      refine t_call0 rfl (Stream_Some_c e2) (CoL.refl _) (.cons .here .nil) rfl rfl ?_
      refine ARun.qv (q_move rfl) rfl ?_
      refine n_buildSliceL (xs := ([(0 : Int), (1 : Int), (5 : Int), (10 : Int), (20 : Int)]).map I) rfl rfl rfl rfl rfl rfl ?_
      obtain ⟨v14, e3, h⟩ := bnd h
      refine t_call0 rfl (Stream_Pick_c e3) (CoL.refl _) (.cons .here .nil) rfl rfl ?_
      refine ARun.qv (q_move rfl) rfl ?_
      refine n_buildSliceL (xs := ([(1 : Int), (1 : Int), (2 : Int), (-3 : Int)]).map I) rfl rfl rfl rfl rfl rfl ?_
      obtain ⟨v15, e4, h⟩ := bnd h
      refine t_call0 rfl (Stream_Pick_c e4) (CoL.refl _) (.cons .here .nil) rfl rfl ?_
      refine ARun.qv (n_build rfl rfl rfl rfl rfl) rfl ?_
      refine n_buildSliceL (xs := ([(⟨v12.1, v13.1, v14.1, v15.1⟩ : Sample)]).map Sample.av) rfl rfl rfl rfl rfl rfl ?_
      obtain ⟨l16, e5, h⟩ := bnd h
      refine t_append (g := Sample.av) rfl rfl rfl rfl rfl rfl rfl rfl (.list _) e5 (fun _ => (.next .here)) rfl (fun b17 => ?_)
      refine ARun.qv (q_assign rfl) rfl ?_
      refine ARun.nil ?_
      refine ATodo.blk ?_
      refine ATodo.region ?_
      refine ARun.qv (q_addw rfl rfl) rfl ?_
      refine ARun.qv (q_move rfl) rfl ?_
      refine ARun.nil ?_
      refine ATodo.stop ?_
      obtain rfl := Option.some.inj h
      refine hJ1 _ _ rfl ?_
      exact ImpX.lessP (by exact ⟨rfl, rfl, rfl, rfl, True.intro⟩) (.cons .here (.cons .here .nil)) (ImpX.here ⟨b17, rfl⟩)
    · replace h := iteF hc h
      refine ATodo.exit rfl ?_
      replace h := outL h hA1
      unfold Stream_Samples_k4 at h
      refine ATodo.seq ?_
      refine ATodo.region ?_
      refine ARun.qv (q_move rfl) rfl ?_
      obtain ⟨v18, e6, h⟩ := bnd h
      refine t_call0 rfl (slices_SortStableFunc_Sample_Sample_c (fun e => Q_SampleOrder_c e) (lenOk_f e6)) (CoL.refl _) (.cons (.next .here) .nil) rfl rfl ?_
      refine ARun.ghost (ImpX.eqs (s := 5) (av' := .sl 4 b8 0 v18.length) rfl (congrArg (AV.sl 4 b8 0) (lenOk_l e6)) (ImpX.here ?_))
      refine ARun.ghost (ImpX.eqs (s := 27) (av' := .sl 4 b8 0 v18.length) rfl (congrArg (AV.sl 4 b8 0) (lenOk_l e6)) (ImpX.here ?_))
      refine ARun.nil ?_
      refine ATodo.seq ?_
      refine ATodo.seq ?_
      refine ATodo.region ?_
      refine ARun.qv (q_move rfl) rfl ?_
      obtain ⟨v19, e7, h⟩ := bnd h
      refine t_call0 rfl (Stream_Flip_c e7) (CoL.refl _) (.cons (.next .here) .nil) rfl rfl ?_
      refine ARun.qv (q_not rfl) rfl ?_
      refine ARun.nil ?_
      refine ATodo.cut (fun σ' => ∃ (b20 : Bk) (l21 : List Sample), Stream_Samples_j1 v19 l21 = some r ∧ σ' = ⟨68, [(0, .ptr b_0 0), (5, .sl 4 b20 0 l21.length)], [(b_0, .cells [.list 1 (v19.2.L.map I), I v19.2.at_]), (b20, .arr 4 (l21.map Sample.av))]⟩) ?_ ?_
      · refine ATodo.cond rfl (fun hc => ?_) (fun hc => ?_)
        · replace h := iteT hc h
          refine ATodo.region ?_
          refine ARun.qv (q_move rfl) rfl ?_
          obtain ⟨v22, e8, h⟩ := bnd h
          refine t_call1 rfl (slices_CompactFunc_Sample_Sample_c (fun e => Stream_Samples_1x_c e) e8) (CoL.refl _) (.cons (.next .here) .nil) (fun _ => rfl) rfl (fun b23 => ?_)
          refine ARun.qv (q_assign rfl) rfl ?_
          refine ARun.nil ?_
          refine ATodo.stop ?_
          exact ImpX.lessP (by exact ⟨rfl, rfl, True.intro⟩) (.cons (.next .here) (.cons .here .nil)) (ImpX.here ⟨b23, v22, h, rfl⟩)
        · replace h := iteFb hc h
          refine ATodo.skip ?_
          refine ATodo.stop ?_
          exact ImpX.lessP (by exact ⟨rfl, rfl, True.intro⟩) (.cons .here (.cons .here .nil)) (ImpX.here ⟨b8, v18, h, rfl⟩)
      · rintro σ' ⟨b20, l21, h, rfl⟩
        unfold Stream_Samples_j1 at h
        refine ATodo.seq ?_
        refine ATodo.seq ?_
        refine ATodo.cut (fun σ' => ∃ (l24 : List Int) (n25 : Int) (c26 : Bool), Stream_Samples_j2 l21 l24 n25 c26 = some r ∧ σ' = ⟨68, [(0, .ptr b_0 0), (5, .sl 4 b20 0 l21.length), (40, .bool c26)], [(b_0, .cells [.list 1 (l24.map I), I n25]), (b20, .arr 4 (l21.map Sample.av))]⟩) ?_ ?_
        · refine ATodo.region ?_
          refine ARun.qv (q_move rfl) rfl ?_
          refine ARun.qv (t_len_sl rfl) rfl ?_
          refine ARun.qv (q_gtr rfl rfl) rfl ?_
          refine ARun.qv (q_move rfl) rfl ?_
          refine ARun.guard_dt rfl rfl rfl (fun hc => ?_) (fun hc => ?_)
          · replace h := iteT hc h
            refine ARun.qv (q_move rfl) rfl ?_
            refine ARun.guard_yes rfl rfl rfl ?_
            obtain ⟨v27, e9, h⟩ := bnd h
            refine t_call0 rfl (Stream_Flip_c e9) (CoL.refl _) (.cons .here .nil) rfl rfl ?_
            refine ARun.qv (q_pick_t rfl rfl) rfl ?_
            refine ARun.nil ?_
            refine ATodo.stop ?_
            exact ImpX.lessP (by exact ⟨rfl, rfl, rfl, True.intro⟩) (.cons .here (.cons .here .nil)) (ImpX.here ⟨v27.2.L, v27.2.at_, v27.1, h, rfl⟩)
          · replace h := iteF hc h
            refine ARun.guard_no rfl rfl rfl rfl ?_
            refine ARun.qv (q_pick_f rfl rfl) rfl ?_
            refine ARun.nil ?_
            refine ATodo.stop ?_
            exact ImpX.lessP (by exact ⟨rfl, rfl, rfl, True.intro⟩) (.cons .here (.cons .here .nil)) (ImpX.here ⟨v19.2.L, v19.2.at_, false, h, rfl⟩)
        · rintro σ' ⟨l24, n25, c26, h, rfl⟩
          unfold Stream_Samples_j2 at h
          refine ATodo.cut (fun σ' => ∃ (l28 : List Int) (n29 : Int) (l30 : List Sample), Stream_Samples_j3 l28 n29 l30 = some r ∧ σ' = ⟨68, [(5, .sl 4 b20 0 l30.length)], [(b_0, .cells [.list 1 (l28.map I), I n29]), (b20, .arr 4 (l30.map Sample.av))]⟩) ?_ ?_
          · refine ATodo.cond rfl (fun hc => ?_) (fun hc => ?_)
            · replace h := iteT hc h
              refine ATodo.seq ?_
              refine ATodo.region ?_
              refine ARun.qv (q_move rfl) rfl ?_
              refine ARun.qv (q_move rfl) rfl ?_
              refine ARun.qv (q_move rfl) rfl ?_
              refine ARun.qv (t_len_sl rfl) rfl ?_
              obtain ⟨v31, e10, h⟩ := bnd h
              refine t_call0 rfl (Stream_Next_c e10) (CoL.refl _) (.cons .here .nil) rfl rfl ?_
              obtain ⟨v32, e11, h⟩ := bnd h
              refine ARun.qv (t_index_sl rfl rfl rfl e11) rfl ?_
              refine ARun.qv (q_assign rfl) rfl ?_
              refine ARun.nil ?_
              refine ATodo.region ?_
              refine ARun.qv (q_move rfl) rfl ?_
              refine ARun.qv (q_move rfl) rfl ?_
              refine ARun.qv (q_move rfl) rfl ?_
              refine ARun.qv (q_move rfl) rfl ?_
              refine ARun.qv (q_move rfl) rfl ?_
              refine ARun.qv (q_nilCheck_aptr rfl) rfl ?_
              refine ARun.qv (t_field_aptr rfl rfl) rfl ?_
              refine ARun.qv (t_load_aptr (g := Sample.av) rfl rfl (.inl (.next .here)) e11 rfl) rfl ?_
              refine n_buildSliceL (xs := ([v32.Device, ([] : Str), ([65] : Str)]).map AV.str) rfl rfl rfl rfl rfl rfl ?_
              obtain ⟨v33, e12, h⟩ := bnd h
              refine t_call0 rfl (Stream_Some_c e12) (CoL.refl _) (.cons .here .nil) rfl rfl ?_
              refine ARun.qv (q_move rfl) rfl ?_
              obtain ⟨v34, e13, h⟩ := bnd h
              refine t_call0 rfl (Stream_Odd_c e13) (CoL.refl _) (.cons .here .nil) rfl rfl ?_
              refine ARun.qv (q_move rfl) rfl ?_
              obtain ⟨v35, e14, h⟩ := bnd h
              refine t_call0 rfl (Stream_Odd_c e14) (CoL.refl _) (.cons .here .nil) rfl rfl ?_
              refine ARun.qv (q_nilCheck_aptr rfl) rfl ?_
              refine ARun.qv (t_field_aptr rfl rfl) rfl ?_
              refine t_store_aptr1 (g := Sample.av) (el' := (⟨v33.1, v32.Metric, v32.At, v32.Value⟩ : Sample)) rfl rfl rfl rfl e11 rfl (.next .here) rfl ?_
              refine ARun.ghost (ImpX.eqs (s := 5) (av' := .sl 4 b20 0 (l21.set v31.1.toNat (⟨v33.1, v32.Metric, v32.At, v32.Value⟩ : Sample)).length) rfl (by rw [List.length_set]) (ImpX.here ?_))
              refine ARun.ghost (ImpX.eqs (s := 41) (av' := .sl 4 b20 0 (l21.set v31.1.toNat (⟨v33.1, v32.Metric, v32.At, v32.Value⟩ : Sample)).length) rfl (by rw [List.length_set]) (ImpX.here ?_))
              refine ARun.ghost (ImpX.eqs (s := 43) (av' := .sl 4 b20 0 (l21.set v31.1.toNat (⟨v33.1, v32.Metric, v32.At, v32.Value⟩ : Sample)).length) rfl (by rw [List.length_set]) (ImpX.here ?_))
              refine ARun.qv (q_nilCheck_aptr rfl) rfl ?_
              refine ARun.qv (t_field_aptr rfl rfl) rfl ?_
              refine t_store_aptr1 (g := Sample.av) (el' := (⟨v33.1, v32.Metric, v34.1, v32.Value⟩ : Sample)) rfl rfl rfl rfl (idx_set_self (v := (⟨v33.1, v32.Metric, v32.At, v32.Value⟩ : Sample)) e11) rfl (.next .here) rfl ?_
              refine ARun.ghost (ImpX.eqs (s := 5) (av' := .sl 4 b20 0 ((l21.set v31.1.toNat (⟨v33.1, v32.Metric, v32.At, v32.Value⟩ : Sample)).set v31.1.toNat (⟨v33.1, v32.Metric, v34.1, v32.Value⟩ : Sample)).length) rfl (by rw [List.length_set]) (ImpX.here ?_))
              refine ARun.ghost (ImpX.eqs (s := 41) (av' := .sl 4 b20 0 ((l21.set v31.1.toNat (⟨v33.1, v32.Metric, v32.At, v32.Value⟩ : Sample)).set v31.1.toNat (⟨v33.1, v32.Metric, v34.1, v32.Value⟩ : Sample)).length) rfl (by rw [List.length_set]) (ImpX.here ?_))
              refine ARun.ghost (ImpX.eqs (s := 43) (av' := .sl 4 b20 0 ((l21.set v31.1.toNat (⟨v33.1, v32.Metric, v32.At, v32.Value⟩ : Sample)).set v31.1.toNat (⟨v33.1, v32.Metric, v34.1, v32.Value⟩ : Sample)).length) rfl (by rw [List.length_set]) (ImpX.here ?_))
              refine ARun.qv (q_nilCheck_aptr rfl) rfl ?_
              refine ARun.qv (t_field_aptr rfl rfl) rfl ?_
              refine t_store_aptr1 (g := Sample.av) (el' := (⟨v33.1, v32.Metric, v34.1, v35.1⟩ : Sample)) rfl rfl rfl rfl (idx_set_self (v := (⟨v33.1, v32.Metric, v34.1, v32.Value⟩ : Sample)) (idx_set_self (v := (⟨v33.1, v32.Metric, v32.At, v32.Value⟩ : Sample)) e11)) rfl (.next .here) rfl ?_
              refine ARun.ghost (ImpX.eqs (s := 5) (av' := .sl 4 b20 0 (((l21.set v31.1.toNat (⟨v33.1, v32.Metric, v32.At, v32.Value⟩ : Sample)).set v31.1.toNat (⟨v33.1, v32.Metric, v34.1, v32.Value⟩ : Sample)).set v31.1.toNat (⟨v33.1, v32.Metric, v34.1, v35.1⟩ : Sample)).length) rfl (by rw [List.length_set]) (ImpX.here ?_))
              refine ARun.ghost (ImpX.eqs (s := 41) (av' := .sl 4 b20 0 (((l21.set v31.1.toNat (⟨v33.1, v32.Metric, v32.At, v32.Value⟩ : Sample)).set v31.1.toNat (⟨v33.1, v32.Metric, v34.1, v32.Value⟩ : Sample)).set v31.1.toNat (⟨v33.1, v32.Metric, v34.1, v35.1⟩ : Sample)).length) rfl (by rw [List.length_set]) (ImpX.here ?_))
              refine ARun.ghost (ImpX.eqs (s := 43) (av' := .sl 4 b20 0 (((l21.set v31.1.toNat (⟨v33.1, v32.Metric, v32.At, v32.Value⟩ : Sample)).set v31.1.toNat (⟨v33.1, v32.Metric, v34.1, v32.Value⟩ : Sample)).set v31.1.toNat (⟨v33.1, v32.Metric, v34.1, v35.1⟩ : Sample)).length) rfl (by rw [List.length_set]) (ImpX.here ?_))
              refine ARun.nil ?_
              refine ATodo.stop ?_
              exact ImpX.lessP (by exact ⟨rfl, True.intro⟩) (.cons .here (.cons .here .nil)) (ImpX.here ⟨v35.2.L, v35.2.at_, ((l21.set v31.1.toNat (⟨v33.1, v32.Metric, v32.At, v32.Value⟩ : Sample)).set v31.1.toNat (⟨v33.1, v32.Metric, v34.1, v32.Value⟩ : Sample)).set v31.1.toNat (⟨v33.1, v32.Metric, v34.1, v35.1⟩ : Sample), h, rfl⟩)
            · replace h := iteFb hc h
              refine ATodo.skip ?_
              refine ATodo.stop ?_
              exact ImpX.lessP (by exact ⟨rfl, True.intro⟩) (.cons .here (.cons .here .nil)) (ImpX.here ⟨l24, n25, l21, h, rfl⟩)
          · rintro σ' ⟨l28, n29, l30, h, rfl⟩
            unfold Stream_Samples_j3 at h
            refine ATodo.seq ?_
            refine ATodo.region ?_
            refine ARun.qv (q_move rfl) rfl ?_
            refine ARun.qv (q_assign rfl) rfl ?_
            refine ARun.nil ?_
            refine ATodo.ret ?_
            obtain rfl := Option.some.inj h
            exact ImpX.here ⟨_, .cons (.tmp _ _ rfl) .nil, _, .cons .here (.cons .here .nil), ⟨b20, rfl, rfl⟩⟩

set_option maxHeartbeats 4000000 in
theorem slices_Clone_Sample_Sample_c {p0x0 : List Sample} {r : (List Sample)} (h : slices_Clone_Sample_Sample p0x0 = some r) : ACall Try.prog 81 [.list 4 (p0x0.map Sample.av)] [] (T1 (fun d_0 => [(d_0, .arr 4 (r.map Sample.av))]) (fun d_0 => .sl 4 d_0 0 r.length)) := by
  unfold slices_Clone_Sample_Sample at h
  refine ACall.lessH ?_
  refine ACall.bodyN Try.func81 rfl Try.ntmps81 Try.results81 rfl rfl ?_
  refine ATodo.seq ?_
  refine ATodo.region ?_
  refine ARun.qv (q_assign rfl) rfl ?_
  refine ARun.nil ?_
  refine ATodo.seq ?_
  refine ATodo.seq ?_
  refine ATodo.region ?_
  refine ARun.qv (q_move rfl) rfl ?_
  refine r_eqnil rfl rfl rfl rfl (fun c hc => ?_)
  refine ARun.nil ?_
  refine ATodo.cond rfl (fun hT => ?_) (fun hF => ?_)
  · obtain rfl := app_nil_some h (List.map_eq_nil_iff.1 (hc hT))
    refine ATodo.seq ?_
    refine ATodo.region ?_
    refine ARun.qv (q_assign rfl) rfl ?_
    refine ARun.nil ?_
    refine ATodo.ret ?_
    refine ImpX.arr (s := 2) 4 rfl (fun b1 => ?_)
    exact ImpX.here ⟨_, .cons (.tmp _ _ rfl) .nil, _, .cons .here .nil, ⟨b1, rfl, rfl⟩⟩
  · refine ATodo.skip ?_
    refine ATodo.seq ?_
    refine ATodo.region ?_
    refine n_buildSlice (xs := ([] : List Sample).map Sample.av) rfl rfl rfl rfl rfl rfl (fun b2 => ?_)
    refine ARun.qv (q_move rfl) rfl ?_
    refine t_append (g := Sample.av) (Xs := []) rfl rfl rfl rfl rfl rfl rfl rfl (.list _) h (fun _ => .here) rfl (fun b3 => ?_)
    refine ARun.qv (q_assign rfl) rfl ?_
    refine ARun.nil ?_
    refine ATodo.ret ?_
    exact ImpX.here ⟨_, .cons (.tmp _ _ rfl) .nil, _, .cons .here .nil, ⟨b3, rfl, rfl⟩⟩

set_option maxHeartbeats 4000000 in
theorem Stream_Frame_c {b_0 : Bk} {p0x0 : Fleetmake_Stream} {r : Window × Fleetmake_Stream} (h : Stream_Frame p0x0 = some r) : ACall Try.prog 55 [.ptr b_0 0] [(b_0, .cells [.list 1 (p0x0.L.map I), I p0x0.at_])] (T0 ([(b_0, .cells [.list 1 (r.2.L.map I), I r.2.at_])]) (.agg [I r.1.From, I r.1.To])) := by
  unfold Stream_Frame at h
  refine ACall.lessH ?_
  refine ACall.bodyN Try.func55 rfl Try.ntmps55 Try.results55 rfl rfl ?_
  refine ATodo.seq ?_
  refine ATodo.region ?_
  refine n_alloc rfl rfl rfl rfl (fun b1 => ?_)
  refine ARun.nil ?_
  refine ATodo.seq ?_
  refine ATodo.region ?_
  refine ARun.qv (q_move rfl) rfl ?_
  refine n_buildSliceL (xs := ([(0 : Int), (0 : Int), (1 : Int), (5 : Int), (10 : Int), (50 : Int)]).map I) rfl rfl rfl rfl rfl rfl ?_
  obtain ⟨v2, e1, h⟩ := bnd h
  refine t_call0 rfl (Stream_Pick_c e1) (CoL.refl _) (.cons (.next .here) .nil) rfl rfl ?_
  refine ARun.qv (q_move rfl) rfl ?_
  refine n_buildSliceL (xs := ([(10 : Int), (50 : Int), (100 : Int), (300 : Int), (3000 : Int)]).map I) rfl rfl rfl rfl rfl rfl ?_
  obtain ⟨v3, e2, h⟩ := bnd h
  refine t_call0 rfl (Stream_Pick_c e2) (CoL.refl _) (.cons .here .nil) rfl rfl ?_
  refine ARun.qv (n_build rfl rfl rfl rfl rfl) rfl ?_
  refine n_alloc rfl rfl rfl rfl (fun b4 => ?_)
  refine n_store_ptr rfl rfl rfl rfl .here rfl rfl ?_
  refine ARun.nil ?_
  refine ATodo.seq ?_
  refine ATodo.seq ?_
  refine ATodo.cut (fun σ' => ∃ (l5 : List Int) (n6 : Int) (c7 : Bool), Stream_Frame_j1 v2 v3 l5 n6 c7 = some r ∧ σ' = ⟨39, [(0, .ptr b_0 0), (2, .ptr b1 0), (3, .ptr b4 0), (20, .bool c7)], [(b_0, .cells [.list 1 (l5.map I), I n6]), (b1, .cells [I (0 : Int), I (0 : Int)]), (b4, .cells [I v2.1, I v3.1])]⟩) ?_ ?_
  · refine ATodo.region ?_
    refine ARun.qv (n_field_ptr rfl rfl) rfl ?_
    refine ARun.qv (q_load_ptr rfl rfl .here rfl) rfl ?_
    refine ARun.qv (n_field_ptr rfl rfl) rfl ?_
    refine ARun.qv (q_load_ptr rfl rfl .here rfl) rfl ?_
    refine ARun.qv (q_gtr rfl rfl) rfl ?_
    refine ARun.qv (q_move rfl) rfl ?_
    refine ARun.guard_dt rfl rfl rfl (fun hc => ?_) (fun hc => ?_)
    · replace h := iteT hc h
      refine ARun.qv (q_move rfl) rfl ?_
      refine ARun.guard_yes rfl rfl rfl ?_
      obtain ⟨v8, e3, h⟩ := bnd h
      refine t_call0 rfl (Stream_Flip_c e3) (CoL.refl _) (.cons (.next .here) .nil) rfl rfl ?_
      refine ARun.guard_yes rfl rfl rfl ?_
      refine ARun.qv (q_not rfl) rfl ?_
      refine ARun.qv (q_pick_t rfl rfl) rfl ?_
      refine ARun.nil ?_
      refine ATodo.stop ?_
      exact ImpX.lessP (by exact ⟨rfl, rfl, rfl, rfl, True.intro⟩) (.cons .here (.cons (.next .here) (.cons .here .nil))) (ImpX.here ⟨v8.2.L, v8.2.at_, !v8.1, h, rfl⟩)
    · replace h := iteF hc h
      refine ARun.guard_no rfl rfl rfl rfl ?_
      refine ARun.guard_no rfl rfl rfl rfl ?_
      refine ARun.qv (q_pick_f rfl rfl) rfl ?_
      refine ARun.nil ?_
      refine ATodo.stop ?_
      exact ImpX.lessP (by exact ⟨rfl, rfl, rfl, rfl, True.intro⟩) (.cons (.next .here) (.cons (.next .here) (.cons .here .nil))) (ImpX.here ⟨v3.2.L, v3.2.at_, false, h, rfl⟩)
  · rintro σ' ⟨l5, n6, c7, h, rfl⟩
    unfold Stream_Frame_j1 at h
    refine ATodo.cut (fun σ' => ∃ (n9 : Int), Stream_Frame_j2 v3 l5 n6 n9 = some r ∧ σ' = ⟨39, [(0, .ptr b_0 0), (2, .ptr b1 0), (3, .ptr b4 0)], [(b_0, .cells [.list 1 (l5.map I), I n6]), (b1, .cells [I (0 : Int), I (0 : Int)]), (b4, .cells [I n9, I v3.1])]⟩) ?_ ?_
    · refine ATodo.cond rfl (fun hc => ?_) (fun hc => ?_)
      · replace h := iteT hc h
        refine ATodo.region ?_
        refine ARun.qv (n_field_ptr rfl rfl) rfl ?_
        refine n_store_ptr rfl rfl rfl rfl (.next (.next .here)) rfl rfl ?_
        refine ARun.nil ?_
        refine ATodo.stop ?_
        exact ImpX.lessP (by exact ⟨rfl, rfl, rfl, True.intro⟩) (.cons .here (.cons .here (.cons .here .nil))) (ImpX.here ⟨(0 : Int), h, rfl⟩)
      · replace h := iteFb hc h
        refine ATodo.skip ?_
        refine ATodo.stop ?_
        exact ImpX.lessP (by exact ⟨rfl, rfl, rfl, True.intro⟩) (.cons .here (.cons .here (.cons .here .nil))) (ImpX.here ⟨v2.1, h, rfl⟩)
    · rintro σ' ⟨n9, h, rfl⟩
      unfold Stream_Frame_j2 at h
      refine ATodo.seq ?_
      refine ATodo.seq ?_
      refine ATodo.region ?_
      refine ARun.qv (q_move rfl) rfl ?_
      obtain ⟨v10, e4, h⟩ := bnd h
      refine t_call0 rfl (Stream_Flip_c e4) (CoL.refl _) (.cons .here .nil) rfl rfl ?_
      refine ARun.nil ?_
      refine ATodo.cut (fun σ' => ∃ (l11 : List Int) (n12 : Int) (n13 : Int) (n14 : Int), Stream_Frame_j3 l11 n12 n13 n14 = some r ∧ σ' = ⟨39, [(0, .ptr b_0 0), (2, .ptr b1 0), (3, .ptr b4 0)], [(b_0, .cells [.list 1 (l11.map I), I n12]), (b1, .cells [I (0 : Int), I (0 : Int)]), (b4, .cells [I n13, I n14])]⟩) ?_ ?_
      · refine ATodo.cond rfl (fun hc => ?_) (fun hc => ?_)
        · replace h := iteT hc h
          refine ATodo.region ?_
          refine ARun.qv (q_move rfl) rfl ?_
          obtain ⟨v15, e5, h⟩ := bnd h
          refine t_call0 rfl (Stream_Odd_c e5) (CoL.refl _) (.cons .here .nil) rfl rfl ?_
          refine ARun.qv (q_move rfl) rfl ?_
          obtain ⟨v16, e6, h⟩ := bnd h
          refine t_call0 rfl (Stream_Odd_c e6) (CoL.refl _) (.cons .here .nil) rfl rfl ?_
          refine ARun.qv (n_build rfl rfl rfl rfl rfl) rfl ?_
          refine n_store_ptr rfl rfl rfl rfl (.next (.next .here)) rfl rfl ?_
          refine ARun.nil ?_
          refine ATodo.stop ?_
          exact ImpX.lessP (by exact ⟨rfl, rfl, rfl, True.intro⟩) (.cons .here (.cons .here (.cons .here .nil))) (ImpX.here ⟨v16.2.L, v16.2.at_, v15.1, v16.1, h, rfl⟩)
        · replace h := iteFb hc h
          refine ATodo.skip ?_
          refine ATodo.stop ?_
          exact ImpX.lessP (by exact ⟨rfl, rfl, rfl, True.intro⟩) (.cons .here (.cons .here (.cons .here .nil))) (ImpX.here ⟨v10.2.L, v10.2.at_, n9, v3.1, h, rfl⟩)
      · rintro σ' ⟨l11, n12, n13, n14, h, rfl⟩
        unfold Stream_Frame_j3 at h
        refine ATodo.seq ?_
        refine ATodo.seq ?_
        refine ATodo.region ?_
        refine ARun.qv (q_move rfl) rfl ?_
        obtain ⟨v17, e7, h⟩ := bnd h
        refine t_call0 rfl (Stream_Flip_c e7) (CoL.refl _) (.cons .here .nil) rfl rfl ?_
        refine ARun.nil ?_
        refine ATodo.cut (fun σ' => ∃ (l18 : List Int) (n19 : Int) (n20 : Int) (n21 : Int), Stream_Frame_j4 l18 n19 n20 n21 = some r ∧ σ' = ⟨39, [(2, .ptr b1 0), (3, .ptr b4 0)], [(b_0, .cells [.list 1 (l18.map I), I n19]), (b1, .cells [I (0 : Int), I (0 : Int)]), (b4, .cells [I n20, I n21])]⟩) ?_ ?_
        · refine ATodo.cond rfl (fun hc => ?_) (fun hc => ?_)
          · replace h := iteT hc h
            refine ATodo.region ?_
            refine ARun.qv (q_move rfl) rfl ?_
            refine n_buildSliceL (xs := ([(0 : Int), (5 : Int)]).map I) rfl rfl rfl rfl rfl rfl ?_
            obtain ⟨v22, e8, h⟩ := bnd h
            refine t_call0 rfl (Stream_Pick_c e8) (CoL.refl _) (.cons .here .nil) rfl rfl ?_
            refine ARun.qv (q_move rfl) rfl ?_
            refine n_buildSliceL (xs := ([(345686400000 : Int), (345686400001 : Int), (7776000000 : Int), (7862400000 : Int)]).map I) rfl rfl rfl rfl rfl rfl ?_
            obtain ⟨v23, e9, h⟩ := bnd h
            refine t_call0 rfl (Stream_Pick_c e9) (CoL.refl _) (.cons .here .nil) rfl rfl ?_
            refine ARun.qv (n_build rfl rfl rfl rfl rfl) rfl ?_
            refine n_store_ptr rfl rfl rfl rfl (.next (.next .here)) rfl rfl ?_
            refine ARun.nil ?_
            refine ATodo.stop ?_
            exact ImpX.lessP (by exact ⟨rfl, rfl, True.intro⟩) (.cons .here (.cons .here (.cons .here .nil))) (ImpX.here ⟨v23.2.L, v23.2.at_, v22.1, v23.1, h, rfl⟩)
          · replace h := iteFb hc h
            refine ATodo.skip ?_
            refine ATodo.stop ?_
            exact ImpX.lessP (by exact ⟨rfl, rfl, True.intro⟩) (.cons .here (.cons .here (.cons .here .nil))) (ImpX.here ⟨v17.2.L, v17.2.at_, n13, n14, h, rfl⟩)
        · rintro σ' ⟨l18, n19, n20, n21, h, rfl⟩
          unfold Stream_Frame_j4 at h
          refine ATodo.seq ?_
          refine ATodo.region ?_
          refine ARun.qv (q_load_ptr_all rfl rfl (.next (.next .here)) rfl) rfl ?_
          refine n_store_ptr rfl rfl rfl rfl (.next .here) rfl rfl ?_
          refine ARun.nil ?_
          refine ATodo.ret ?_
          obtain rfl := Option.some.inj h
          exact ImpX.here ⟨_, .cons (.all _ _ _ _ _ _ rfl (.next .here) TUnder.h TInfo.h rfl rfl) .nil, _, .cons .here .nil, ⟨rfl, rfl⟩⟩

set_option maxHeartbeats 4000000 in
theorem Stream_RightSeries_c {b_0 : Bk} {p0x0 : Fleetmake_Stream} {p1x0 : Int} {p2x0 : Int} {r : (List Sample) × Fleetmake_Stream} (h : Stream_RightSeries p0x0 p1x0 p2x0 = some r) : ACall Try.prog 136 [.ptr b_0 0, I p1x0, I p2x0] [(b_0, .cells [.list 1 (p0x0.L.map I), I p0x0.at_])] (T1 (fun d_0 => [(b_0, .cells [.list 1 (r.2.L.map I), I r.2.at_]), (d_0, .arr 4 (r.1.map Sample.av))]) (fun d_0 => .sl 4 d_0 0 r.1.length)) := by
  unfold Stream_RightSeries at h
  refine ACall.lessH ?_
  refine ACall.bodyN Try.func136 rfl Try.ntmps136 Try.results136 rfl rfl ?_
  refine ATodo.seq ?_
  refine ATodo.region ?_
  refine ARun.qv (q_assign rfl) rfl ?_
  refine ARun.nil ?_
  refine ATodo.seq ?_
  refine ATodo.region ?_
  refine ARun.qv (q_assign rfl) rfl ?_
  refine ARun.nil ?_
  refine ATodo.seq ?_
  refine ATodo.region ?_
  refine ARun.qv (q_assign rfl) rfl ?_
  refine ARun.nil ?_
  refine ATodo.seq ?_
  refine ATodo.seq ?_
  refine ATodo.region ?_
  refine ARun.qv (q_move rfl) rfl ?_
  refine ARun.qv (q_move rfl) rfl ?_
  obtain ⟨v1, e1, h⟩ := bnd h
  refine t_call0 rfl (Stream_Range_c e1) (CoL.refl _) (.cons .here .nil) rfl rfl ?_
  refine ARun.qv (q_move rfl) rfl ?_
  refine ARun.nil ?_
  refine ATodo.block ?_
  refine ATodo.loopI (fun x : (List Int) × Int × (List Sample) × Int × Int => Stream_RightSeries_b1 p2x0 v1 x.1 x.2.1 x.2.2.1 x.2.2.2.1 x.2.2.2.2) (fun x σ' => ∃ (b10 : Bk), σ' = ⟨31, [(0, .ptr b_0 0), (2, I p2x0), (7, .sl 4 b10 0 x.2.2.1.length), (8, I x.2.2.2.1), (11, I v1.1), (12, I x.2.2.2.2)], [(b_0, .cells [.list 1 (x.1.map I), I x.2.1]), (b10, .arr 4 (x.2.2.1.map Sample.av))]⟩) h ?_ ?_
  · refine ImpX.arr (s := 7) 4 rfl (fun b14 => ?_)
    exact ImpX.lessP (by exact ⟨rfl, rfl, rfl, rfl, rfl, rfl, True.intro⟩) (.cons (.next .here) (.cons .here .nil)) (ImpX.here ⟨b14, rfl⟩)
  · intro x z1 σ' J1 hmk h hJ1 hA1
    obtain ⟨l8, n9, l11, n12, n13⟩ := x
    obtain ⟨b10, rfl⟩ := hmk
    replace h : Stream_RightSeries_b1 p2x0 v1 l8 n9 l11 n12 n13 = some z1 := h
    unfold Stream_RightSeries_b1 at h
    refine ATodo.seq ?_
    refine ATodo.region ?_
    refine ARun.qv (q_lss rfl rfl) rfl ?_
    refine ARun.nil ?_
    refine ATodo.seq ?_
    refine ATodo.cond_d rfl (fun hc => ?_) (fun hc => ?_)
    · replace h := iteT hc h
      refine ATodo.skip ?_
      refine ATodo.seq ?_
      refine ATodo.block ?_
      refine ATodo.seq ?_
      refine ATodo.region ?_
      refine ARun.qv (q_move rfl) rfl ?_
      refine ARun.qv (q_move rfl) rfl ?_
      refine n_buildSliceL (xs := ([(1 : Int), (1 : Int), (2 : Int), (5 : Int), (10 : Int), (10 : Int), (40 : Int), (127 : Int), (1000 : Int)]).map I) rfl rfl rfl rfl rfl rfl ?_
      obtain ⟨v15, e2, h⟩ := bnd h
      refine t_call0 rfl (Stream_Pick_c e2) (CoL.refl _) (.cons .here .nil) rfl rfl ?_
      refine ARun.qv (q_addw rfl rfl) rfl ?_
      refine ARun.qv (q_assign rfl) rfl ?_
      refine ARun.nil ?_
      refine ATodo.region ?_
      refine ARun.qv (q_move rfl) rfl ?_
      refine ARun.qv (q_move rfl) rfl ?_
      refine ARun.qv (q_move rfl) rfl ?_
      refine ARun.qv (q_move rfl) rfl ?_
      refine n_buildSliceL (xs := ([(0 : Int), (1 : Int), (2 : Int), (5 : Int), (7 : Int), (9 : Int), (-3 : Int), (-70 : Int), (100 : Int), (1000 : Int), (5 : Int)]).map I) rfl rfl rfl rfl rfl rfl ?_
      obtain ⟨v16, e3, h⟩ := bnd h
      refine t_call0 rfl (Stream_Pick_c e3) (CoL.refl _) (.cons .here .nil) rfl rfl ?_
      refine ARun.qv (q_max rfl rfl) rfl ?_
      refine ARun.qv (n_build rfl rfl rfl rfl rfl) rfl ?_
      refine n_buildSliceL (xs := ([(⟨([100] : Str), ([109] : Str), w64 (n12 + v15.1), max p2x0 v16.1⟩ : Sample)]).map Sample.av) rfl rfl rfl rfl rfl rfl ?_
      obtain ⟨l17, e4, h⟩ := bnd h
      refine t_append (g := Sample.av) rfl rfl rfl rfl rfl rfl rfl rfl (.list _) e4 (fun _ => (.next .here)) rfl (fun b18 => ?_)
      refine ARun.qv (q_assign rfl) rfl ?_
      refine ARun.nil ?_
      refine ATodo.blk ?_
      refine ATodo.region ?_
      refine ARun.qv (q_addw rfl rfl) rfl ?_
      refine ARun.qv (q_move rfl) rfl ?_
      refine ARun.nil ?_
      refine ATodo.stop ?_
      obtain rfl := Option.some.inj h
      refine hJ1 _ _ rfl ?_
      exact ImpX.lessP (by exact ⟨rfl, rfl, rfl, rfl, rfl, rfl, True.intro⟩) (.cons .here (.cons .here .nil)) (ImpX.here ⟨b18, rfl⟩)
    · replace h := iteF hc h
      refine ATodo.exit rfl ?_
      replace h := outL h hA1
      refine ATodo.seq ?_
      refine ATodo.region ?_
      refine ARun.qv (q_move rfl) rfl ?_
      refine ARun.qv (q_assign rfl) rfl ?_
      refine ARun.nil ?_
      refine ATodo.ret ?_
      obtain rfl := Option.some.inj h
      exact ImpX.here ⟨_, .cons (.tmp _ _ rfl) .nil, _, .cons .here (.cons .here .nil), ⟨b10, rfl, rfl⟩⟩

set_option maxHeartbeats 4000000 in
theorem Stream_Series_c {b_0 : Bk} {p0x0 : Fleetmake_Stream} {p1x0 : Int} {r : (List Sample) × Fleetmake_Stream} (h : Stream_Series p0x0 p1x0 = some r) : ACall Try.prog 54 [.ptr b_0 0, I p1x0] [(b_0, .cells [.list 1 (p0x0.L.map I), I p0x0.at_])] (T1 (fun d_0 => [(b_0, .cells [.list 1 (r.2.L.map I), I r.2.at_]), (d_0, .arr 4 (r.1.map Sample.av))]) (fun d_0 => .sl 4 d_0 0 r.1.length)) := by
  unfold Stream_Series at h
  refine ACall.lessH ?_
  refine ACall.bodyN Try.func54 rfl Try.ntmps54 Try.results54 rfl rfl ?_
  refine ATodo.seq ?_
  refine ATodo.region ?_
  refine ARun.qv (q_assign rfl) rfl ?_
  refine ARun.nil ?_
  refine ATodo.seq ?_
  refine ATodo.region ?_
  refine ARun.qv (q_move rfl) rfl ?_
  refine ARun.qv (q_move rfl) rfl ?_
  refine ARun.qv (q_move rfl) rfl ?_
  refine n_buildSliceL (xs := ([(0 : Int), (-100 : Int)]).map I) rfl rfl rfl rfl rfl rfl ?_
  obtain ⟨v1, e1, h⟩ := bnd h
  refine t_call0 rfl (Stream_Pick_c e1) (CoL.refl _) (.cons .here .nil) rfl rfl ?_
  obtain ⟨v2, e2, h⟩ := bnd h
  refine t_call1 rfl (Stream_RightSeries_c e2) (CoL.refl _) (.cons .here .nil) (fun _ => rfl) rfl (fun b3 => ?_)
  refine ARun.qv (q_assign rfl) rfl ?_
  refine ARun.nil ?_
  refine ATodo.seq ?_
  refine ATodo.seq ?_
  refine ATodo.cut (fun σ' => ∃ (l4 : List Int) (n5 : Int) (c6 : Bool), Stream_Series_j1 v2 l4 n5 c6 = some r ∧ σ' = ⟨82, [(0, .ptr b_0 0), (5, .sl 4 b3 0 v2.1.length), (20, .bool c6)], [(b_0, .cells [.list 1 (l4.map I), I n5]), (b3, .arr 4 (v2.1.map Sample.av))]⟩) ?_ ?_
  · refine ATodo.region ?_
    refine ARun.qv (q_move rfl) rfl ?_
    refine ARun.qv (t_len_sl rfl) rfl ?_
    refine ARun.qv (q_gtr rfl rfl) rfl ?_
    refine ARun.qv (q_move rfl) rfl ?_
    refine ARun.guard_dt rfl rfl rfl (fun hc => ?_) (fun hc => ?_)
    · replace h := iteT hc h
      refine ARun.qv (q_move rfl) rfl ?_
      refine ARun.guard_yes rfl rfl rfl ?_
      obtain ⟨v7, e3, h⟩ := bnd h
      refine t_call0 rfl (Stream_Flip_c e3) (CoL.refl _) (.cons .here .nil) rfl rfl ?_
      refine ARun.qv (q_pick_t rfl rfl) rfl ?_
      refine ARun.nil ?_
      refine ATodo.stop ?_
      exact ImpX.lessP (by exact ⟨rfl, rfl, rfl, True.intro⟩) (.cons .here (.cons .here .nil)) (ImpX.here ⟨v7.2.L, v7.2.at_, v7.1, h, rfl⟩)
    · replace h := iteF hc h
      refine ARun.guard_no rfl rfl rfl rfl ?_
      refine ARun.qv (q_pick_f rfl rfl) rfl ?_
      refine ARun.nil ?_
      refine ATodo.stop ?_
      exact ImpX.lessP (by exact ⟨rfl, rfl, rfl, True.intro⟩) (.cons .here (.cons .here .nil)) (ImpX.here ⟨v2.2.L, v2.2.at_, false, h, rfl⟩)
  · rintro σ' ⟨l4, n5, c6, h, rfl⟩
    unfold Stream_Series_j1 at h
    refine ATodo.cut (fun σ' => ∃ (l8 : List Int) (n9 : Int) (l10 : List Sample), Stream_Series_j2 l8 n9 l10 = some r ∧ σ' = ⟨82, [(0, .ptr b_0 0), (5, .sl 4 b3 0 l10.length)], [(b_0, .cells [.list 1 (l8.map I), I n9]), (b3, .arr 4 (l10.map Sample.av))]⟩) ?_ ?_
    · refine ATodo.cond rfl (fun hc => ?_) (fun hc => ?_)
      · replace h := iteT hc h
        refine ATodo.seq ?_
        refine ATodo.region ?_
        refine ARun.qv (q_move rfl) rfl ?_
        refine ARun.qv (q_move rfl) rfl ?_
        refine ARun.qv (q_move rfl) rfl ?_
        refine ARun.qv (t_len_sl rfl) rfl ?_
        obtain ⟨v11, e4, h⟩ := bnd h
        refine t_call0 rfl (Stream_Next_c e4) (CoL.refl _) (.cons .here .nil) rfl rfl ?_
        obtain ⟨v12, e5, h⟩ := bnd h
        refine ARun.qv (t_index_sl rfl rfl rfl e5) rfl ?_
        refine ARun.qv (q_assign rfl) rfl ?_
        refine ARun.nil ?_
        refine ATodo.seq ?_
        refine ATodo.region ?_
        refine ARun.qv (q_move rfl) rfl ?_
        obtain ⟨v13, e6, h⟩ := bnd h
        refine t_call0 rfl (Stream_Next_c e6) (CoL.refl _) (.cons .here .nil) rfl rfl ?_
        refine ARun.nil ?_
        refine ATodo.block ?_
        refine ATodo.seq ?_
        refine ATodo.region ?_
        refine ARun.qv (q_eql rfl rfl) rfl ?_
        refine ARun.qv (q_assign rfl) rfl ?_
        refine ARun.nil ?_
        refine ATodo.cut (fun σ' => ∃ (l14 : List Int) (n15 : Int) (l16 : List Sample), Stream_Series_j3 l14 n15 l16 = some r ∧ σ' = ⟨82, [(0, .ptr b_0 0), (5, .sl 4 b3 0 l16.length)], [(b_0, .cells [.list 1 (l14.map I), I n15]), (b3, .arr 4 (l16.map Sample.av))]⟩) ?_ ?_
        · refine ATodo.cond_d rfl (fun hc => ?_) (fun hc => ?_)
          · replace h := iteT hc h
            refine ATodo.region ?_
            refine ARun.qv (q_move rfl) rfl ?_
            refine ARun.qv (q_move rfl) rfl ?_
            refine n_buildSliceL (xs := ([([] : Str), ([101] : Str), ([65] : Str)]).map AV.str) rfl rfl rfl rfl rfl rfl ?_
            obtain ⟨v17, e7, h⟩ := bnd h
            refine t_call0 rfl (Stream_Some_c e7) (CoL.refl _) (.cons .here .nil) rfl rfl ?_
            refine ARun.qv (q_nilCheck_aptr rfl) rfl ?_
            refine ARun.qv (t_field_aptr rfl rfl) rfl ?_
            refine t_store_aptr1 (g := Sample.av) (el' := (⟨v17.1, v12.Metric, v12.At, v12.Value⟩ : Sample)) rfl rfl rfl rfl e5 rfl (.next .here) rfl ?_
            refine ARun.ghost (ImpX.eqs (s := 5) (av' := .sl 4 b3 0 (v2.1.set v11.1.toNat (⟨v17.1, v12.Metric, v12.At, v12.Value⟩ : Sample)).length) rfl (by rw [List.length_set]) (ImpX.here ?_))
            refine ARun.ghost (ImpX.eqs (s := 21) (av' := .sl 4 b3 0 (v2.1.set v11.1.toNat (⟨v17.1, v12.Metric, v12.At, v12.Value⟩ : Sample)).length) rfl (by rw [List.length_set]) (ImpX.here ?_))
            refine ARun.ghost (ImpX.eqs (s := 23) (av' := .sl 4 b3 0 (v2.1.set v11.1.toNat (⟨v17.1, v12.Metric, v12.At, v12.Value⟩ : Sample)).length) rfl (by rw [List.length_set]) (ImpX.here ?_))
            refine ARun.nil ?_
            refine ATodo.stop ?_
            exact ImpX.lessP (by exact ⟨rfl, rfl, True.intro⟩) (.cons .here (.cons .here .nil)) (ImpX.here ⟨v17.2.L, v17.2.at_, v2.1.set v11.1.toNat (⟨v17.1, v12.Metric, v12.At, v12.Value⟩ : Sample), h, rfl⟩)
          · replace h := iteF hc h
            refine ATodo.seq ?_
            refine ATodo.region ?_
            refine ARun.qv (q_eql rfl rfl) rfl ?_
            refine ARun.qv (q_assign rfl) rfl ?_
            refine ARun.nil ?_
            refine ATodo.cut (fun σ' => ∃ (l18 : List Int) (n19 : Int) (l20 : List Sample), Stream_Series_j4 l18 n19 l20 = some r ∧ σ' = ⟨82, [(0, .ptr b_0 0), (5, .sl 4 b3 0 l20.length)], [(b_0, .cells [.list 1 (l18.map I), I n19]), (b3, .arr 4 (l20.map Sample.av))]⟩) ?_ ?_
            · refine ATodo.cond_d rfl (fun hc => ?_) (fun hc => ?_)
              · replace h := iteT hc h
                refine ATodo.region ?_
                refine ARun.qv (q_move rfl) rfl ?_
                refine ARun.qv (q_move rfl) rfl ?_
                refine n_buildSliceL (xs := ([([] : Str), ([110] : Str)]).map AV.str) rfl rfl rfl rfl rfl rfl ?_
                obtain ⟨v21, e8, h⟩ := bnd h
                refine t_call0 rfl (Stream_Some_c e8) (CoL.refl _) (.cons .here .nil) rfl rfl ?_
                refine ARun.qv (q_nilCheck_aptr rfl) rfl ?_
                refine ARun.qv (t_field_aptr rfl rfl) rfl ?_
                refine t_store_aptr1 (g := Sample.av) (el' := (⟨v12.Device, v21.1, v12.At, v12.Value⟩ : Sample)) rfl rfl rfl rfl e5 rfl (.next .here) rfl ?_
                refine ARun.ghost (ImpX.eqs (s := 5) (av' := .sl 4 b3 0 (v2.1.set v11.1.toNat (⟨v12.Device, v21.1, v12.At, v12.Value⟩ : Sample)).length) rfl (by rw [List.length_set]) (ImpX.here ?_))
                refine ARun.ghost (ImpX.eqs (s := 21) (av' := .sl 4 b3 0 (v2.1.set v11.1.toNat (⟨v12.Device, v21.1, v12.At, v12.Value⟩ : Sample)).length) rfl (by rw [List.length_set]) (ImpX.here ?_))
                refine ARun.ghost (ImpX.eqs (s := 23) (av' := .sl 4 b3 0 (v2.1.set v11.1.toNat (⟨v12.Device, v21.1, v12.At, v12.Value⟩ : Sample)).length) rfl (by rw [List.length_set]) (ImpX.here ?_))
                refine ARun.nil ?_
                refine ATodo.stop ?_
                exact ImpX.lessP (by exact ⟨rfl, rfl, True.intro⟩) (.cons .here (.cons .here .nil)) (ImpX.here ⟨v21.2.L, v21.2.at_, v2.1.set v11.1.toNat (⟨v12.Device, v21.1, v12.At, v12.Value⟩ : Sample), h, rfl⟩)
              · replace h := iteF hc h
                refine ATodo.seq ?_
                refine ATodo.region ?_
                refine ARun.qv (q_eql rfl rfl) rfl ?_
                refine ARun.qv (q_assign rfl) rfl ?_
                refine ARun.nil ?_
                refine ATodo.cut (fun σ' => ∃ (l22 : List Int) (n23 : Int) (l24 : List Sample), Stream_Series_j5 l22 n23 l24 = some r ∧ σ' = ⟨82, [(0, .ptr b_0 0), (5, .sl 4 b3 0 l24.length)], [(b_0, .cells [.list 1 (l22.map I), I n23]), (b3, .arr 4 (l24.map Sample.av))]⟩) ?_ ?_
                · refine ATodo.cond_d rfl (fun hc => ?_) (fun hc => ?_)
                  · replace h := iteT hc h
                    refine ATodo.region ?_
                    refine ARun.qv (q_move rfl) rfl ?_
                    refine ARun.qv (q_move rfl) rfl ?_
                    obtain ⟨v25, e9, h⟩ := bnd h
                    refine t_call0 rfl (Stream_Odd_c e9) (CoL.refl _) (.cons .here .nil) rfl rfl ?_
                    refine ARun.qv (q_nilCheck_aptr rfl) rfl ?_
                    refine ARun.qv (t_field_aptr rfl rfl) rfl ?_
                    refine t_store_aptr1 (g := Sample.av) (el' := (⟨v12.Device, v12.Metric, v25.1, v12.Value⟩ : Sample)) rfl rfl rfl rfl e5 rfl (.next .here) rfl ?_
                    refine ARun.ghost (ImpX.eqs (s := 5) (av' := .sl 4 b3 0 (v2.1.set v11.1.toNat (⟨v12.Device, v12.Metric, v25.1, v12.Value⟩ : Sample)).length) rfl (by rw [List.length_set]) (ImpX.here ?_))
                    refine ARun.ghost (ImpX.eqs (s := 21) (av' := .sl 4 b3 0 (v2.1.set v11.1.toNat (⟨v12.Device, v12.Metric, v25.1, v12.Value⟩ : Sample)).length) rfl (by rw [List.length_set]) (ImpX.here ?_))
                    refine ARun.ghost (ImpX.eqs (s := 23) (av' := .sl 4 b3 0 (v2.1.set v11.1.toNat (⟨v12.Device, v12.Metric, v25.1, v12.Value⟩ : Sample)).length) rfl (by rw [List.length_set]) (ImpX.here ?_))
                    refine ARun.nil ?_
                    refine ATodo.stop ?_
                    exact ImpX.lessP (by exact ⟨rfl, rfl, True.intro⟩) (.cons .here (.cons .here .nil)) (ImpX.here ⟨v25.2.L, v25.2.at_, v2.1.set v11.1.toNat (⟨v12.Device, v12.Metric, v25.1, v12.Value⟩ : Sample), h, rfl⟩)
                  · replace h := iteF hc h
                    refine ATodo.region ?_
                    refine ARun.qv (q_move rfl) rfl ?_
                    refine ARun.qv (q_move rfl) rfl ?_
                    obtain ⟨v26, e10, h⟩ := bnd h
                    refine t_call0 rfl (Stream_Odd_c e10) (CoL.refl _) (.cons .here .nil) rfl rfl ?_
                    refine ARun.qv (q_nilCheck_aptr rfl) rfl ?_
                    refine ARun.qv (t_field_aptr rfl rfl) rfl ?_
                    refine t_store_aptr1 (g := Sample.av) (el' := (⟨v12.Device, v12.Metric, v12.At, v26.1⟩ : Sample)) rfl rfl rfl rfl e5 rfl (.next .here) rfl ?_
                    refine ARun.ghost (ImpX.eqs (s := 5) (av' := .sl 4 b3 0 (v2.1.set v11.1.toNat (⟨v12.Device, v12.Metric, v12.At, v26.1⟩ : Sample)).length) rfl (by rw [List.length_set]) (ImpX.here ?_))
                    refine ARun.ghost (ImpX.eqs (s := 21) (av' := .sl 4 b3 0 (v2.1.set v11.1.toNat (⟨v12.Device, v12.Metric, v12.At, v26.1⟩ : Sample)).length) rfl (by rw [List.length_set]) (ImpX.here ?_))
                    refine ARun.ghost (ImpX.eqs (s := 23) (av' := .sl 4 b3 0 (v2.1.set v11.1.toNat (⟨v12.Device, v12.Metric, v12.At, v26.1⟩ : Sample)).length) rfl (by rw [List.length_set]) (ImpX.here ?_))
                    refine ARun.nil ?_
                    refine ATodo.stop ?_
                    exact ImpX.lessP (by exact ⟨rfl, rfl, True.intro⟩) (.cons .here (.cons .here .nil)) (ImpX.here ⟨v26.2.L, v26.2.at_, v2.1.set v11.1.toNat (⟨v12.Device, v12.Metric, v12.At, v26.1⟩ : Sample), h, rfl⟩)
                · rintro σ' ⟨l22, n23, l24, h, rfl⟩
                  unfold Stream_Series_j5 at h
                  refine ATodo.stop ?_
                  exact ImpX.lessP (by exact ⟨rfl, rfl, True.intro⟩) (.cons .here (.cons .here .nil)) (ImpX.here ⟨l22, n23, l24, h, rfl⟩)
            · rintro σ' ⟨l18, n19, l20, h, rfl⟩
              unfold Stream_Series_j4 at h
              refine ATodo.stop ?_
              exact ImpX.lessP (by exact ⟨rfl, rfl, True.intro⟩) (.cons .here (.cons .here .nil)) (ImpX.here ⟨l18, n19, l20, h, rfl⟩)
        · rintro σ' ⟨l14, n15, l16, h, rfl⟩
          unfold Stream_Series_j3 at h
          refine ATodo.blk ?_
          refine ATodo.stop ?_
          exact ImpX.lessP (by exact ⟨rfl, rfl, True.intro⟩) (.cons .here (.cons .here .nil)) (ImpX.here ⟨l14, n15, l16, h, rfl⟩)
      · replace h := iteFb hc h
        refine ATodo.skip ?_
        refine ATodo.stop ?_
        exact ImpX.lessP (by exact ⟨rfl, rfl, True.intro⟩) (.cons .here (.cons .here .nil)) (ImpX.here ⟨l4, n5, v2.1, h, rfl⟩)
    · rintro σ' ⟨l8, n9, l10, h, rfl⟩
      unfold Stream_Series_j2 at h
      refine ATodo.seq ?_
      refine ATodo.seq ?_
      refine ATodo.cut (fun σ' => ∃ (l27 : List Int) (n28 : Int) (c29 : Bool), Stream_Series_j6 l10 l27 n28 c29 = some r ∧ σ' = ⟨82, [(0, .ptr b_0 0), (5, .sl 4 b3 0 l10.length), (63, .bool c29)], [(b_0, .cells [.list 1 (l27.map I), I n28]), (b3, .arr 4 (l10.map Sample.av))]⟩) ?_ ?_
      · refine ATodo.region ?_
        refine ARun.qv (q_move rfl) rfl ?_
        refine ARun.qv (t_len_sl rfl) rfl ?_
        refine ARun.qv (q_gtr rfl rfl) rfl ?_
        refine ARun.qv (q_move rfl) rfl ?_
        refine ARun.guard_dt rfl rfl rfl (fun hc => ?_) (fun hc => ?_)
        · replace h := iteT hc h
          refine ARun.qv (q_move rfl) rfl ?_
          refine ARun.guard_yes rfl rfl rfl ?_
          obtain ⟨v30, e11, h⟩ := bnd h
          refine t_call0 rfl (Stream_Flip_c e11) (CoL.refl _) (.cons .here .nil) rfl rfl ?_
          refine ARun.qv (q_pick_t rfl rfl) rfl ?_
          refine ARun.nil ?_
          refine ATodo.stop ?_
          exact ImpX.lessP (by exact ⟨rfl, rfl, rfl, True.intro⟩) (.cons .here (.cons .here .nil)) (ImpX.here ⟨v30.2.L, v30.2.at_, v30.1, h, rfl⟩)
        · replace h := iteF hc h
          refine ARun.guard_no rfl rfl rfl rfl ?_
          refine ARun.qv (q_pick_f rfl rfl) rfl ?_
          refine ARun.nil ?_
          refine ATodo.stop ?_
          exact ImpX.lessP (by exact ⟨rfl, rfl, rfl, True.intro⟩) (.cons .here (.cons .here .nil)) (ImpX.here ⟨l8, n9, false, h, rfl⟩)
      · rintro σ' ⟨l27, n28, c29, h, rfl⟩
        unfold Stream_Series_j6 at h
        refine ATodo.cut (fun σ' => ∃ (l31 : List Int) (n32 : Int) (l33 : List Sample), Stream_Series_j7 l31 n32 l33 = some r ∧ σ' = ⟨82, [(5, .sl 4 b3 0 l33.length)], [(b_0, .cells [.list 1 (l31.map I), I n32]), (b3, .arr 4 (l33.map Sample.av))]⟩) ?_ ?_
        · refine ATodo.cond rfl (fun hc => ?_) (fun hc => ?_)
          · replace h := iteT hc h
            refine ATodo.seq ?_
            refine ATodo.region ?_
            refine ARun.qv (q_move rfl) rfl ?_
            refine ARun.qv (q_move rfl) rfl ?_
            refine ARun.qv (t_len_sl rfl) rfl ?_
            refine ARun.qv (q_subw rfl rfl) rfl ?_
            obtain ⟨v34, e12, h⟩ := bnd h
            refine ARun.qv (t_index_sl rfl rfl rfl e12) rfl ?_
            refine ARun.qv (q_assign rfl) rfl ?_
            refine ARun.nil ?_
            refine ATodo.region ?_
            refine ARun.qv (q_move rfl) rfl ?_
            refine ARun.qv (q_move rfl) rfl ?_
            refine ARun.qv (q_move rfl) rfl ?_
            refine n_buildSliceL (xs := ([(345686399999 : Int), (3456000000 : Int), (950400000 : Int)]).map I) rfl rfl rfl rfl rfl rfl ?_
            obtain ⟨v35, e13, h⟩ := bnd h
            refine t_call0 rfl (Stream_Pick_c e13) (CoL.refl _) (.cons .here .nil) rfl rfl ?_
            refine ARun.qv (q_move rfl) rfl ?_
            refine n_buildSliceL (xs := ([(1000000000 : Int), (-1000000000 : Int)]).map I) rfl rfl rfl rfl rfl rfl ?_
            obtain ⟨v36, e14, h⟩ := bnd h
            refine t_call0 rfl (Stream_Pick_c e14) (CoL.refl _) (.cons .here .nil) rfl rfl ?_
            refine ARun.qv (q_nilCheck_aptr rfl) rfl ?_
            refine ARun.qv (t_field_aptr rfl rfl) rfl ?_
            refine t_store_aptr1 (g := Sample.av) (el' := (⟨v34.Device, v34.Metric, v35.1, v34.Value⟩ : Sample)) rfl rfl rfl rfl e12 rfl (.next .here) rfl ?_
            refine ARun.ghost (ImpX.eqs (s := 5) (av' := .sl 4 b3 0 (l10.set (w64 ((l10.length : Int) - (1 : Int))).toNat (⟨v34.Device, v34.Metric, v35.1, v34.Value⟩ : Sample)).length) rfl (by rw [List.length_set]) (ImpX.here ?_))
            refine ARun.ghost (ImpX.eqs (s := 64) (av' := .sl 4 b3 0 (l10.set (w64 ((l10.length : Int) - (1 : Int))).toNat (⟨v34.Device, v34.Metric, v35.1, v34.Value⟩ : Sample)).length) rfl (by rw [List.length_set]) (ImpX.here ?_))
            refine ARun.ghost (ImpX.eqs (s := 65) (av' := .sl 4 b3 0 (l10.set (w64 ((l10.length : Int) - (1 : Int))).toNat (⟨v34.Device, v34.Metric, v35.1, v34.Value⟩ : Sample)).length) rfl (by rw [List.length_set]) (ImpX.here ?_))
            refine ARun.qv (q_nilCheck_aptr rfl) rfl ?_
            refine ARun.qv (t_field_aptr rfl rfl) rfl ?_
            refine t_store_aptr1 (g := Sample.av) (el' := (⟨v34.Device, v34.Metric, v35.1, v36.1⟩ : Sample)) rfl rfl rfl rfl (idx_set_self (v := (⟨v34.Device, v34.Metric, v35.1, v34.Value⟩ : Sample)) e12) rfl (.next .here) rfl ?_
            refine ARun.ghost (ImpX.eqs (s := 5) (av' := .sl 4 b3 0 ((l10.set (w64 ((l10.length : Int) - (1 : Int))).toNat (⟨v34.Device, v34.Metric, v35.1, v34.Value⟩ : Sample)).set (w64 ((l10.length : Int) - (1 : Int))).toNat (⟨v34.Device, v34.Metric, v35.1, v36.1⟩ : Sample)).length) rfl (by rw [List.length_set]) (ImpX.here ?_))
            refine ARun.ghost (ImpX.eqs (s := 64) (av' := .sl 4 b3 0 ((l10.set (w64 ((l10.length : Int) - (1 : Int))).toNat (⟨v34.Device, v34.Metric, v35.1, v34.Value⟩ : Sample)).set (w64 ((l10.length : Int) - (1 : Int))).toNat (⟨v34.Device, v34.Metric, v35.1, v36.1⟩ : Sample)).length) rfl (by rw [List.length_set]) (ImpX.here ?_))
            refine ARun.ghost (ImpX.eqs (s := 65) (av' := .sl 4 b3 0 ((l10.set (w64 ((l10.length : Int) - (1 : Int))).toNat (⟨v34.Device, v34.Metric, v35.1, v34.Value⟩ : Sample)).set (w64 ((l10.length : Int) - (1 : Int))).toNat (⟨v34.Device, v34.Metric, v35.1, v36.1⟩ : Sample)).length) rfl (by rw [List.length_set]) (ImpX.here ?_))
            refine ARun.nil ?_
            refine ATodo.stop ?_
            exact ImpX.lessP (by exact ⟨rfl, True.intro⟩) (.cons .here (.cons .here .nil)) (ImpX.here ⟨v36.2.L, v36.2.at_, (l10.set (w64 ((l10.length : Int) - (1 : Int))).toNat (⟨v34.Device, v34.Metric, v35.1, v34.Value⟩ : Sample)).set (w64 ((l10.length : Int) - (1 : Int))).toNat (⟨v34.Device, v34.Metric, v35.1, v36.1⟩ : Sample), h, rfl⟩)
          · replace h := iteFb hc h
            refine ATodo.skip ?_
            refine ATodo.stop ?_
            exact ImpX.lessP (by exact ⟨rfl, True.intro⟩) (.cons .here (.cons .here .nil)) (ImpX.here ⟨l27, n28, l10, h, rfl⟩)
        · rintro σ' ⟨l31, n32, l33, h, rfl⟩
          unfold Stream_Series_j7 at h
          refine ATodo.seq ?_
          refine ATodo.region ?_
          refine ARun.qv (q_move rfl) rfl ?_
          refine ARun.qv (q_assign rfl) rfl ?_
          refine ARun.nil ?_
          refine ATodo.ret ?_
          obtain rfl := Option.some.inj h
          exact ImpX.here ⟨_, .cons (.tmp _ _ rfl) .nil, _, .cons .here (.cons .here .nil), ⟨b3, rfl, rfl⟩⟩

set_option maxHeartbeats 4000000 in
theorem base_Key_c {p0x0 : Str} {r : Bool} (h : base_Key p0x0 = some r) : Pu Try.prog 126 [.str p0x0] (.bool r) := by
  unfold base_Key at h
  refine ACall.bodyN Try.func126 rfl Try.ntmps126 Try.results126 rfl rfl ?_
  refine ATodo.seq ?_
  refine ATodo.region ?_
  refine ARun.qv (q_assign rfl) rfl ?_
  refine ARun.nil ?_
  refine ATodo.seq ?_
  refine ATodo.seq ?_
  refine ATodo.cut (fun σ' => ∃ (c1 : Bool), base_Key_j1 p0x0 c1 = some r ∧ σ' = ⟨54, [(0, .str p0x0), (21, .bool c1)], []⟩) ?_ ?_
  · refine ATodo.region ?_
    refine ARun.qv (q_move rfl) rfl ?_
    refine ARun.qv (q_seq rfl rfl) rfl ?_
    refine ARun.qv (q_move rfl) rfl ?_
    refine ARun.guard_df rfl rfl rfl (fun hc => ?_) (fun hc => ?_)
    · replace h := iteF hc h
      refine ARun.qv (q_move rfl) rfl ?_
      refine ARun.guard_yes rfl rfl rfl ?_
      refine ARun.qv (q_len_str rfl) rfl ?_
      refine ARun.guard_yes rfl rfl rfl ?_
      refine ARun.qv (q_gtr rfl rfl) rfl ?_
      refine ARun.qv (q_pick_f rfl rfl) rfl ?_
      refine ARun.qv (q_move rfl) rfl ?_
      refine ARun.guard_df rfl rfl rfl (fun hc => ?_) (fun hc => ?_)
      · replace h := iteF hc h
        refine ARun.qv (q_move rfl) rfl ?_
        refine ARun.guard_yes rfl rfl rfl ?_
        obtain ⟨c2, e1, h⟩ := bnd h
        refine ARun.qv (t_index_str rfl rfl e1) rfl ?_
        refine ARun.guard_yes rfl rfl rfl ?_
        refine ARun.qv (q_lss rfl rfl) rfl ?_
        refine ARun.qv (q_pick_f rfl rfl) rfl ?_
        refine ARun.qv (q_move rfl) rfl ?_
        refine ARun.guard_df rfl rfl rfl (fun hc => ?_) (fun hc => ?_)
        · replace h := iteF hc h
          refine ARun.qv (q_move rfl) rfl ?_
          refine ARun.guard_yes rfl rfl rfl ?_
          obtain ⟨c3, e2, h⟩ := bnd h
          refine ARun.qv (t_index_str rfl rfl e2) rfl ?_
          refine ARun.guard_yes rfl rfl rfl ?_
          refine ARun.qv (q_gtr rfl rfl) rfl ?_
          refine ARun.qv (q_pick_f rfl rfl) rfl ?_
          refine ARun.nil ?_
          refine ATodo.stop ?_
          exact ImpX.lessP (by exact ⟨rfl, rfl, True.intro⟩) (.nil) (ImpX.here ⟨decide ((122 : Int) < (c3.toNat : Int)), h, rfl⟩)
        · replace h := iteT hc h
          refine ARun.guard_no rfl rfl rfl rfl ?_
          refine ARun.guard_no rfl rfl rfl rfl ?_
          refine ARun.qv (q_pick_t rfl rfl) rfl ?_
          refine ARun.nil ?_
          refine ATodo.stop ?_
          exact ImpX.lessP (by exact ⟨rfl, rfl, True.intro⟩) (.nil) (ImpX.here ⟨true, h, rfl⟩)
      · replace h := iteT hc h
        refine ARun.guard_no rfl rfl rfl rfl ?_
        refine ARun.guard_no rfl rfl rfl rfl ?_
        refine ARun.qv (q_pick_t rfl rfl) rfl ?_
        refine ARun.qv (q_move rfl) rfl ?_
        refine ARun.guard_no rfl rfl rfl rfl ?_
        refine ARun.guard_no rfl rfl rfl rfl ?_
        refine ARun.guard_no rfl rfl rfl rfl ?_
        refine ARun.qv (q_pick_t rfl rfl) rfl ?_
        refine ARun.nil ?_
        refine ATodo.stop ?_
        exact ImpX.lessP (by exact ⟨rfl, rfl, True.intro⟩) (.nil) (ImpX.here ⟨true, h, rfl⟩)
    · replace h := iteT hc h
      refine ARun.guard_no rfl rfl rfl rfl ?_
      refine ARun.guard_no rfl rfl rfl rfl ?_
      refine ARun.qv (q_pick_t rfl rfl) rfl ?_
      refine ARun.qv (q_move rfl) rfl ?_
      refine ARun.guard_no rfl rfl rfl rfl ?_
      refine ARun.guard_no rfl rfl rfl rfl ?_
      refine ARun.guard_no rfl rfl rfl rfl ?_
      refine ARun.qv (q_pick_t rfl rfl) rfl ?_
      refine ARun.qv (q_move rfl) rfl ?_
      refine ARun.guard_no rfl rfl rfl rfl ?_
      refine ARun.guard_no rfl rfl rfl rfl ?_
      refine ARun.guard_no rfl rfl rfl rfl ?_
      refine ARun.qv (q_pick_t rfl rfl) rfl ?_
      refine ARun.nil ?_
      refine ATodo.stop ?_
      exact ImpX.lessP (by exact ⟨rfl, rfl, True.intro⟩) (.nil) (ImpX.here ⟨true, h, rfl⟩)
  · rintro σ' ⟨c1, h, rfl⟩
    unfold base_Key_j1 at h
    refine ATodo.cond rfl (fun hc => ?_) (fun hc => ?_)
    · replace h := iteT hc h
      refine ATodo.seq ?_
      refine ATodo.region ?_
      refine ARun.qv (q_assign rfl) rfl ?_
      refine ARun.nil ?_
      refine ATodo.ret ?_
      obtain rfl := Option.some.inj h
      exact ImpX.here ⟨_, .cons (.tmp _ _ rfl) .nil, rfl⟩
    · replace h := iteFb hc h
      refine ATodo.skip ?_
      refine ATodo.seq ?_
      refine ATodo.seq ?_
      refine ATodo.region ?_
      refine ARun.qv (q_move rfl) rfl ?_
      refine ARun.qv (q_len_str rfl) rfl ?_
      refine ARun.qv (q_move rfl) rfl ?_
      refine ARun.nil ?_
      refine ATodo.block ?_
      refine ATodo.loopI (fun x : Int => base_Key_b1 p0x0 x) (fun x σ' => σ' = ⟨54, [(0, .str p0x0), (23, I (p0x0.length : Int)), (24, I x)], []⟩) h ?_ ?_
      · exact ImpX.lessP (by exact ⟨rfl, rfl, rfl, True.intro⟩) (.nil) (ImpX.here rfl)
      · intro n5 z1 σ' J1 hmk h hJ1 hA1
        obtain rfl := hmk
        replace h : base_Key_b1 p0x0 n5 = some z1 := h
        unfold base_Key_b1 at h
        refine ATodo.seq ?_
        refine ATodo.region ?_
        refine ARun.qv (q_lss rfl rfl) rfl ?_
        refine ARun.nil ?_
        refine ATodo.seq ?_
        refine ATodo.cond_d rfl (fun hc => ?_) (fun hc => ?_)
        · replace h := iteT hc h
          refine ATodo.skip ?_
          refine ATodo.seq ?_
          refine ATodo.block ?_
          refine ATodo.seq ?_
          refine ATodo.region ?_
          refine ARun.qv (q_move rfl) rfl ?_
          refine ARun.qv (q_assign rfl) rfl ?_
          refine ARun.nil ?_
          refine ATodo.seq ?_
          refine ATodo.region ?_
          refine ARun.qv (q_move rfl) rfl ?_
          refine ARun.qv (q_move rfl) rfl ?_
          obtain ⟨c6, e3, h⟩ := bnd h
          refine ARun.qv (t_index_str rfl rfl e3) rfl ?_
          refine ARun.qv (q_assign rfl) rfl ?_
          refine ARun.nil ?_
          refine ATodo.seq ?_
          refine ATodo.cut (fun σ' => ∃ (c7 : Bool), base_Key_j2 n5 c7 = some z1 ∧ σ' = ⟨54, [(0, .str p0x0), (23, I (p0x0.length : Int)), (24, I n5), (52, .bool c7)], []⟩) ?_ ?_
          · refine ATodo.region ?_
            refine ARun.qv (q_move rfl) rfl ?_
            refine ARun.qv (q_geq rfl rfl) rfl ?_
            refine ARun.qv (q_move rfl) rfl ?_
            refine ARun.guard_dt rfl rfl rfl (fun hc => ?_) (fun hc => ?_)
            · rw [if_pos hc] at h
              refine ARun.qv (q_move rfl) rfl ?_
              refine ARun.guard_yes rfl rfl rfl ?_
              refine ARun.qv (q_leq rfl rfl) rfl ?_
              refine ARun.qv (q_pick_t rfl rfl) rfl ?_
              refine ARun.qv (q_move rfl) rfl ?_
              refine ARun.guard_df rfl rfl rfl (fun hc => ?_) (fun hc => ?_)
              · rw [if_neg hc] at h
                refine ARun.qv (q_move rfl) rfl ?_
                refine ARun.guard_yes rfl rfl rfl ?_
                refine ARun.qv (q_geq rfl rfl) rfl ?_
                refine ARun.guard_yes rfl rfl rfl ?_
                refine ARun.qv (q_move rfl) rfl ?_
                refine ARun.guard_dt rfl rfl rfl (fun hc => ?_) (fun hc => ?_)
                · rw [if_pos hc] at h
                  refine ARun.qv (q_move rfl) rfl ?_
                  refine ARun.guard_yes rfl rfl rfl ?_
                  refine ARun.qv (q_leq rfl rfl) rfl ?_
                  refine ARun.guard_yes rfl rfl rfl ?_
                  refine ARun.qv (q_pick_t rfl rfl) rfl ?_
                  refine ARun.qv (q_pick_f rfl rfl) rfl ?_
                  refine ARun.qv (q_move rfl) rfl ?_
                  refine ARun.guard_df rfl rfl rfl (fun hc => ?_) (fun hc => ?_)
                  · rw [if_neg hc] at h
                    refine ARun.qv (q_move rfl) rfl ?_
                    refine ARun.guard_yes rfl rfl rfl ?_
                    refine ARun.qv (q_eql rfl rfl) rfl ?_
                    refine ARun.qv (q_pick_f rfl rfl) rfl ?_
                    refine ARun.qv (q_move rfl) rfl ?_
                    refine ARun.guard_df rfl rfl rfl (fun hc => ?_) (fun hc => ?_)
                    · rw [if_neg hc] at h
                      refine ARun.qv (q_move rfl) rfl ?_
                      refine ARun.guard_yes rfl rfl rfl ?_
                      refine ARun.qv (q_eql rfl rfl) rfl ?_
                      refine ARun.qv (q_pick_f rfl rfl) rfl ?_
                      refine ARun.qv (q_not_d rfl) rfl ?_
                      refine ARun.nil ?_
                      refine ATodo.stop ?_
                      exact ImpX.lessP (by exact ⟨rfl, rfl, rfl, rfl, True.intro⟩) (.nil) (ImpX.here ⟨decide (¬ ((c6.toNat : Int) = (95 : Int))), h, rfl⟩)
                    · rw [if_pos hc] at h
                      refine ARun.guard_no rfl rfl rfl rfl ?_
                      refine ARun.qv (q_pick_t rfl rfl) rfl ?_
                      refine ARun.qv (q_not rfl) rfl ?_
                      refine ARun.nil ?_
                      refine ATodo.stop ?_
                      exact ImpX.lessP (by exact ⟨rfl, rfl, rfl, rfl, True.intro⟩) (.nil) (ImpX.here ⟨!true, h, rfl⟩)
                  · rw [if_pos hc] at h
                    refine ARun.guard_no rfl rfl rfl rfl ?_
                    refine ARun.qv (q_pick_t rfl rfl) rfl ?_
                    refine ARun.qv (q_move rfl) rfl ?_
                    refine ARun.guard_no rfl rfl rfl rfl ?_
                    refine ARun.guard_no rfl rfl rfl rfl ?_
                    refine ARun.qv (q_pick_t rfl rfl) rfl ?_
                    refine ARun.qv (q_not rfl) rfl ?_
                    refine ARun.nil ?_
                    refine ATodo.stop ?_
                    exact ImpX.lessP (by exact ⟨rfl, rfl, rfl, rfl, True.intro⟩) (.nil) (ImpX.here ⟨!true, h, rfl⟩)
                · rw [if_neg hc] at h
                  refine ARun.guard_no rfl rfl rfl rfl ?_
                  refine ARun.guard_yes rfl rfl rfl ?_
                  refine ARun.qv (q_pick_f rfl rfl) rfl ?_
                  refine ARun.qv (q_pick_f rfl rfl) rfl ?_
                  refine ARun.qv (q_move rfl) rfl ?_
                  refine ARun.guard_yes rfl rfl rfl ?_
                  refine ARun.qv (q_move rfl) rfl ?_
                  refine ARun.guard_yes rfl rfl rfl ?_
                  refine ARun.qv (q_eql rfl rfl) rfl ?_
                  refine ARun.qv (q_pick_f rfl rfl) rfl ?_
                  refine ARun.qv (q_move rfl) rfl ?_
                  refine ARun.guard_df rfl rfl rfl (fun hc => ?_) (fun hc => ?_)
                  · rw [if_neg hc] at h
                    refine ARun.qv (q_move rfl) rfl ?_
                    refine ARun.guard_yes rfl rfl rfl ?_
                    refine ARun.qv (q_eql rfl rfl) rfl ?_
                    refine ARun.qv (q_pick_f rfl rfl) rfl ?_
                    refine ARun.qv (q_not_d rfl) rfl ?_
                    refine ARun.nil ?_
                    refine ATodo.stop ?_
                    exact ImpX.lessP (by exact ⟨rfl, rfl, rfl, rfl, True.intro⟩) (.nil) (ImpX.here ⟨decide (¬ ((c6.toNat : Int) = (95 : Int))), h, rfl⟩)
                  · rw [if_pos hc] at h
                    refine ARun.guard_no rfl rfl rfl rfl ?_
                    refine ARun.qv (q_pick_t rfl rfl) rfl ?_
                    refine ARun.qv (q_not rfl) rfl ?_
                    refine ARun.nil ?_
                    refine ATodo.stop ?_
                    exact ImpX.lessP (by exact ⟨rfl, rfl, rfl, rfl, True.intro⟩) (.nil) (ImpX.here ⟨!true, h, rfl⟩)
              · rw [if_pos hc] at h
                refine ARun.guard_no rfl rfl rfl rfl ?_
                refine ARun.guard_no rfl rfl rfl rfl ?_
                refine ARun.guard_und rfl rfl rfl ?_
                refine ARun.guard_und rfl rfl rfl ?_
                refine ARun.guard_no rfl rfl rfl rfl ?_
                refine ARun.qv (q_pick_t rfl rfl) rfl ?_
                refine ARun.qv (q_move rfl) rfl ?_
                refine ARun.guard_no rfl rfl rfl rfl ?_
                refine ARun.guard_no rfl rfl rfl rfl ?_
                refine ARun.qv (q_pick_t rfl rfl) rfl ?_
                refine ARun.qv (q_move rfl) rfl ?_
                refine ARun.guard_no rfl rfl rfl rfl ?_
                refine ARun.guard_no rfl rfl rfl rfl ?_
                refine ARun.qv (q_pick_t rfl rfl) rfl ?_
                refine ARun.qv (q_not rfl) rfl ?_
                refine ARun.nil ?_
                refine ATodo.stop ?_
                exact ImpX.lessP (by exact ⟨rfl, rfl, rfl, rfl, True.intro⟩) (.nil) (ImpX.here ⟨!true, h, rfl⟩)
            · rw [if_neg hc] at h
              refine ARun.guard_no rfl rfl rfl rfl ?_
              refine ARun.qv (q_pick_f rfl rfl) rfl ?_
              refine ARun.qv (q_move rfl) rfl ?_
              refine ARun.guard_yes rfl rfl rfl ?_
              refine ARun.qv (q_move rfl) rfl ?_
              refine ARun.guard_yes rfl rfl rfl ?_
              refine ARun.qv (q_geq rfl rfl) rfl ?_
              refine ARun.guard_yes rfl rfl rfl ?_
              refine ARun.qv (q_move rfl) rfl ?_
              refine ARun.guard_dt rfl rfl rfl (fun hc => ?_) (fun hc => ?_)
              · rw [if_pos hc] at h
                refine ARun.qv (q_move rfl) rfl ?_
                refine ARun.guard_yes rfl rfl rfl ?_
                refine ARun.qv (q_leq rfl rfl) rfl ?_
                refine ARun.guard_yes rfl rfl rfl ?_
                refine ARun.qv (q_pick_t rfl rfl) rfl ?_
                refine ARun.qv (q_pick_f rfl rfl) rfl ?_
                refine ARun.qv (q_move rfl) rfl ?_
                refine ARun.guard_df rfl rfl rfl (fun hc => ?_) (fun hc => ?_)
                · rw [if_neg hc] at h
                  refine ARun.qv (q_move rfl) rfl ?_
                  refine ARun.guard_yes rfl rfl rfl ?_
                  refine ARun.qv (q_eql rfl rfl) rfl ?_
                  refine ARun.qv (q_pick_f rfl rfl) rfl ?_
                  refine ARun.qv (q_move rfl) rfl ?_
                  refine ARun.guard_df rfl rfl rfl (fun hc => ?_) (fun hc => ?_)
                  · rw [if_neg hc] at h
                    refine ARun.qv (q_move rfl) rfl ?_
                    refine ARun.guard_yes rfl rfl rfl ?_
                    refine ARun.qv (q_eql rfl rfl) rfl ?_
                    refine ARun.qv (q_pick_f rfl rfl) rfl ?_
                    refine ARun.qv (q_not_d rfl) rfl ?_
                    refine ARun.nil ?_
                    refine ATodo.stop ?_
                    exact ImpX.lessP (by exact ⟨rfl, rfl, rfl, rfl, True.intro⟩) (.nil) (ImpX.here ⟨decide (¬ ((c6.toNat : Int) = (95 : Int))), h, rfl⟩)
                  · rw [if_pos hc] at h
                    refine ARun.guard_no rfl rfl rfl rfl ?_
                    refine ARun.qv (q_pick_t rfl rfl) rfl ?_
                    refine ARun.qv (q_not rfl) rfl ?_
                    refine ARun.nil ?_
                    refine ATodo.stop ?_
                    exact ImpX.lessP (by exact ⟨rfl, rfl, rfl, rfl, True.intro⟩) (.nil) (ImpX.here ⟨!true, h, rfl⟩)
                · rw [if_pos hc] at h
                  refine ARun.guard_no rfl rfl rfl rfl ?_
                  refine ARun.qv (q_pick_t rfl rfl) rfl ?_
                  refine ARun.qv (q_move rfl) rfl ?_
                  refine ARun.guard_no rfl rfl rfl rfl ?_
                  refine ARun.guard_no rfl rfl rfl rfl ?_
                  refine ARun.qv (q_pick_t rfl rfl) rfl ?_
                  refine ARun.qv (q_not rfl) rfl ?_
                  refine ARun.nil ?_
                  refine ATodo.stop ?_
                  exact ImpX.lessP (by exact ⟨rfl, rfl, rfl, rfl, True.intro⟩) (.nil) (ImpX.here ⟨!true, h, rfl⟩)
              · rw [if_neg hc] at h
                refine ARun.guard_no rfl rfl rfl rfl ?_
                refine ARun.guard_yes rfl rfl rfl ?_
                refine ARun.qv (q_pick_f rfl rfl) rfl ?_
                refine ARun.qv (q_pick_f rfl rfl) rfl ?_
                refine ARun.qv (q_move rfl) rfl ?_
                refine ARun.guard_yes rfl rfl rfl ?_
                refine ARun.qv (q_move rfl) rfl ?_
                refine ARun.guard_yes rfl rfl rfl ?_
                refine ARun.qv (q_eql rfl rfl) rfl ?_
                refine ARun.qv (q_pick_f rfl rfl) rfl ?_
                refine ARun.qv (q_move rfl) rfl ?_
                refine ARun.guard_df rfl rfl rfl (fun hc => ?_) (fun hc => ?_)
                · rw [if_neg hc] at h
                  refine ARun.qv (q_move rfl) rfl ?_
                  refine ARun.guard_yes rfl rfl rfl ?_
                  refine ARun.qv (q_eql rfl rfl) rfl ?_
                  refine ARun.qv (q_pick_f rfl rfl) rfl ?_
                  refine ARun.qv (q_not_d rfl) rfl ?_
                  refine ARun.nil ?_
                  refine ATodo.stop ?_
                  exact ImpX.lessP (by exact ⟨rfl, rfl, rfl, rfl, True.intro⟩) (.nil) (ImpX.here ⟨decide (¬ ((c6.toNat : Int) = (95 : Int))), h, rfl⟩)
                · rw [if_pos hc] at h
                  refine ARun.guard_no rfl rfl rfl rfl ?_
                  refine ARun.qv (q_pick_t rfl rfl) rfl ?_
                  refine ARun.qv (q_not rfl) rfl ?_
                  refine ARun.nil ?_
                  refine ATodo.stop ?_
                  exact ImpX.lessP (by exact ⟨rfl, rfl, rfl, rfl, True.intro⟩) (.nil) (ImpX.here ⟨!true, h, rfl⟩)
          · rintro σ' ⟨c7, h, rfl⟩
            unfold base_Key_j2 at h
            refine ATodo.cond rfl (fun hc => ?_) (fun hc => ?_)
            · replace h := iteT hc h
              refine ATodo.seq ?_
              refine ATodo.region ?_
              refine ARun.qv (q_assign rfl) rfl ?_
              refine ARun.nil ?_
              refine ATodo.ret ?_
              replace h := outL h hA1
              obtain rfl := Option.some.inj h
              exact ImpX.here ⟨_, .cons (.tmp _ _ rfl) .nil, rfl⟩
            · replace h := iteFb hc h
              refine ATodo.skip ?_
              refine ATodo.blk ?_
              refine ATodo.region ?_
              refine ARun.qv (q_addw rfl rfl) rfl ?_
              refine ARun.qv (q_move rfl) rfl ?_
              refine ARun.nil ?_
              refine ATodo.stop ?_
              obtain rfl := Option.some.inj h
              refine hJ1 _ _ rfl ?_
              exact ImpX.lessP (by exact ⟨rfl, rfl, rfl, True.intro⟩) (.nil) (ImpX.here rfl)
        · replace h := iteF hc h
          refine ATodo.exit rfl ?_
          replace h := outL h hA1
          refine ATodo.seq ?_
          refine ATodo.region ?_
          refine ARun.qv (q_assign rfl) rfl ?_
          refine ARun.nil ?_
          refine ATodo.ret ?_
          obtain rfl := Option.some.inj h
          exact ImpX.here ⟨_, .cons (.tmp _ _ rfl) .nil, rfl⟩

set_option maxHeartbeats 4000000 in
theorem base_Out_c {p0x0 : Int} {p1x0 : Int} {p2x0 : Int} {r : Bool} (h : base_Out p0x0 p1x0 p2x0 = r) : Pu Try.prog 109 [I p0x0, I p1x0, I p2x0] (.bool r) := by
  unfold base_Out at h
  refine ACall.bodyN Try.func109 rfl Try.ntmps109 Try.results109 rfl rfl ?_
  refine ATodo.seq ?_
  refine ATodo.region ?_
  refine ARun.qv (q_assign rfl) rfl ?_
  refine ARun.nil ?_
  refine ATodo.seq ?_
  refine ATodo.cut (fun σ' => ∃ (c1 : Bool), base_Out_j1 c1 = r ∧ σ' = ⟨15, [(6, .bool c1)], []⟩) ?_ ?_
  · refine ATodo.region ?_
    refine ARun.qv (q_move rfl) rfl ?_
    refine ARun.qv (q_move rfl) rfl ?_
    refine ARun.qv (q_lss rfl rfl) rfl ?_
    refine ARun.qv (q_move rfl) rfl ?_
    refine ARun.guard_df rfl rfl rfl (fun hc => ?_) (fun hc => ?_)
    · rw [orFd hc] at h
      refine ARun.qv (q_move rfl) rfl ?_
      refine ARun.guard_yes rfl rfl rfl ?_
      refine ARun.qv (q_move rfl) rfl ?_
      refine ARun.guard_yes rfl rfl rfl ?_
      refine ARun.qv (q_gtr rfl rfl) rfl ?_
      refine ARun.qv (q_pick_f rfl rfl) rfl ?_
      refine ARun.qv (q_assign rfl) rfl ?_
      refine ARun.nil ?_
      refine ATodo.stop ?_
      exact ImpX.lessP (by exact ⟨rfl, True.intro⟩) (.nil) (ImpX.here ⟨decide (p2x0 < p0x0), h, rfl⟩)
    · rw [orTd hc] at h
      refine ARun.guard_no rfl rfl rfl rfl ?_
      refine ARun.guard_no rfl rfl rfl rfl ?_
      refine ARun.qv (q_pick_t rfl rfl) rfl ?_
      refine ARun.qv (q_assign rfl) rfl ?_
      refine ARun.nil ?_
      refine ATodo.stop ?_
      exact ImpX.lessP (by exact ⟨rfl, True.intro⟩) (.nil) (ImpX.here ⟨true, h, rfl⟩)
  · rintro σ' ⟨c1, h, rfl⟩
    unfold base_Out_j1 at h
    refine ATodo.ret ?_
    obtain rfl := h
    exact ImpX.here ⟨_, .cons (.tmp _ _ rfl) .nil, rfl⟩

set_option maxHeartbeats 4000000 in
theorem base_Moment_c {p0x0 : Int} {r : Bool} (h : base_Moment p0x0 = r) : Pu Try.prog 127 [I p0x0] (.bool r) := by
  unfold base_Moment at h
  refine ACall.bodyN Try.func127 rfl Try.ntmps127 Try.results127 rfl rfl ?_
  refine ATodo.seq ?_
  refine ATodo.region ?_
  refine ARun.qv (q_assign rfl) rfl ?_
  refine ARun.nil ?_
  refine ATodo.seq ?_
  refine ATodo.region ?_
  refine ARun.qv (q_move rfl) rfl ?_
  refine r_callp rfl (base_Out_c rfl) (CoL.refl _) rfl ?_
  refine ARun.qv (q_not rfl) rfl ?_
  refine ARun.qv (q_assign rfl) rfl ?_
  refine ARun.nil ?_
  refine ATodo.ret ?_
  obtain rfl := h
  exact ImpX.here ⟨_, .cons (.tmp _ _ rfl) .nil, rfl⟩

set_option maxHeartbeats 4000000 in
theorem cmp_isNaN_int_c {p0x0 : Int} {r : Bool} (h : cmp_isNaN_int p0x0 = r) : Pu Try.prog 232 [I p0x0] (.bool r) := by
  unfold cmp_isNaN_int at h
  refine ACall.bodyN Try.func232 rfl Try.ntmps232 Try.results232 rfl rfl ?_
  refine ATodo.seq ?_
  refine ATodo.region ?_
  refine ARun.qv (q_assign rfl) rfl ?_
  refine ARun.nil ?_
  refine ATodo.seq ?_
  refine ATodo.region ?_
  refine ARun.qv (q_move rfl) rfl ?_
  refine ARun.qv (q_move rfl) rfl ?_
  refine ARun.qv (q_neq rfl rfl) rfl ?_
  refine ARun.qv (q_assign rfl) rfl ?_
  refine ARun.nil ?_
  refine ATodo.ret ?_
  obtain rfl := h
  exact ImpX.here ⟨_, .cons (.tmp _ _ rfl) .nil, rfl⟩

end Go.Proofs.Ytnnljbpmkcefaaa
