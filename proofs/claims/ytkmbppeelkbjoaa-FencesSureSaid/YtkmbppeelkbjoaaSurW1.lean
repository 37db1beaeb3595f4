/- The code computes the plain functions: proofs written by shal.py. -/
import Derived.Test.YtkmbppeelkbjoaaSurP
import Derived.Test.YtkmbppeelkbjoaaLib
set_option maxRecDepth 100000
set_option linter.unusedVariables false
set_option linter.unusedSimpArgs false
namespace Go.Proofs.Ytkmbppeelkbjoaa
open Go Go.Eng Go.Proofs Go.Beacon
attribute [local irreducible] ARun ATodo AQ QV ACall ImpX AWp AM
instance eqg31 : EqGd Try.prog 31 := ⟨by kernel_rfl⟩
instance eqt31 : EqTy Try.prog 31 2 Spot.av := ⟨fun x y w S v u hv hu => by
  obtain ⟨vs, rfl, hl, ha⟩ := At.agg_inv hv
  obtain ⟨us, rfl, hl', ha'⟩ := At.agg_inv hu
  obtain ⟨v0, p0, q0⟩ := AtA.get hl ha (off := 0) rfl
  obtain ⟨u0, p0', q0'⟩ := AtA.get hl' ha' (off := 0) rfl
  obtain ⟨v1, p1, q1⟩ := AtA.get hl ha (off := 1) rfl
  obtain ⟨u1, p1', q1'⟩ := AtA.get hl' ha' (off := 1) rfl
  refine EqR.cast (EqR.struct Try.underlying31 (by kernel_rfl) (.cons (by decide) (part_one rfl p0) (part_one rfl p0') (EqR.up (EqTy.h (g := I) x.X y.X w S _ _ q0 q0') 0)  (.cons (by decide) (part_one rfl p1) (part_one rfl p1') (EqR.up (EqTy.h (g := I) x.Y y.Y w S _ _ q1 q1') 0) .nil))) ?_
  obtain ⟨_, _⟩ := x
  obtain ⟨_, _⟩ := y
  rw [Bool.eq_iff_iff]; simp [and_assoc]⟩
instance eqg39 : EqGd Try.prog 39 := ⟨by kernel_rfl⟩
instance eqt39 : EqTy Try.prog 39 2 Fraction.av := ⟨fun x y w S v u hv hu => by
  obtain ⟨vs, rfl, hl, ha⟩ := At.agg_inv hv
  obtain ⟨us, rfl, hl', ha'⟩ := At.agg_inv hu
  obtain ⟨v0, p0, q0⟩ := AtA.get hl ha (off := 0) rfl
  obtain ⟨u0, p0', q0'⟩ := AtA.get hl' ha' (off := 0) rfl
  obtain ⟨v1, p1, q1⟩ := AtA.get hl ha (off := 1) rfl
  obtain ⟨u1, p1', q1'⟩ := AtA.get hl' ha' (off := 1) rfl
  refine EqR.cast (EqR.struct Try.underlying39 (by kernel_rfl) (.cons (by decide) (part_one rfl p0) (part_one rfl p0') (EqR.up (EqTy.h (g := I) x.Num y.Num w S _ _ q0 q0') 0)  (.cons (by decide) (part_one rfl p1) (part_one rfl p1') (EqR.up (EqTy.h (g := I) x.Den y.Den w S _ _ q1 q1') 0) .nil))) ?_
  obtain ⟨_, _⟩ := x
  obtain ⟨_, _⟩ := y
  rw [Bool.eq_iff_iff]; simp [and_assoc]⟩
set_option maxHeartbeats 4000000 in
theorem Below_c {p0x0 : Int} {p1x0 : Int} {r : Int} (h : Below p0x0 p1x0 = some r) : Pu Try.prog 122 [I p0x0, I p1x0] (I r) := by
  unfold Below at h
  refine ACall.bodyN Try.func122 rfl Try.ntmps122 Try.results122 rfl rfl ?_
  refine ATodo.seq ?_
  refine ATodo.region ?_
  refine ARun.qv (q_assign rfl) rfl ?_
  refine ARun.nil ?_
  refine ATodo.seq ?_
  refine ATodo.seq ?_
  refine ATodo.region ?_
  refine ARun.qv (q_move rfl) rfl ?_
  refine ARun.qv (q_lss rfl rfl) rfl ?_
  refine ARun.nil ?_
  refine ATodo.cond_d rfl (fun hc => ?_) (fun hc => ?_)
  · replace h := iteT hc h
    refine ATodo.seq ?_
    refine ATodo.region ?_
    refine ARun.qv (q_assign rfl) rfl ?_
    refine ARun.nil ?_
    refine ATodo.ret ?_
    obtain rfl := Option.some.inj h
    exact ImpX.here ⟨_, .cons (.tmp _ _ rfl) .nil, rfl⟩
  · replace h := iteF hc h
    refine ATodo.skip ?_
    refine ATodo.seq ?_
    refine ATodo.region ?_
    refine ARun.qv (q_move rfl) rfl ?_
    refine ARun.qv (q_move rfl) rfl ?_
    obtain ⟨n1, e1, h⟩ := bnd h
    refine ARun.qv (t_remS rfl rfl e1) rfl ?_
    refine ARun.qv (q_assign rfl) rfl ?_
    refine ARun.nil ?_
    refine ATodo.seq ?_
    refine ATodo.seq ?_
    refine ATodo.region ?_
    refine ARun.qv (q_move rfl) rfl ?_
    refine ARun.qv (q_lss rfl rfl) rfl ?_
    refine ARun.nil ?_
    refine ATodo.cut (fun σ' => ∃ (n2 : Int), Below_j1 n2 = some r ∧ σ' = ⟨16, [(0, I n2)], []⟩) ?_ ?_
    · refine ATodo.cond_d rfl (fun hc => ?_) (fun hc => ?_)
      · replace h := iteT hc h
        refine ATodo.region ?_
        refine ARun.qv (q_move rfl) rfl ?_
        refine ARun.qv (q_move rfl) rfl ?_
        refine ARun.qv (q_addw rfl rfl) rfl ?_
        refine ARun.qv (q_assign rfl) rfl ?_
        refine ARun.nil ?_
        refine ATodo.stop ?_
        exact ImpX.lessP (by exact ⟨rfl, True.intro⟩) (.nil) (ImpX.here ⟨w64 (n1 + p1x0), h, rfl⟩)
      · replace h := iteF hc h
        refine ATodo.skip ?_
        refine ATodo.stop ?_
        exact ImpX.lessP (by exact ⟨rfl, True.intro⟩) (.nil) (ImpX.here ⟨n1, h, rfl⟩)
    · rintro σ' ⟨n2, h, rfl⟩
      unfold Below_j1 at h
      refine ATodo.seq ?_
      refine ATodo.region ?_
      refine ARun.qv (q_move rfl) rfl ?_
      refine ARun.qv (q_assign rfl) rfl ?_
      refine ARun.nil ?_
      refine ATodo.ret ?_
      obtain rfl := Option.some.inj h
      exact ImpX.here ⟨_, .cons (.tmp _ _ rfl) .nil, rfl⟩

set_option maxHeartbeats 4000000 in
theorem Stream_Next_c {b_0 : Bk} {p0x0 : Fleetmake_Stream} {p1x0 : Int} {r : Int × Fleetmake_Stream} (h : Stream_Next p0x0 p1x0 = some r) : ACall Try.prog 40 [.ptr b_0 0, I p1x0] [(b_0, .cells [.list 1 (p0x0.L.map I), I p0x0.at_])] (T0 ([(b_0, .cells [.list 1 (r.2.L.map I), I r.2.at_])]) (I r.1)) := by
  unfold Stream_Next at h
  refine ACall.lessH ?_
  refine ACall.bodyN Try.func40 rfl Try.ntmps40 Try.results40 rfl rfl ?_
  refine ATodo.seq ?_
  refine ATodo.region ?_
  refine ARun.qv (q_assign rfl) rfl ?_
  refine ARun.nil ?_
  refine ATodo.seq ?_
  refine ATodo.region ?_
  refine ARun.qv (q_move rfl) rfl ?_
  refine ARun.qv (q_nilCheck_ptr rfl) rfl ?_
  refine ARun.qv (n_field_ptr rfl rfl) rfl ?_
  refine ARun.qv (q_load_ptr rfl rfl .here rfl) rfl ?_
  refine ARun.qv (q_addw rfl rfl) rfl ?_
  refine ARun.qv (q_nilCheck_ptr rfl) rfl ?_
  refine ARun.qv (n_field_ptr rfl rfl) rfl ?_
  refine n_store_ptr rfl rfl rfl rfl .here rfl rfl ?_
  refine ARun.nil ?_
  refine ATodo.seq ?_
  refine ATodo.seq ?_
  refine ATodo.region ?_
  refine ARun.qv (q_move rfl) rfl ?_
  refine ARun.qv (q_nilCheck_ptr rfl) rfl ?_
  refine ARun.qv (n_field_ptr rfl rfl) rfl ?_
  refine ARun.qv (q_load_ptr rfl rfl .here rfl) rfl ?_
  refine ARun.qv (t_len rfl) rfl ?_
  refine ARun.qv (q_eql rfl rfl) rfl ?_
  refine ARun.nil ?_
  refine ATodo.cond_d rfl (fun hc => ?_) (fun hc => ?_)
  · replace h := iteT hc h
    refine ATodo.seq ?_
    refine ATodo.region ?_
    refine ARun.qv (q_move rfl) rfl ?_
    refine ARun.qv (q_nilCheck_ptr rfl) rfl ?_
    refine ARun.qv (n_field_ptr rfl rfl) rfl ?_
    refine ARun.qv (q_load_ptr rfl rfl .here rfl) rfl ?_
    refine ARun.qv (q_mulw rfl rfl) rfl ?_
    refine ARun.qv (q_move rfl) rfl ?_
    obtain ⟨v1, e1, h⟩ := bnd h
    refine r_callp rfl (Below_c e1) (CoL.refl _) rfl ?_
    refine ARun.qv (q_assign rfl) rfl ?_
    refine ARun.nil ?_
    refine ATodo.ret ?_
    obtain rfl := Option.some.inj h
    exact ImpX.here ⟨_, .cons (.tmp _ _ rfl) .nil, _, .cons .here .nil, ⟨rfl, rfl⟩⟩
  · replace h := iteF hc h
    refine ATodo.skip ?_
    refine ATodo.seq ?_
    refine ATodo.regionM (id := 4) (A := [0, 1, 3, 7, 15, 0, 32, 96, 224, 480, 1023, 2047]) 12 mixed rfl (by kernel_rfl) (by kernel_rfl) ?_
    refine AM.qv (q_move rfl) rfl ?_
    refine AM.qv (q_nilCheck_ptr rfl) rfl ?_
    refine AM.qv (n_field_ptr rfl rfl) rfl ?_
    refine AM.qv (q_load_ptr rfl rfl .here rfl) rfl ?_
    refine AM.qv (q_subw rfl rfl) rfl ?_
    refine AM.qv (q_move rfl) rfl ?_
    refine AM.qv (q_nilCheck_ptr rfl) rfl ?_
    refine AM.qv (n_field_ptr rfl rfl) rfl ?_
    refine AM.qv (q_load_ptr rfl rfl .here rfl) rfl ?_
    refine AM.qv (t_len rfl) rfl ?_
    obtain ⟨n2, e2, h⟩ := bnd h
    refine AM.qv (t_remS rfl rfl e2) rfl ?_
    refine AM.qv (q_assign rfl) rfl ?_
    refine AM.nil ?_
    refine ARun.nil ?_
    refine ATodo.seq ?_
    refine ATodo.regionM (id := 5) (A := [0, 1, 3, 7, 15, 0, 32, 96, 224, 480, 1023, 2047]) 12 mixed rfl (by kernel_rfl) (by kernel_rfl) ?_
    refine AM.qv (q_move rfl) rfl ?_
    refine AM.qv (q_nilCheck_ptr rfl) rfl ?_
    refine AM.qv (n_field_ptr rfl rfl) rfl ?_
    refine AM.qv (q_load_ptr rfl rfl .here rfl) rfl ?_
    refine AM.qv (q_subw rfl rfl) rfl ?_
    refine AM.qv (q_move rfl) rfl ?_
    refine AM.qv (q_nilCheck_ptr rfl) rfl ?_
    refine AM.qv (n_field_ptr rfl rfl) rfl ?_
    refine AM.qv (q_load_ptr rfl rfl .here rfl) rfl ?_
    refine AM.qv (t_len rfl) rfl ?_
    obtain ⟨n3, e3, h⟩ := bnd h
    refine AM.qv (t_quoS rfl rfl e3) rfl ?_
    refine AM.qv (q_assign rfl) rfl ?_
    refine AM.nil ?_
    refine ARun.nil ?_
    refine ATodo.seq ?_
    refine ATodo.region ?_
    refine ARun.qv (q_move rfl) rfl ?_
    refine ARun.qv (q_nilCheck_ptr rfl) rfl ?_
    refine ARun.qv (n_field_ptr rfl rfl) rfl ?_
    refine ARun.qv (q_load_ptr rfl rfl .here rfl) rfl ?_
    refine ARun.qv (q_move rfl) rfl ?_
    obtain ⟨v4, e4, h⟩ := bnd h
    refine ARun.qv (t_index rfl rfl rfl e4 rfl rfl) rfl ?_
    refine ARun.qv (q_load_rptr rfl rfl rfl) rfl ?_
    obtain ⟨v5, e5, h⟩ := bnd h
    refine r_callp rfl (Below_c e5) (CoL.refl _) rfl ?_
    refine ARun.qv (q_move rfl) rfl ?_
    refine ARun.qv (q_move rfl) rfl ?_
    refine ARun.qv (q_addw rfl rfl) rfl ?_
    refine ARun.qv (q_mulw rfl rfl) rfl ?_
    refine ARun.qv (q_addw rfl rfl) rfl ?_
    refine ARun.qv (q_move rfl) rfl ?_
    obtain ⟨v6, e6, h⟩ := bnd h
    refine r_callp rfl (Below_c e6) (CoL.refl _) rfl ?_
    refine ARun.qv (q_assign rfl) rfl ?_
    refine ARun.nil ?_
    refine ATodo.ret ?_
    obtain rfl := Option.some.inj h
    exact ImpX.here ⟨_, .cons (.tmp _ _ rfl) .nil, _, .cons .here .nil, ⟨rfl, rfl⟩⟩

set_option maxHeartbeats 4000000 in
theorem Stream_Range_c {b_0 : Bk} {p0x0 : Fleetmake_Stream} {p1x0 : Int} {p2x0 : Int} {r : Int × Fleetmake_Stream} (h : Stream_Range p0x0 p1x0 p2x0 = some r) : ACall Try.prog 37 [.ptr b_0 0, I p1x0, I p2x0] [(b_0, .cells [.list 1 (p0x0.L.map I), I p0x0.at_])] (T0 ([(b_0, .cells [.list 1 (r.2.L.map I), I r.2.at_])]) (I r.1)) := by
  unfold Stream_Range at h
  refine ACall.lessH ?_
  refine ACall.bodyN Try.func37 rfl Try.ntmps37 Try.results37 rfl rfl ?_
  refine ATodo.seq ?_
  refine ATodo.region ?_
  refine ARun.qv (q_assign rfl) rfl ?_
  refine ARun.nil ?_
  refine ATodo.seq ?_
  refine ATodo.seq ?_
  refine ATodo.region ?_
  refine ARun.qv (q_move rfl) rfl ?_
  refine ARun.qv (q_move rfl) rfl ?_
  refine ARun.qv (q_lss rfl rfl) rfl ?_
  refine ARun.nil ?_
  refine ATodo.cond_d rfl (fun hc => ?_) (fun hc => ?_)
  · replace h := iteT hc h
    refine ATodo.seq ?_
    refine ATodo.region ?_
    refine ARun.qv (q_move rfl) rfl ?_
    refine ARun.qv (q_assign rfl) rfl ?_
    refine ARun.nil ?_
    refine ATodo.ret ?_
    obtain rfl := Option.some.inj h
    exact ImpX.here ⟨_, .cons (.tmp _ _ rfl) .nil, _, .cons .here .nil, ⟨rfl, rfl⟩⟩
  · replace h := iteF hc h
    refine ATodo.skip ?_
    refine ATodo.seq ?_
    refine ATodo.region ?_
    refine ARun.qv (q_move rfl) rfl ?_
    refine ARun.qv (q_move rfl) rfl ?_
    refine ARun.qv (q_move rfl) rfl ?_
    refine ARun.qv (q_move rfl) rfl ?_
    refine ARun.qv (q_subw rfl rfl) rfl ?_
    refine ARun.qv (q_addw rfl rfl) rfl ?_
    obtain ⟨v1, e1, h⟩ := bnd h
    refine t_call0 rfl (Stream_Next_c e1) (CoL.refl _) (.cons .here .nil) rfl rfl ?_
    refine ARun.qv (q_addw rfl rfl) rfl ?_
    refine ARun.qv (q_assign rfl) rfl ?_
    refine ARun.nil ?_
    refine ATodo.ret ?_
    obtain rfl := Option.some.inj h
    exact ImpX.here ⟨_, .cons (.tmp _ _ rfl) .nil, _, .cons .here .nil, ⟨rfl, rfl⟩⟩

set_option maxHeartbeats 4000000 in
theorem Stream_Pick_c {b_0 : Bk} {p0x0 : Fleetmake_Stream} {p1x0 : List Int} {r : Int × Fleetmake_Stream} (h : Stream_Pick p0x0 p1x0 = some r) : ACall Try.prog 15 [.ptr b_0 0, .list 1 (p1x0.map I)] [(b_0, .cells [.list 1 (p0x0.L.map I), I p0x0.at_])] (T0 ([(b_0, .cells [.list 1 (r.2.L.map I), I r.2.at_])]) (I r.1)) := by
  unfold Stream_Pick at h
  refine ACall.lessH ?_
  refine ACall.bodyN Try.func15 rfl Try.ntmps15 Try.results15 rfl rfl ?_
  refine ATodo.seq ?_
  refine ATodo.region ?_
  refine ARun.qv (q_assign rfl) rfl ?_
  refine ARun.nil ?_
  refine ATodo.seq ?_
  refine ATodo.region ?_
  refine ARun.qv (q_move rfl) rfl ?_
  refine ARun.qv (q_move rfl) rfl ?_
  refine ARun.qv (q_move rfl) rfl ?_
  refine ARun.qv (t_len rfl) rfl ?_
  obtain ⟨v1, e1, h⟩ := bnd h
  refine t_call0 rfl (Stream_Next_c e1) (CoL.refl _) (.cons .here .nil) rfl rfl ?_
  obtain ⟨v2, e2, h⟩ := bnd h
  refine ARun.qv (t_index rfl rfl rfl e2 rfl rfl) rfl ?_
  refine ARun.qv (q_load_rptr rfl rfl rfl) rfl ?_
  refine ARun.qv (q_assign rfl) rfl ?_
  refine ARun.nil ?_
  refine ATodo.ret ?_
  obtain rfl := Option.some.inj h
  exact ImpX.here ⟨_, .cons (.tmp _ _ rfl) .nil, _, .cons .here .nil, ⟨rfl, rfl⟩⟩

set_option maxHeartbeats 4000000 in
theorem Stream_Place_c {b_0 : Bk} {p0x0 : Fleetmake_Stream} {r : Spot × Fleetmake_Stream} (h : Stream_Place p0x0 = some r) : ACall Try.prog 91 [.ptr b_0 0] [(b_0, .cells [.list 1 (p0x0.L.map I), I p0x0.at_])] (T0 ([(b_0, .cells [.list 1 (r.2.L.map I), I r.2.at_])]) (.agg [I r.1.X, I r.1.Y])) := by
  unfold Stream_Place at h
  refine ACall.lessH ?_
  refine ACall.bodyN Try.func91 rfl Try.ntmps91 Try.results91 rfl rfl ?_
  refine ATodo.seq ?_
  refine ATodo.region ?_
  refine n_alloc rfl rfl rfl rfl (fun b1 => ?_)
  refine ARun.nil ?_
  refine ATodo.seq ?_
  refine ATodo.region ?_
  refine ARun.qv (q_move rfl) rfl ?_
  refine n_buildSliceL (xs := ([(0 : Int), (1 : Int), (2 : Int), (3 : Int), (4 : Int), (5 : Int), (6 : Int), (8 : Int), (10 : Int), (-1 : Int), (-5 : Int), (20 : Int)]).map I) rfl rfl rfl rfl rfl rfl ?_
  obtain ⟨v2, e1, h⟩ := bnd h
  refine t_call0 rfl (Stream_Pick_c e1) (CoL.refl _) (.cons (.next .here) .nil) rfl rfl ?_
  refine ARun.qv (q_move rfl) rfl ?_
  refine n_buildSliceL (xs := ([(0 : Int), (1 : Int), (2 : Int), (3 : Int), (4 : Int), (5 : Int), (6 : Int), (8 : Int), (10 : Int), (-1 : Int), (-5 : Int), (20 : Int)]).map I) rfl rfl rfl rfl rfl rfl ?_
  obtain ⟨v3, e2, h⟩ := bnd h
  refine t_call0 rfl (Stream_Pick_c e2) (CoL.refl _) (.cons .here .nil) rfl rfl ?_
  refine ARun.qv (n_build rfl rfl rfl rfl rfl) rfl ?_
  refine n_store_ptr rfl rfl rfl rfl (.next .here) rfl rfl ?_
  refine ARun.nil ?_
  refine ATodo.ret ?_
  obtain rfl := Option.some.inj h
  exact ImpX.here ⟨_, .cons (.all _ _ _ _ _ _ rfl (.next .here) TUnder.h TInfo.h rfl rfl) .nil, _, .cons .here .nil, ⟨rfl, rfl⟩⟩

set_option maxHeartbeats 4000000 in
theorem Stream_Flip_c {b_0 : Bk} {p0x0 : Fleetmake_Stream} {p1x0 : Int} {r : Bool × Fleetmake_Stream} (h : Stream_Flip p0x0 p1x0 = some r) : ACall Try.prog 38 [.ptr b_0 0, I p1x0] [(b_0, .cells [.list 1 (p0x0.L.map I), I p0x0.at_])] (T0 ([(b_0, .cells [.list 1 (r.2.L.map I), I r.2.at_])]) (.bool r.1)) := by
  unfold Stream_Flip at h
  refine ACall.lessH ?_
  refine ACall.bodyN Try.func38 rfl Try.ntmps38 Try.results38 rfl rfl ?_
  refine ATodo.seq ?_
  refine ATodo.region ?_
  refine ARun.qv (q_assign rfl) rfl ?_
  refine ARun.nil ?_
  refine ATodo.seq ?_
  refine ATodo.region ?_
  refine ARun.qv (q_move rfl) rfl ?_
  refine ARun.qv (q_move rfl) rfl ?_
  obtain ⟨v1, e1, h⟩ := bnd h
  refine t_call0 rfl (Stream_Next_c e1) (CoL.refl _) (.cons .here .nil) rfl rfl ?_
  refine ARun.qv (q_eql rfl rfl) rfl ?_
  refine ARun.qv (q_assign rfl) rfl ?_
  refine ARun.nil ?_
  refine ATodo.ret ?_
  obtain rfl := Option.some.inj h
  exact ImpX.here ⟨_, .cons (.tmp _ _ rfl) .nil, _, .cons .here .nil, ⟨rfl, rfl⟩⟩

set_option maxHeartbeats 4000000 in
theorem Q_in_c {p0x0 : Int} {p1x0 : Int} {p2x0 : Int} {r : Bool} (h : Q_in p0x0 p1x0 p2x0 = r) : Pu Try.prog 98 [I p0x0, I p1x0, I p2x0] (.bool r) := by
  unfold Q_in at h
  refine ACall.bodyN Try.func98 rfl Try.ntmps98 Try.results98 rfl rfl ?_
  refine ATodo.seq ?_
  refine ATodo.region ?_
  refine ARun.qv (q_assign rfl) rfl ?_
  refine ARun.nil ?_
  refine ATodo.seq ?_
  refine ATodo.cut (fun σ' => ∃ (c1 : Bool), Q_in_j1 c1 = r ∧ σ' = ⟨15, [(6, .bool c1)], []⟩) ?_ ?_
  · refine ATodo.region ?_
    refine ARun.qv (q_move rfl) rfl ?_
    refine ARun.qv (q_move rfl) rfl ?_
    refine ARun.qv (q_leq rfl rfl) rfl ?_
    refine ARun.qv (q_move rfl) rfl ?_
    refine ARun.guard_dt rfl rfl rfl (fun hc => ?_) (fun hc => ?_)
    · rw [andTd hc] at h
      refine ARun.qv (q_move rfl) rfl ?_
      refine ARun.guard_yes rfl rfl rfl ?_
      refine ARun.qv (q_move rfl) rfl ?_
      refine ARun.guard_yes rfl rfl rfl ?_
      refine ARun.qv (q_leq rfl rfl) rfl ?_
      refine ARun.qv (q_pick_t rfl rfl) rfl ?_
      refine ARun.qv (q_assign rfl) rfl ?_
      refine ARun.nil ?_
      refine ATodo.stop ?_
      exact ImpX.lessP (by exact ⟨rfl, True.intro⟩) (.nil) (ImpX.here ⟨decide (p0x0 ≤ p2x0), h, rfl⟩)
    · rw [andFd hc] at h
      refine ARun.guard_no rfl rfl rfl rfl ?_
      refine ARun.guard_no rfl rfl rfl rfl ?_
      refine ARun.qv (q_pick_f rfl rfl) rfl ?_
      refine ARun.qv (q_assign rfl) rfl ?_
      refine ARun.nil ?_
      refine ATodo.stop ?_
      exact ImpX.lessP (by exact ⟨rfl, True.intro⟩) (.nil) (ImpX.here ⟨false, h, rfl⟩)
  · rintro σ' ⟨c1, h, rfl⟩
    unfold Q_in_j1 at h
    refine ATodo.ret ?_
    obtain rfl := h
    exact ImpX.here ⟨_, .cons (.tmp _ _ rfl) .nil, rfl⟩

set_option maxHeartbeats 4000000 in
theorem Q_SpotFault_c {p0x0 : Spot} {r : Int} (h : Q_SpotFault p0x0 = r) : Pu Try.prog 20 [.agg [I p0x0.X, I p0x0.Y]] (I r) := by
  unfold Q_SpotFault at h
  refine ACall.bodyN Try.func20 rfl Try.ntmps20 Try.results20 rfl rfl ?_
  refine ATodo.seq ?_
  refine ATodo.region ?_
  refine n_box rfl rfl rfl rfl (fun b1 => ?_)
  refine ARun.qv (q_assign rfl) rfl ?_
  refine ARun.nil ?_
  refine ATodo.seq ?_
  refine ATodo.seq ?_
  refine ATodo.cut (fun σ' => ∃ (c2 : Bool), Q_SpotFault_j1 c2 = r ∧ σ' = ⟨13, [(12, .bool c2)], []⟩) ?_ ?_
  · refine ATodo.region ?_
    refine ARun.qv (n_field_ptr rfl rfl) rfl ?_
    refine ARun.qv (q_load_ptr rfl rfl .here rfl) rfl ?_
    refine r_callp rfl (Q_in_c rfl) (CoL.refl _) rfl ?_
    refine ARun.qv (q_not rfl) rfl ?_
    refine ARun.qv (q_move rfl) rfl ?_
    refine ARun.guard rfl rfl rfl (fun hc => ?_) (fun hc => ?_)
    · rw [orFb hc] at h
      refine ARun.qv (n_field_ptr rfl rfl) rfl ?_
      refine ARun.guard_yes rfl rfl rfl ?_
      refine ARun.qv (q_load_ptr rfl rfl .here rfl) rfl ?_
      refine ARun.guard_yes rfl rfl rfl ?_
      refine r_callp rfl (Q_in_c rfl) (CoL.refl _) rfl ?_
      refine ARun.guard_yes rfl rfl rfl ?_
      refine ARun.qv (q_not rfl) rfl ?_
      refine ARun.qv (q_pick_f rfl rfl) rfl ?_
      refine ARun.nil ?_
      refine ATodo.stop ?_
      exact ImpX.lessP (by exact ⟨rfl, True.intro⟩) (.nil) (ImpX.here ⟨!(Q_in p0x0.Y (-10000 : Int) (10000 : Int)), h, rfl⟩)
    · rw [orTb hc] at h
      refine ARun.guard_no rfl rfl rfl rfl ?_
      refine ARun.guard_no rfl rfl rfl rfl ?_
      refine ARun.guard_no rfl rfl rfl rfl ?_
      refine ARun.qv (q_pick_t rfl rfl) rfl ?_
      refine ARun.nil ?_
      refine ATodo.stop ?_
      exact ImpX.lessP (by exact ⟨rfl, True.intro⟩) (.nil) (ImpX.here ⟨true, h, rfl⟩)
  · rintro σ' ⟨c2, h, rfl⟩
    unfold Q_SpotFault_j1 at h
    refine ATodo.cond rfl (fun hc => ?_) (fun hc => ?_)
    · replace h := iteT hc h
      refine ATodo.seq ?_
      refine ATodo.region ?_
      refine ARun.qv (q_assign rfl) rfl ?_
      refine ARun.nil ?_
      refine ATodo.ret ?_
      obtain rfl := h
      exact ImpX.here ⟨_, .cons (.tmp _ _ rfl) .nil, rfl⟩
    · replace h := iteFb hc h
      refine ATodo.skip ?_
      refine ATodo.seq ?_
      refine ATodo.region ?_
      refine ARun.qv (q_assign rfl) rfl ?_
      refine ARun.nil ?_
      refine ATodo.ret ?_
      obtain rfl := h
      exact ImpX.here ⟨_, .cons (.tmp _ _ rfl) .nil, rfl⟩

set_option maxHeartbeats 4000000 in
theorem slices_Index_Spot_Spot_c {p0x0 : List Spot} {p1x0 : Spot} {r : Int} (h : slices_Index_Spot_Spot p0x0 p1x0 = some r) : Pu Try.prog 225 [.list 2 (p0x0.map Spot.av), .agg [I p1x0.X, I p1x0.Y]] (I r) := by
  unfold slices_Index_Spot_Spot at h
  refine ACall.bodyN Try.func225 rfl Try.ntmps225 Try.results225 rfl rfl ?_
  refine ATodo.seq ?_
  refine ATodo.region ?_
  refine n_box rfl rfl rfl rfl (fun b1 => ?_)
  refine ARun.qv (q_assign rfl) rfl ?_
  refine ARun.nil ?_
  refine ATodo.seq ?_
  refine ATodo.seq ?_
  refine ATodo.region ?_
  refine ARun.qv (q_move rfl) rfl ?_
  refine ARun.qv (t_len rfl) rfl ?_
  refine ARun.qv (q_move rfl) rfl ?_
  refine ARun.nil ?_
  refine ATodo.block ?_
  refine ATodo.loopI (fun x : Int => slices_Index_Spot_Spot_b1 p0x0 p1x0 x) (fun x σ' => σ' = ⟨19, [(0, .list 2 (p0x0.map Spot.av)), (3, .ptr b1 0), (7, I (p0x0.length : Int)), (8, I x)], [(b1, .cells [I p1x0.X, I p1x0.Y])]⟩) h ?_ ?_
  · exact ImpX.lessP (by exact ⟨rfl, rfl, rfl, rfl, True.intro⟩) (.cons .here .nil) (ImpX.here rfl)
  · intro n3 z1 σ' J1 hmk h hJ1 hA1
    obtain rfl := hmk
    replace h : slices_Index_Spot_Spot_b1 p0x0 p1x0 n3 = some z1 := h
    unfold slices_Index_Spot_Spot_b1 at h
    refine ATodo.seq ?_
    refine ATodo.region ?_
    refine ARun.qv (q_lss rfl rfl) rfl ?_
    refine ARun.nil ?_
    refine ATodo.seq ?_
    refine ATodo.cond_d rfl (fun hc => ?_) (fun hc => ?_)
    · replace h := iteT hc h
      refine ATodo.skip ?_
      refine ATodo.seq ?_
      refine ATodo.block ?_
      refine ATodo.seq ?_
      refine ATodo.region ?_
      refine ARun.qv (q_move rfl) rfl ?_
      refine ARun.qv (q_assign rfl) rfl ?_
      refine ARun.nil ?_
      refine ATodo.seq ?_
      refine ATodo.regionM (id := 4) (A := [0, 0, 0, 6, 14, 31]) 6 mixed rfl (by kernel_rfl) (by kernel_rfl) ?_
      refine AM.qv (q_load_ptr_all rfl rfl .here rfl) rfl ?_
      refine AM.qv (q_move rfl) rfl ?_
      refine AM.qv (q_move rfl) rfl ?_
      obtain ⟨v4, e1, h⟩ := bnd h
      refine AM.qv (t_index rfl rfl rfl e1 rfl rfl) rfl ?_
      refine AM.qv (q_load_rptr_agg rfl rfl rfl) rfl ?_
      refine AM.qv (t_teq (g := Spot.av) (X := p1x0) (Y := v4) rfl rfl rfl rfl rfl) rfl ?_
      refine AM.nil ?_
      refine ARun.nil ?_
      refine ATodo.cond_d rfl (fun hc => ?_) (fun hc => ?_)
      · replace h := iteT hc h
        refine ATodo.seq ?_
        refine ATodo.region ?_
        refine ARun.qv (q_move rfl) rfl ?_
        refine ARun.qv (q_assign rfl) rfl ?_
        refine ARun.nil ?_
        refine ATodo.ret ?_
        replace h := outL h hA1
        obtain rfl := Option.some.inj h
        exact ImpX.here ⟨_, .cons (.tmp _ _ rfl) .nil, rfl⟩
      · replace h := iteF hc h
        refine ATodo.skip ?_
        refine ATodo.blk ?_
        refine ATodo.region ?_
        refine ARun.qv (q_addw rfl rfl) rfl ?_
        refine ARun.qv (q_move rfl) rfl ?_
        refine ARun.nil ?_
        refine ATodo.stop ?_
        obtain rfl := Option.some.inj h
        refine hJ1 _ _ rfl ?_
        exact ImpX.lessP (by exact ⟨rfl, rfl, rfl, rfl, True.intro⟩) (.cons .here .nil) (ImpX.here rfl)
    · replace h := iteF hc h
      refine ATodo.exit rfl ?_
      replace h := outL h hA1
      refine ATodo.seq ?_
      refine ATodo.region ?_
      refine ARun.qv (q_assign rfl) rfl ?_
      refine ARun.nil ?_
      refine ATodo.ret ?_
      obtain rfl := Option.some.inj h
      exact ImpX.here ⟨_, .cons (.tmp _ _ rfl) .nil, rfl⟩

set_option maxHeartbeats 4000000 in
theorem slices_Contains_Spot_Spot_c {p0x0 : List Spot} {p1x0 : Spot} {r : Bool} (h : slices_Contains_Spot_Spot p0x0 p1x0 = some r) : Pu Try.prog 185 [.list 2 (p0x0.map Spot.av), .agg [I p1x0.X, I p1x0.Y]] (.bool r) := by
  unfold slices_Contains_Spot_Spot at h
  refine ACall.bodyN Try.func185 rfl Try.ntmps185 Try.results185 rfl rfl ?_
  refine ATodo.seq ?_
  refine ATodo.region ?_
  refine n_box rfl rfl rfl rfl (fun b1 => ?_)
  refine ARun.qv (q_assign rfl) rfl ?_
  refine ARun.nil ?_
  refine ATodo.seq ?_
  refine ATodo.region ?_
  refine ARun.qv (q_move rfl) rfl ?_
  refine ARun.qv (q_load_ptr_all rfl rfl .here rfl) rfl ?_
  obtain ⟨v2, e1, h⟩ := bnd h
  refine r_callp rfl (slices_Index_Spot_Spot_c e1) (CoL.refl _) rfl ?_
  refine ARun.qv (q_geq rfl rfl) rfl ?_
  refine ARun.qv (q_assign rfl) rfl ?_
  refine ARun.nil ?_
  refine ATodo.ret ?_
  obtain rfl := Option.some.inj h
  exact ImpX.here ⟨_, .cons (.tmp _ _ rfl) .nil, rfl⟩

set_option maxHeartbeats 4000000 in
theorem Q_edge_c {p0x0 : List Spot} {p1x0 : Int} {r : Spot × Spot} (h : Q_edge p0x0 p1x0 = some r) : Pu Try.prog 102 [.list 2 (p0x0.map Spot.av), I p1x0] (.tup [.agg [I r.1.X, I r.1.Y], .agg [I r.2.X, I r.2.Y]]) := by
  unfold Q_edge at h
  refine ACall.bodyN Try.func102 rfl Try.ntmps102 Try.results102 rfl rfl ?_
  refine ATodo.seq ?_
  refine ATodo.region ?_
  refine n_alloc rfl rfl rfl rfl (fun b1 => ?_)
  refine n_alloc rfl rfl rfl rfl (fun b2 => ?_)
  refine ARun.nil ?_
  refine ATodo.seq ?_
  obtain ⟨v3, e1, h⟩ := bnd h
  obtain ⟨n4, e2, h⟩ := bnd h
  obtain ⟨v5, e3, h⟩ := bnd h
  refine ATodo.regionT (id := 1) (A := [0, 0, 3, 7, 0, 0, 32, 0, 128, 480, 1008, 2032, 15, 8191]) (H0 := [(b1, .cells [I (0 : Int), I (0 : Int)])]) (HH := fun β => [(b1, .cells [I v3.X, I v3.Y]), (b2, .cells [I (0 : Int), I (0 : Int)])]) 13 mixed rfl (by kernel_rfl) (by kernel_rfl) [⟨none, some 12, [], fun _ => (b1, .cells [I (0 : Int), I (0 : Int)]), none⟩, ⟨some 12, none, [], fun _ => (b1, .cells [I v3.X, I v3.Y]), none⟩] [] rfl (by kernel_rfl) rfl (.cons (.next .here) .nil) (fun _ => rfl) ?_
  refine AT.am 12 rfl rfl ?_
  refine AM.qv (q_move rfl) rfl ?_
  refine AM.qv (q_move rfl) rfl ?_
  refine AM.qv (t_index rfl rfl rfl e1 rfl rfl) rfl ?_
  refine AM.qv (q_load_rptr_agg rfl rfl rfl) rfl ?_
  refine AM.qv (q_move rfl) rfl ?_
  refine AM.qv (q_move rfl) rfl ?_
  refine AM.qv (q_addw rfl rfl) rfl ?_
  refine AM.qv (q_move rfl) rfl ?_
  refine AM.qv (t_len rfl) rfl ?_
  refine AM.qv (t_remS rfl rfl e2) rfl ?_
  refine AM.qv (t_index rfl rfl rfl e3 rfl rfl) rfl ?_
  refine AM.qv (q_load_rptr_agg rfl rfl rfl) rfl ?_
  refine AM.nil ?_
  refine AT.run0 (Ti := [(b1, .cells [I (0 : Int), I (0 : Int)])]) (Pi := [(b1, .cells [I v3.X, I v3.Y])]) (fun _ => rfl) (fun _ => rfl) (fun _ => rfl) rfl rfl ?_ ?_
  · refine n_store_ptr rfl rfl rfl rfl .here rfl rfl ?_
    exact ARun.nil ⟨_, rfl⟩
  refine AT.nilN (fun _ => rfl) (fun β => ?_)
  refine n_store_ptr rfl rfl rfl rfl (.next .here) rfl rfl ?_
  refine ARun.nil ?_
  refine ATodo.ret ?_
  obtain rfl := Option.some.inj h
  exact ImpX.here ⟨_, .cons (.all _ _ _ _ _ _ rfl .here TUnder.h TInfo.h rfl rfl) (.cons (.all _ _ _ _ _ _ rfl (.next .here) TUnder.h TInfo.h rfl rfl) .nil), rfl⟩

set_option maxHeartbeats 4000000 in
theorem Q_minus_c {p0x0 : Spot} {p1x0 : Spot} {r : Spot} (h : Q_minus p0x0 p1x0 = r) : Pu Try.prog 167 [.agg [I p0x0.X, I p0x0.Y], .agg [I p1x0.X, I p1x0.Y]] (.agg [I r.X, I r.Y]) := by
  unfold Q_minus at h
  refine ACall.bodyN Try.func167 rfl Try.ntmps167 Try.results167 rfl rfl ?_
  refine ATodo.seq ?_
  refine ATodo.region ?_
  refine n_box rfl rfl rfl rfl (fun b1 => ?_)
  refine n_box rfl rfl rfl rfl (fun b2 => ?_)
  refine n_alloc rfl rfl rfl rfl (fun b3 => ?_)
  refine ARun.nil ?_
  refine ATodo.seq ?_
  refine ATodo.region ?_
  refine ARun.qv (n_field_ptr rfl rfl) rfl ?_
  refine ARun.qv (q_load_ptr rfl rfl (.next (.next .here)) rfl) rfl ?_
  refine ARun.qv (n_field_ptr rfl rfl) rfl ?_
  refine ARun.qv (q_load_ptr rfl rfl (.next .here) rfl) rfl ?_
  refine ARun.qv (q_subw rfl rfl) rfl ?_
  refine ARun.qv (n_field_ptr rfl rfl) rfl ?_
  refine ARun.qv (q_load_ptr rfl rfl (.next (.next .here)) rfl) rfl ?_
  refine ARun.qv (n_field_ptr rfl rfl) rfl ?_
  refine ARun.qv (q_load_ptr rfl rfl (.next .here) rfl) rfl ?_
  refine ARun.qv (q_subw rfl rfl) rfl ?_
  refine ARun.qv (n_build rfl rfl rfl rfl rfl) rfl ?_
  refine n_store_ptr rfl rfl rfl rfl .here rfl rfl ?_
  refine ARun.nil ?_
  refine ATodo.ret ?_
  obtain rfl := h
  exact ImpX.here ⟨_, .cons (.all _ _ _ _ _ _ rfl .here TUnder.h TInfo.h rfl rfl) .nil, rfl⟩

set_option maxHeartbeats 4000000 in
theorem Q_cross_c {p0x0 : Spot} {p1x0 : Spot} {r : Int} (h : Q_cross p0x0 p1x0 = r) : Pu Try.prog 191 [.agg [I p0x0.X, I p0x0.Y], .agg [I p1x0.X, I p1x0.Y]] (I r) := by
  unfold Q_cross at h
  refine ACall.bodyN Try.func191 rfl Try.ntmps191 Try.results191 rfl rfl ?_
  refine ATodo.seq ?_
  refine ATodo.region ?_
  refine n_box rfl rfl rfl rfl (fun b1 => ?_)
  refine n_box rfl rfl rfl rfl (fun b2 => ?_)
  refine ARun.qv (q_assign rfl) rfl ?_
  refine ARun.nil ?_
  refine ATodo.seq ?_
  refine ATodo.region ?_
  refine ARun.qv (n_field_ptr rfl rfl) rfl ?_
  refine ARun.qv (q_load_ptr rfl rfl (.next .here) rfl) rfl ?_
  refine ARun.qv (n_field_ptr rfl rfl) rfl ?_
  refine ARun.qv (q_load_ptr rfl rfl .here rfl) rfl ?_
  refine ARun.qv (q_mulw rfl rfl) rfl ?_
  refine ARun.qv (n_field_ptr rfl rfl) rfl ?_
  refine ARun.qv (q_load_ptr rfl rfl (.next .here) rfl) rfl ?_
  refine ARun.qv (n_field_ptr rfl rfl) rfl ?_
  refine ARun.qv (q_load_ptr rfl rfl .here rfl) rfl ?_
  refine ARun.qv (q_mulw rfl rfl) rfl ?_
  refine ARun.qv (q_subw rfl rfl) rfl ?_
  refine ARun.qv (q_assign rfl) rfl ?_
  refine ARun.nil ?_
  refine ATodo.ret ?_
  obtain rfl := h
  exact ImpX.here ⟨_, .cons (.tmp _ _ rfl) .nil, rfl⟩

set_option maxHeartbeats 4000000 in
theorem Q_sign_c {p0x0 : Int} {r : Int} (h : Q_sign p0x0 = r) : Pu Try.prog 190 [I p0x0] (I r) := by
  unfold Q_sign at h
  refine ACall.bodyN Try.func190 rfl Try.ntmps190 Try.results190 rfl rfl ?_
  refine ATodo.seq ?_
  refine ATodo.region ?_
  refine ARun.qv (q_assign rfl) rfl ?_
  refine ARun.nil ?_
  refine ATodo.seq ?_
  refine ATodo.block ?_
  refine ATodo.seq ?_
  refine ATodo.region ?_
  refine ARun.qv (q_move rfl) rfl ?_
  refine ARun.qv (q_lss rfl rfl) rfl ?_
  refine ARun.qv (q_assign rfl) rfl ?_
  refine ARun.nil ?_
  refine ATodo.cond_d rfl (fun hc => ?_) (fun hc => ?_)
  · replace h := iteT hc h
    refine ATodo.seq ?_
    refine ATodo.region ?_
    refine ARun.qv (q_assign rfl) rfl ?_
    refine ARun.nil ?_
    refine ATodo.ret ?_
    obtain rfl := h
    exact ImpX.here ⟨_, .cons (.tmp _ _ rfl) .nil, rfl⟩
  · replace h := iteF hc h
    refine ATodo.seq ?_
    refine ATodo.region ?_
    refine ARun.qv (q_move rfl) rfl ?_
    refine ARun.qv (q_gtr rfl rfl) rfl ?_
    refine ARun.qv (q_assign rfl) rfl ?_
    refine ARun.nil ?_
    refine ATodo.cond_d rfl (fun hc => ?_) (fun hc => ?_)
    · replace h := iteT hc h
      refine ATodo.seq ?_
      refine ATodo.region ?_
      refine ARun.qv (q_assign rfl) rfl ?_
      refine ARun.nil ?_
      refine ATodo.ret ?_
      obtain rfl := h
      exact ImpX.here ⟨_, .cons (.tmp _ _ rfl) .nil, rfl⟩
    · replace h := iteF hc h
      refine ATodo.skip ?_
      refine ATodo.blk ?_
      refine ATodo.seq ?_
      refine ATodo.region ?_
      refine ARun.qv (q_assign rfl) rfl ?_
      refine ARun.nil ?_
      refine ATodo.ret ?_
      obtain rfl := h
      exact ImpX.here ⟨_, .cons (.tmp _ _ rfl) .nil, rfl⟩

set_option maxHeartbeats 4000000 in
theorem Q_side_c {p0x0 : Spot} {p1x0 : Spot} {p2x0 : Spot} {r : Int} (h : Q_side p0x0 p1x0 p2x0 = r) : Pu Try.prog 165 [.agg [I p0x0.X, I p0x0.Y], .agg [I p1x0.X, I p1x0.Y], .agg [I p2x0.X, I p2x0.Y]] (I r) := by
  unfold Q_side at h
  refine ACall.bodyN Try.func165 rfl Try.ntmps165 Try.results165 rfl rfl ?_
  refine ATodo.seq ?_
  refine ATodo.region ?_
  refine n_box rfl rfl rfl rfl (fun b1 => ?_)
  refine n_box rfl rfl rfl rfl (fun b2 => ?_)
  refine n_box rfl rfl rfl rfl (fun b3 => ?_)
  refine ARun.qv (q_assign rfl) rfl ?_
  refine ARun.nil ?_
  refine ATodo.seq ?_
  refine ATodo.regionM (id := 1) (A := [0, 0, 3, 0, 0, 31, 63, 127, 255]) 9 mixed rfl (by kernel_rfl) (by kernel_rfl) ?_
  refine AM.qv (q_load_ptr_all rfl rfl (.next .here) rfl) rfl ?_
  refine AM.qv (q_load_ptr_all rfl rfl (.next (.next .here)) rfl) rfl ?_
  refine AM.callp rfl (Q_minus_c rfl) (CoL.refl _) rfl ?_
  refine AM.qv (q_load_ptr_all rfl rfl .here rfl) rfl ?_
  refine AM.qv (q_load_ptr_all rfl rfl (.next (.next .here)) rfl) rfl ?_
  refine AM.callp rfl (Q_minus_c rfl) (CoL.refl _) rfl ?_
  refine AM.callp rfl (Q_cross_c rfl) (CoL.refl _) rfl ?_
  refine AM.callp rfl (Q_sign_c rfl) (CoL.refl _) rfl ?_
  refine AM.qv (q_assign rfl) rfl ?_
  refine AM.nil ?_
  refine ARun.nil ?_
  refine ATodo.ret ?_
  obtain rfl := h
  exact ImpX.here ⟨_, .cons (.tmp _ _ rfl) .nil, rfl⟩

set_option maxHeartbeats 4000000 in
theorem Q_dot_c {p0x0 : Spot} {p1x0 : Spot} {r : Int} (h : Q_dot p0x0 p1x0 = r) : Pu Try.prog 166 [.agg [I p0x0.X, I p0x0.Y], .agg [I p1x0.X, I p1x0.Y]] (I r) := by
  unfold Q_dot at h
  refine ACall.bodyN Try.func166 rfl Try.ntmps166 Try.results166 rfl rfl ?_
  refine ATodo.seq ?_
  refine ATodo.region ?_
  refine n_box rfl rfl rfl rfl (fun b1 => ?_)
  refine n_box rfl rfl rfl rfl (fun b2 => ?_)
  refine ARun.qv (q_assign rfl) rfl ?_
  refine ARun.nil ?_
  refine ATodo.seq ?_
  refine ATodo.region ?_
  refine ARun.qv (n_field_ptr rfl rfl) rfl ?_
  refine ARun.qv (q_load_ptr rfl rfl (.next .here) rfl) rfl ?_
  refine ARun.qv (n_field_ptr rfl rfl) rfl ?_
  refine ARun.qv (q_load_ptr rfl rfl .here rfl) rfl ?_
  refine ARun.qv (q_mulw rfl rfl) rfl ?_
  refine ARun.qv (n_field_ptr rfl rfl) rfl ?_
  refine ARun.qv (q_load_ptr rfl rfl (.next .here) rfl) rfl ?_
  refine ARun.qv (n_field_ptr rfl rfl) rfl ?_
  refine ARun.qv (q_load_ptr rfl rfl .here rfl) rfl ?_
  refine ARun.qv (q_mulw rfl rfl) rfl ?_
  refine ARun.qv (q_addw rfl rfl) rfl ?_
  refine ARun.qv (q_assign rfl) rfl ?_
  refine ARun.nil ?_
  refine ATodo.ret ?_
  obtain rfl := h
  exact ImpX.here ⟨_, .cons (.tmp _ _ rfl) .nil, rfl⟩

set_option maxHeartbeats 4000000 in
theorem Q_onWay_c {p0x0 : Spot} {p1x0 : Spot} {p2x0 : Spot} {r : Bool} (h : Q_onWay p0x0 p1x0 p2x0 = r) : Pu Try.prog 188 [.agg [I p0x0.X, I p0x0.Y], .agg [I p1x0.X, I p1x0.Y], .agg [I p2x0.X, I p2x0.Y]] (.bool r) := by
  unfold Q_onWay at h
  refine ACall.bodyN Try.func188 rfl Try.ntmps188 Try.results188 rfl rfl ?_
  refine ATodo.seq ?_
  refine ATodo.region ?_
  refine n_box rfl rfl rfl rfl (fun b1 => ?_)
  refine n_box rfl rfl rfl rfl (fun b2 => ?_)
  refine n_box rfl rfl rfl rfl (fun b3 => ?_)
  refine ARun.qv (q_assign rfl) rfl ?_
  refine ARun.nil ?_
  refine ATodo.seq ?_
  refine ATodo.cut (fun σ' => ∃ (c4 : Bool), Q_onWay_j1 c4 = r ∧ σ' = ⟨22, [(6, .bool c4)], []⟩) ?_ ?_
  · refine ATodo.regionM (id := 1) (A := [0, 0, 0, 7, 15, 31, 63, 63, 255, 63, 63, 2047, 4095, 8191, 16383, 32767]) 16 mixed rfl (by kernel_rfl) (by kernel_rfl) ?_
    refine AM.qv (q_load_ptr_all rfl rfl (.next (.next .here)) rfl) rfl ?_
    refine AM.qv (q_load_ptr_all rfl rfl (.next .here) rfl) rfl ?_
    refine AM.qv (q_load_ptr_all rfl rfl .here rfl) rfl ?_
    refine AM.callp rfl (Q_side_c rfl) (CoL.refl _) rfl ?_
    refine AM.qv (q_eql rfl rfl) rfl ?_
    refine AM.qv (q_move rfl) rfl ?_
    refine AM.guard_dt rfl rfl rfl (fun hc => ?_) (fun hc => ?_)
    · rw [andTd hc] at h
      refine AM.qv (q_load_ptr_all rfl rfl (.next (.next .here)) rfl) rfl ?_
      refine AM.guard_yes rfl rfl rfl ?_
      refine AM.qv (q_load_ptr_all rfl rfl .here rfl) rfl ?_
      refine AM.guard_yes rfl rfl rfl ?_
      refine AM.callp rfl (Q_minus_c rfl) (CoL.refl _) rfl ?_
      refine AM.guard_yes rfl rfl rfl ?_
      refine AM.qv (q_load_ptr_all rfl rfl (.next .here) rfl) rfl ?_
      refine AM.guard_yes rfl rfl rfl ?_
      refine AM.qv (q_load_ptr_all rfl rfl .here rfl) rfl ?_
      refine AM.guard_yes rfl rfl rfl ?_
      refine AM.callp rfl (Q_minus_c rfl) (CoL.refl _) rfl ?_
      refine AM.guard_yes rfl rfl rfl ?_
      refine AM.callp rfl (Q_dot_c rfl) (CoL.refl _) rfl ?_
      refine AM.guard_yes rfl rfl rfl ?_
      refine AM.qv (q_leq rfl rfl) rfl ?_
      refine AM.qv (q_pick_t rfl rfl) rfl ?_
      refine AM.qv (q_assign rfl) rfl ?_
      refine AM.nil ?_
      refine ARun.nil ?_
      refine ATodo.stop ?_
      exact ImpX.lessP (by exact ⟨rfl, True.intro⟩) (.nil) (ImpX.here ⟨decide ((Q_dot (Q_minus p0x0 p2x0) (Q_minus p1x0 p2x0)) ≤ (0 : Int)), h, rfl⟩)
    · rw [andFd hc] at h
      refine AM.guard_no rfl rfl rfl rfl ?_
      refine AM.guard_no rfl rfl rfl rfl ?_
      refine AM.guard_no rfl rfl rfl rfl ?_
      refine AM.guard_no rfl rfl rfl rfl ?_
      refine AM.guard_no rfl rfl rfl rfl ?_
      refine AM.guard_no rfl rfl rfl rfl ?_
      refine AM.guard_no rfl rfl rfl rfl ?_
      refine AM.qv (q_pick_f rfl rfl) rfl ?_
      refine AM.qv (q_assign rfl) rfl ?_
      refine AM.nil ?_
      refine ARun.nil ?_
      refine ATodo.stop ?_
      exact ImpX.lessP (by exact ⟨rfl, True.intro⟩) (.nil) (ImpX.here ⟨false, h, rfl⟩)
  · rintro σ' ⟨c4, h, rfl⟩
    unfold Q_onWay_j1 at h
    refine ATodo.ret ?_
    obtain rfl := h
    exact ImpX.here ⟨_, .cons (.tmp _ _ rfl) .nil, rfl⟩

set_option maxHeartbeats 4000000 in
theorem Q_touches_c {p0x0 : Spot} {p1x0 : Spot} {p2x0 : Spot} {p3x0 : Spot} {r : Bool} (h : Q_touches p0x0 p1x0 p2x0 p3x0 = r) : Pu Try.prog 168 [.agg [I p0x0.X, I p0x0.Y], .agg [I p1x0.X, I p1x0.Y], .agg [I p2x0.X, I p2x0.Y], .agg [I p3x0.X, I p3x0.Y]] (.bool r) := by
  unfold Q_touches at h
  refine ACall.bodyN Try.func168 rfl Try.ntmps168 Try.results168 rfl rfl ?_
  refine ATodo.seq ?_
  refine ATodo.region ?_
  refine n_box rfl rfl rfl rfl (fun b1 => ?_)
  refine n_box rfl rfl rfl rfl (fun b2 => ?_)
  refine n_box rfl rfl rfl rfl (fun b3 => ?_)
  refine n_box rfl rfl rfl rfl (fun b4 => ?_)
  refine ARun.qv (q_assign rfl) rfl ?_
  refine ARun.nil ?_
  refine ATodo.seq ?_
  refine ATodo.seq ?_
  refine ATodo.cut (fun σ' => ∃ (c5 : Bool), Q_touches_j1 p0x0 p1x0 p2x0 p3x0 c5 = r ∧ σ' = ⟨53, [(4, .ptr b1 0), (5, .ptr b2 0), (6, .ptr b3 0), (7, .ptr b4 0), (30, .bool c5)], [(b1, .cells [I p0x0.X, I p0x0.Y]), (b2, .cells [I p1x0.X, I p1x0.Y]), (b3, .cells [I p2x0.X, I p2x0.Y]), (b4, .cells [I p3x0.X, I p3x0.Y])]⟩) ?_ ?_
  · refine ATodo.region ?_
    refine ARun.qv (q_load_ptr_all rfl rfl (.next (.next (.next .here))) rfl) rfl ?_
    refine ARun.qv (q_load_ptr_all rfl rfl (.next (.next .here)) rfl) rfl ?_
    refine ARun.qv (q_load_ptr_all rfl rfl (.next .here) rfl) rfl ?_
    refine r_callp rfl (Q_onWay_c rfl) (CoL.refl _) rfl ?_
    refine ARun.qv (q_move rfl) rfl ?_
    refine ARun.guard rfl rfl rfl (fun hc => ?_) (fun hc => ?_)
    · rw [orFb hc] at h
      refine ARun.qv (q_load_ptr_all rfl rfl (.next (.next (.next .here))) rfl) rfl ?_
      refine ARun.guard_yes rfl rfl rfl ?_
      refine ARun.qv (q_load_ptr_all rfl rfl (.next (.next .here)) rfl) rfl ?_
      refine ARun.guard_yes rfl rfl rfl ?_
      refine ARun.qv (q_load_ptr_all rfl rfl .here rfl) rfl ?_
      refine ARun.guard_yes rfl rfl rfl ?_
      refine r_callp rfl (Q_onWay_c rfl) (CoL.refl _) rfl ?_
      refine ARun.qv (q_pick_f rfl rfl) rfl ?_
      refine ARun.qv (q_move rfl) rfl ?_
      refine ARun.guard rfl rfl rfl (fun hc => ?_) (fun hc => ?_)
      · rw [orFb hc] at h
        refine ARun.qv (q_load_ptr_all rfl rfl (.next .here) rfl) rfl ?_
        refine ARun.guard_yes rfl rfl rfl ?_
        refine ARun.qv (q_load_ptr_all rfl rfl .here rfl) rfl ?_
        refine ARun.guard_yes rfl rfl rfl ?_
        refine ARun.qv (q_load_ptr_all rfl rfl (.next (.next (.next .here))) rfl) rfl ?_
        refine ARun.guard_yes rfl rfl rfl ?_
        refine r_callp rfl (Q_onWay_c rfl) (CoL.refl _) rfl ?_
        refine ARun.qv (q_pick_f rfl rfl) rfl ?_
        refine ARun.qv (q_move rfl) rfl ?_
        refine ARun.guard rfl rfl rfl (fun hc => ?_) (fun hc => ?_)
        · rw [orFb hc] at h
          refine ARun.qv (q_load_ptr_all rfl rfl (.next .here) rfl) rfl ?_
          refine ARun.guard_yes rfl rfl rfl ?_
          refine ARun.qv (q_load_ptr_all rfl rfl .here rfl) rfl ?_
          refine ARun.guard_yes rfl rfl rfl ?_
          refine ARun.qv (q_load_ptr_all rfl rfl (.next (.next .here)) rfl) rfl ?_
          refine ARun.guard_yes rfl rfl rfl ?_
          refine r_callp rfl (Q_onWay_c rfl) (CoL.refl _) rfl ?_
          refine ARun.qv (q_pick_f rfl rfl) rfl ?_
          refine ARun.nil ?_
          refine ATodo.stop ?_
          exact ImpX.lessP (by exact ⟨rfl, rfl, rfl, rfl, rfl, True.intro⟩) (.cons (.next (.next (.next .here))) (.cons (.next (.next .here)) (.cons (.next .here) (.cons .here .nil)))) (ImpX.here ⟨(Q_onWay p2x0 p3x0 p1x0), h, rfl⟩)
        · rw [orTb hc] at h
          refine ARun.guard_no rfl rfl rfl rfl ?_
          refine ARun.guard_no rfl rfl rfl rfl ?_
          refine ARun.guard_no rfl rfl rfl rfl ?_
          refine ARun.qv (q_pick_t rfl rfl) rfl ?_
          refine ARun.nil ?_
          refine ATodo.stop ?_
          exact ImpX.lessP (by exact ⟨rfl, rfl, rfl, rfl, rfl, True.intro⟩) (.cons (.next (.next (.next .here))) (.cons (.next (.next .here)) (.cons (.next .here) (.cons .here .nil)))) (ImpX.here ⟨true, h, rfl⟩)
      · rw [orTb hc] at h
        refine ARun.guard_no rfl rfl rfl rfl ?_
        refine ARun.guard_no rfl rfl rfl rfl ?_
        refine ARun.guard_no rfl rfl rfl rfl ?_
        refine ARun.qv (q_pick_t rfl rfl) rfl ?_
        refine ARun.qv (q_move rfl) rfl ?_
        refine ARun.guard_no rfl rfl rfl rfl ?_
        refine ARun.guard_no rfl rfl rfl rfl ?_
        refine ARun.guard_no rfl rfl rfl rfl ?_
        refine ARun.guard_no rfl rfl rfl rfl ?_
        refine ARun.qv (q_pick_t rfl rfl) rfl ?_
        refine ARun.nil ?_
        refine ATodo.stop ?_
        exact ImpX.lessP (by exact ⟨rfl, rfl, rfl, rfl, rfl, True.intro⟩) (.cons (.next (.next (.next .here))) (.cons (.next (.next .here)) (.cons (.next .here) (.cons .here .nil)))) (ImpX.here ⟨true, h, rfl⟩)
    · rw [orTb hc] at h
      refine ARun.guard_no rfl rfl rfl rfl ?_
      refine ARun.guard_no rfl rfl rfl rfl ?_
      refine ARun.guard_no rfl rfl rfl rfl ?_
      refine ARun.qv (q_pick_t rfl rfl) rfl ?_
      refine ARun.qv (q_move rfl) rfl ?_
      refine ARun.guard_no rfl rfl rfl rfl ?_
      refine ARun.guard_no rfl rfl rfl rfl ?_
      refine ARun.guard_no rfl rfl rfl rfl ?_
      refine ARun.guard_no rfl rfl rfl rfl ?_
      refine ARun.qv (q_pick_t rfl rfl) rfl ?_
      refine ARun.qv (q_move rfl) rfl ?_
      refine ARun.guard_no rfl rfl rfl rfl ?_
      refine ARun.guard_no rfl rfl rfl rfl ?_
      refine ARun.guard_no rfl rfl rfl rfl ?_
      refine ARun.guard_no rfl rfl rfl rfl ?_
      refine ARun.qv (q_pick_t rfl rfl) rfl ?_
      refine ARun.nil ?_
      refine ATodo.stop ?_
      exact ImpX.lessP (by exact ⟨rfl, rfl, rfl, rfl, rfl, True.intro⟩) (.cons (.next (.next (.next .here))) (.cons (.next (.next .here)) (.cons (.next .here) (.cons .here .nil)))) (ImpX.here ⟨true, h, rfl⟩)
  · rintro σ' ⟨c5, h, rfl⟩
    unfold Q_touches_j1 at h
    refine ATodo.cond rfl (fun hc => ?_) (fun hc => ?_)
    · replace h := iteT hc h
      refine ATodo.seq ?_
      refine ATodo.region ?_
      refine ARun.qv (q_assign rfl) rfl ?_
      refine ARun.nil ?_
      refine ATodo.ret ?_
      obtain rfl := h
      exact ImpX.here ⟨_, .cons (.tmp _ _ rfl) .nil, rfl⟩
    · replace h := iteFb hc h
      refine ATodo.skip ?_
      refine ATodo.seq ?_
      refine ATodo.cut (fun σ' => ∃ (c6 : Bool), Q_touches_j2 c6 = r ∧ σ' = ⟨53, [(8, .bool c6)], []⟩) ?_ ?_
      · refine ATodo.regionM (id := 3) (A := [0, 0, 0, 7, 0, 0, 0, 127, 255, 511, 1023, 2047, 2047, 2047, 16383, 2047, 2047, 2047, 262143, 524287, 1048575, 2097151, 4194303]) 23 mixed rfl (by kernel_rfl) (by kernel_rfl) ?_
        refine AM.qv (q_load_ptr_all rfl rfl .here rfl) rfl ?_
        refine AM.qv (q_load_ptr_all rfl rfl (.next .here) rfl) rfl ?_
        refine AM.qv (q_load_ptr_all rfl rfl (.next (.next .here)) rfl) rfl ?_
        refine AM.callp rfl (Q_side_c rfl) (CoL.refl _) rfl ?_
        refine AM.qv (q_load_ptr_all rfl rfl .here rfl) rfl ?_
        refine AM.qv (q_load_ptr_all rfl rfl (.next .here) rfl) rfl ?_
        refine AM.qv (q_load_ptr_all rfl rfl (.next (.next (.next .here))) rfl) rfl ?_
        refine AM.callp rfl (Q_side_c rfl) (CoL.refl _) rfl ?_
        refine AM.qv (q_mulw rfl rfl) rfl ?_
        refine AM.qv (q_lss rfl rfl) rfl ?_
        refine AM.qv (q_move rfl) rfl ?_
        refine AM.guard_dt rfl rfl rfl (fun hc => ?_) (fun hc => ?_)
        · rw [andTd hc] at h
          refine AM.qv (q_load_ptr_all rfl rfl (.next (.next .here)) rfl) rfl ?_
          refine AM.guard_yes rfl rfl rfl ?_
          refine AM.qv (q_load_ptr_all rfl rfl (.next (.next (.next .here))) rfl) rfl ?_
          refine AM.guard_yes rfl rfl rfl ?_
          refine AM.qv (q_load_ptr_all rfl rfl .here rfl) rfl ?_
          refine AM.guard_yes rfl rfl rfl ?_
          refine AM.callp rfl (Q_side_c rfl) (CoL.refl _) rfl ?_
          refine AM.guard_yes rfl rfl rfl ?_
          refine AM.qv (q_load_ptr_all rfl rfl (.next (.next .here)) rfl) rfl ?_
          refine AM.guard_yes rfl rfl rfl ?_
          refine AM.qv (q_load_ptr_all rfl rfl (.next (.next (.next .here))) rfl) rfl ?_
          refine AM.guard_yes rfl rfl rfl ?_
          refine AM.qv (q_load_ptr_all rfl rfl (.next .here) rfl) rfl ?_
          refine AM.guard_yes rfl rfl rfl ?_
          refine AM.callp rfl (Q_side_c rfl) (CoL.refl _) rfl ?_
          refine AM.guard_yes rfl rfl rfl ?_
          refine AM.qv (q_mulw rfl rfl) rfl ?_
          refine AM.guard_yes rfl rfl rfl ?_
          refine AM.qv (q_lss rfl rfl) rfl ?_
          refine AM.qv (q_pick_t rfl rfl) rfl ?_
          refine AM.qv (q_assign rfl) rfl ?_
          refine AM.nil ?_
          refine ARun.nil ?_
          refine ATodo.stop ?_
          exact ImpX.lessP (by exact ⟨rfl, True.intro⟩) (.nil) (ImpX.here ⟨decide ((w64 ((Q_side p2x0 p3x0 p0x0) * (Q_side p2x0 p3x0 p1x0))) < (0 : Int)), h, rfl⟩)
        · rw [andFd hc] at h
          refine AM.guard_no rfl rfl rfl rfl ?_
          refine AM.guard_no rfl rfl rfl rfl ?_
          refine AM.guard_no rfl rfl rfl rfl ?_
          refine AM.guard_no rfl rfl rfl rfl ?_
          refine AM.guard_no rfl rfl rfl rfl ?_
          refine AM.guard_no rfl rfl rfl rfl ?_
          refine AM.guard_no rfl rfl rfl rfl ?_
          refine AM.guard_no rfl rfl rfl rfl ?_
          refine AM.guard_no rfl rfl rfl rfl ?_
          refine AM.qv (q_pick_f rfl rfl) rfl ?_
          refine AM.qv (q_assign rfl) rfl ?_
          refine AM.nil ?_
          refine ARun.nil ?_
          refine ATodo.stop ?_
          exact ImpX.lessP (by exact ⟨rfl, True.intro⟩) (.nil) (ImpX.here ⟨false, h, rfl⟩)
      · rintro σ' ⟨c6, h, rfl⟩
        unfold Q_touches_j2 at h
        refine ATodo.ret ?_
        obtain rfl := h
        exact ImpX.here ⟨_, .cons (.tmp _ _ rfl) .nil, rfl⟩

set_option maxHeartbeats 4000000 in
theorem Q_CornersFault_c {p0x0 : List Spot} {r : Int} (h : Q_CornersFault p0x0 = some r) : Pu Try.prog 97 [.list 2 (p0x0.map Spot.av)] (I r) := by
  unfold Q_CornersFault at h
  refine ACall.bodyN Try.func97 rfl Try.ntmps97 Try.results97 rfl rfl ?_
  refine ATodo.seq ?_
  refine ATodo.region ?_
  refine ARun.qv (q_assign rfl) rfl ?_
  refine ARun.nil ?_
  refine ATodo.seq ?_
  refine ATodo.block ?_
  refine ATodo.seq ?_
  refine ATodo.region ?_
  refine ARun.qv (q_move rfl) rfl ?_
  refine ARun.qv (t_len rfl) rfl ?_
  refine ARun.qv (q_lss rfl rfl) rfl ?_
  refine ARun.qv (q_assign rfl) rfl ?_
  refine ARun.nil ?_
  refine ATodo.cond_d rfl (fun hc => ?_) (fun hc => ?_)
  · replace h := iteT hc h
    refine ATodo.seq ?_
    refine ATodo.region ?_
    refine ARun.qv (q_assign rfl) rfl ?_
    refine ARun.nil ?_
    refine ATodo.ret ?_
    obtain rfl := Option.some.inj h
    exact ImpX.here ⟨_, .cons (.tmp _ _ rfl) .nil, rfl⟩
  · replace h := iteF hc h
    refine ATodo.seq ?_
    refine ATodo.region ?_
    refine ARun.qv (q_move rfl) rfl ?_
    refine ARun.qv (t_len rfl) rfl ?_
    refine ARun.qv (q_gtr rfl rfl) rfl ?_
    refine ARun.qv (q_assign rfl) rfl ?_
    refine ARun.nil ?_
    refine ATodo.cond_d rfl (fun hc => ?_) (fun hc => ?_)
    · replace h := iteT hc h
      refine ATodo.seq ?_
      refine ATodo.region ?_
      refine ARun.qv (q_assign rfl) rfl ?_
      refine ARun.nil ?_
      refine ATodo.ret ?_
      obtain rfl := Option.some.inj h
      exact ImpX.here ⟨_, .cons (.tmp _ _ rfl) .nil, rfl⟩
    · replace h := iteF hc h
      refine ATodo.skip ?_
      refine ATodo.blk ?_
      refine ATodo.seq ?_
      refine ATodo.seq ?_
      refine ATodo.region ?_
      refine ARun.qv (q_move rfl) rfl ?_
      refine ARun.qv (t_len rfl) rfl ?_
      refine ARun.qv (q_move rfl) rfl ?_
      refine ARun.nil ?_
      refine ATodo.block ?_
      refine ATodo.loopI (fun x : Int => Q_CornersFault_b1 p0x0 x) (fun x σ' => σ' = ⟨90, [(0, .list 2 (p0x0.map Spot.av)), (20, .list 2 (p0x0.map Spot.av)), (21, I (p0x0.length : Int)), (22, I x)], []⟩) h ?_ ?_
      · exact ImpX.lessP (by exact ⟨rfl, rfl, rfl, rfl, True.intro⟩) (.nil) (ImpX.here rfl)
      · intro n2 z1 σ' J1 hmk h hJ1 hA1
        obtain rfl := hmk
        replace h : Q_CornersFault_b1 p0x0 n2 = some z1 := h
        unfold Q_CornersFault_b1 at h
        refine ATodo.seq ?_
        refine ATodo.region ?_
        refine ARun.qv (q_lss rfl rfl) rfl ?_
        refine ARun.nil ?_
        refine ATodo.seq ?_
        refine ATodo.cond_d rfl (fun hc => ?_) (fun hc => ?_)
        · replace h := iteT hc h
          refine ATodo.skip ?_
          refine ATodo.seq ?_
          refine ATodo.block ?_
          refine ATodo.seq ?_
          refine ATodo.region ?_
          refine ARun.qv (q_move rfl) rfl ?_
          obtain ⟨v3, e1, h⟩ := bnd h
          refine ARun.qv (t_index rfl rfl rfl e1 rfl rfl) rfl ?_
          refine ARun.qv (q_load_rptr_agg rfl rfl rfl) rfl ?_
          refine n_alloc rfl rfl rfl rfl (fun b4 => ?_)
          refine ARun.qv (q_assign rfl) rfl ?_
          refine n_store_ptr rfl rfl rfl rfl .here rfl rfl ?_
          refine ARun.nil ?_
          refine ATodo.seq ?_
          refine ATodo.seq ?_
          refine ATodo.region ?_
          refine ARun.qv (q_load_ptr_all rfl rfl .here rfl) rfl ?_
          refine r_callp rfl (Q_SpotFault_c rfl) (CoL.refl _) rfl ?_
          refine ARun.qv (q_assign rfl) rfl ?_
          refine ARun.nil ?_
          refine ATodo.seq ?_
          refine ATodo.region ?_
          refine ARun.qv (q_move rfl) rfl ?_
          refine ARun.qv (q_neq rfl rfl) rfl ?_
          refine ARun.nil ?_
          refine ATodo.cond_d rfl (fun hc => ?_) (fun hc => ?_)
          · replace h := iteT hc h
            refine ATodo.seq ?_
            refine ATodo.region ?_
            refine ARun.qv (q_move rfl) rfl ?_
            refine ARun.qv (q_assign rfl) rfl ?_
            refine ARun.nil ?_
            refine ATodo.ret ?_
            replace h := outL h hA1
            obtain rfl := Option.some.inj h
            exact ImpX.here ⟨_, .cons (.tmp _ _ rfl) .nil, rfl⟩
          · replace h := iteF hc h
            refine ATodo.skip ?_
            refine ATodo.seq ?_
            refine ATodo.regionM (id := 11) (A := [0, 0, 3, 0, 15]) 5 mixed rfl (by kernel_rfl) (by kernel_rfl) ?_
            refine AM.qv (q_move rfl) rfl ?_
            refine AM.qv (q_move rfl) rfl ?_
            obtain ⟨l5, e2, h⟩ := bnd h
            refine AM.qv (t_slice_list rfl rfl .none (.some _ _ _ rfl) rfl rfl e2) rfl ?_
            refine AM.qv (q_load_ptr_all rfl rfl .here rfl) rfl ?_
            obtain ⟨v6, e3, h⟩ := bnd h
            refine AM.callp rfl (slices_Contains_Spot_Spot_c e3) (CoL.refl _) rfl ?_
            refine AM.nil ?_
            refine ARun.nil ?_
            refine ATodo.cond rfl (fun hc => ?_) (fun hc => ?_)
            · replace h := iteT hc h
              refine ATodo.seq ?_
              refine ATodo.region ?_
              refine ARun.qv (q_assign rfl) rfl ?_
              refine ARun.nil ?_
              refine ATodo.ret ?_
              replace h := outL h hA1
              obtain rfl := Option.some.inj h
              exact ImpX.here ⟨_, .cons (.tmp _ _ rfl) .nil, rfl⟩
            · replace h := iteFb hc h
              refine ATodo.skip ?_
              refine ATodo.blk ?_
              refine ATodo.region ?_
              refine ARun.qv (q_addw rfl rfl) rfl ?_
              refine ARun.qv (q_move rfl) rfl ?_
              refine ARun.nil ?_
              refine ATodo.stop ?_
              obtain rfl := Option.some.inj h
              refine hJ1 _ _ rfl ?_
              exact ImpX.lessP (by exact ⟨rfl, rfl, rfl, rfl, True.intro⟩) (.nil) (ImpX.here rfl)
        · replace h := iteF hc h
          refine ATodo.exit rfl ?_
          replace h := outL h hA1
          refine ATodo.seq ?_
          refine ATodo.seq ?_
          refine ATodo.region ?_
          refine ARun.qv (q_move rfl) rfl ?_
          refine ARun.qv (t_len rfl) rfl ?_
          refine ARun.qv (q_move rfl) rfl ?_
          refine ARun.nil ?_
          refine ATodo.block ?_
          refine ATodo.loopI (fun x : Int => Q_CornersFault_b2 p0x0 x) (fun x σ' => σ' = ⟨90, [(0, .list 2 (p0x0.map Spot.av)), (39, I (p0x0.length : Int)), (40, I x)], []⟩) h ?_ ?_
          · exact ImpX.lessP (by exact ⟨rfl, rfl, rfl, True.intro⟩) (.nil) (ImpX.here rfl)
          · intro n8 z2 σ' J2 hmk h hJ2 hA2
            obtain rfl := hmk
            replace h : Q_CornersFault_b2 p0x0 n8 = some z2 := h
            unfold Q_CornersFault_b2 at h
            refine ATodo.seq ?_
            refine ATodo.region ?_
            refine ARun.qv (q_lss rfl rfl) rfl ?_
            refine ARun.nil ?_
            refine ATodo.seq ?_
            refine ATodo.cond_d rfl (fun hc => ?_) (fun hc => ?_)
            · replace h := iteT hc h
              refine ATodo.skip ?_
              refine ATodo.seq ?_
              refine ATodo.block ?_
              refine ATodo.seq ?_
              refine ATodo.region ?_
              refine ARun.qv (q_move rfl) rfl ?_
              refine ARun.qv (q_assign rfl) rfl ?_
              refine ARun.nil ?_
              refine ATodo.seq ?_
              refine ATodo.region ?_
              refine ARun.qv (q_move rfl) rfl ?_
              refine ARun.qv (q_move rfl) rfl ?_
              obtain ⟨v9, e4, h⟩ := bnd h
              refine r_callp rfl (Q_edge_c e4) (CoL.refl _) rfl ?_
              refine ARun.qv (q_move rfl) rfl ?_
              refine ARun.qv (q_extract rfl rfl) rfl ?_
              refine ARun.qv (q_extract rfl rfl) rfl ?_
              refine n_alloc rfl rfl rfl rfl (fun b10 => ?_)
              refine n_alloc rfl rfl rfl rfl (fun b11 => ?_)
              refine n_store_ptr rfl rfl rfl rfl (.next .here) rfl rfl ?_
              refine n_store_ptr rfl rfl rfl rfl .here rfl rfl ?_
              refine ARun.nil ?_
              refine ATodo.seq ?_
              refine ATodo.region ?_
              refine ARun.qv (q_move rfl) rfl ?_
              refine ARun.qv (t_len rfl) rfl ?_
              refine ARun.qv (q_move rfl) rfl ?_
              refine ARun.nil ?_
              refine ATodo.block ?_
              refine ATodo.loopI (fun x : Int => Q_CornersFault_b3 p0x0 n8 v9 x) (fun x σ' => σ' = ⟨90, [(0, .list 2 (p0x0.map Spot.av)), (6, I n8), (7, .ptr b10 0), (8, .ptr b11 0), (39, I (p0x0.length : Int)), (40, I n8), (50, I (p0x0.length : Int)), (51, I x)], [(b10, .cells [I v9.1.X, I v9.1.Y]), (b11, .cells [I v9.2.X, I v9.2.Y])]⟩) h ?_ ?_
              · exact ImpX.lessP (by exact ⟨rfl, rfl, rfl, rfl, rfl, rfl, rfl, rfl, True.intro⟩) (.cons (.next .here) (.cons .here .nil)) (ImpX.here rfl)
              · intro n13 z3 σ' J3 hmk h hJ3 hA3
                obtain rfl := hmk
                replace h : Q_CornersFault_b3 p0x0 n8 v9 n13 = some z3 := h
                unfold Q_CornersFault_b3 at h
                refine ATodo.seq ?_
                refine ATodo.region ?_
                refine ARun.qv (q_lss rfl rfl) rfl ?_
                refine ARun.nil ?_
                refine ATodo.seq ?_
                refine ATodo.cond_d rfl (fun hc => ?_) (fun hc => ?_)
                · replace h := iteT hc h
                  refine ATodo.skip ?_
                  refine ATodo.seq ?_
                  refine ATodo.block ?_
                  refine ATodo.seq ?_
                  refine ATodo.region ?_
                  refine ARun.qv (q_move rfl) rfl ?_
                  refine ARun.qv (q_assign rfl) rfl ?_
                  refine ARun.nil ?_
                  refine ATodo.seq ?_
                  refine ATodo.region ?_
                  refine ARun.qv (q_move rfl) rfl ?_
                  refine ARun.qv (q_move rfl) rfl ?_
                  obtain ⟨v14, e5, h⟩ := bnd h
                  refine r_callp rfl (Q_edge_c e5) (CoL.refl _) rfl ?_
                  refine ARun.qv (q_move rfl) rfl ?_
                  refine ARun.qv (q_extract rfl rfl) rfl ?_
                  refine ARun.qv (q_extract rfl rfl) rfl ?_
                  refine n_alloc rfl rfl rfl rfl (fun b15 => ?_)
                  refine n_alloc rfl rfl rfl rfl (fun b16 => ?_)
                  refine n_store_ptr rfl rfl rfl rfl (.next .here) rfl rfl ?_
                  refine n_store_ptr rfl rfl rfl rfl .here rfl rfl ?_
                  refine ARun.nil ?_
                  refine ATodo.block ?_
                  refine ATodo.seq ?_
                  refine ATodo.region ?_
                  refine ARun.qv (q_move rfl) rfl ?_
                  refine ARun.qv (q_move rfl) rfl ?_
                  refine ARun.qv (q_eql rfl rfl) rfl ?_
                  refine ARun.qv (q_assign rfl) rfl ?_
                  refine ARun.nil ?_
                  refine ATodo.cut (fun σ' => Q_CornersFault_j1 n13 = some z3 ∧ σ' = ⟨90, [(0, .list 2 (p0x0.map Spot.av)), (6, I n8), (7, .ptr b10 0), (8, .ptr b11 0), (39, I (p0x0.length : Int)), (40, I n8), (50, I (p0x0.length : Int)), (51, I n13)], [(b10, .cells [I v9.1.X, I v9.1.Y]), (b11, .cells [I v9.2.X, I v9.2.Y])]⟩) ?_ ?_
                  · refine ATodo.cond_d rfl (fun hc => ?_) (fun hc => ?_)
                    · replace h := iteT hc h
                      refine ATodo.skip ?_
                      refine ATodo.stop ?_
                      exact ImpX.lessP (by exact ⟨rfl, rfl, rfl, rfl, rfl, rfl, rfl, rfl, True.intro⟩) (.cons (.next (.next .here)) (.cons (.next (.next .here)) .nil)) (ImpX.here ⟨h, rfl⟩)
                    · replace h := iteF hc h
                      refine ATodo.seq ?_
                      refine ATodo.region ?_
                      refine ARun.qv (q_load_ptr_all rfl rfl (.next (.next (.next .here))) rfl) rfl ?_
                      refine ARun.qv (q_load_ptr_all rfl rfl (.next .here) rfl) rfl ?_
                      refine ARun.qv (t_teq (g := Spot.av) (X := v9.2) (Y := v14.1) rfl rfl rfl rfl rfl) rfl ?_
                      refine ARun.qv (q_assign rfl) rfl ?_
                      refine ARun.nil ?_
                      refine ATodo.cut (fun σ' => Q_CornersFault_j2 n13 = some z3 ∧ σ' = ⟨90, [(0, .list 2 (p0x0.map Spot.av)), (6, I n8), (7, .ptr b10 0), (8, .ptr b11 0), (39, I (p0x0.length : Int)), (40, I n8), (50, I (p0x0.length : Int)), (51, I n13)], [(b10, .cells [I v9.1.X, I v9.1.Y]), (b11, .cells [I v9.2.X, I v9.2.Y])]⟩) ?_ ?_
                      · refine ATodo.cond_d rfl (fun hc => ?_) (fun hc => ?_)
                        · replace h := iteT hc h
                          refine ATodo.seq ?_
                          refine ATodo.cut (fun σ' => ∃ (c17 : Bool), Q_CornersFault_j3 n13 c17 = some z3 ∧ σ' = ⟨90, [(0, .list 2 (p0x0.map Spot.av)), (6, I n8), (7, .ptr b10 0), (8, .ptr b11 0), (39, I (p0x0.length : Int)), (40, I n8), (50, I (p0x0.length : Int)), (51, I n13), (77, .bool c17)], [(b10, .cells [I v9.1.X, I v9.1.Y]), (b11, .cells [I v9.2.X, I v9.2.Y])]⟩) ?_ ?_
                          · refine ATodo.region ?_
                            refine ARun.qv (q_load_ptr_all rfl rfl (.next (.next .here)) rfl) rfl ?_
                            refine ARun.qv (q_load_ptr_all rfl rfl (.next (.next (.next .here))) rfl) rfl ?_
                            refine ARun.qv (q_load_ptr_all rfl rfl .here rfl) rfl ?_
                            refine r_callp rfl (Q_onWay_c rfl) (CoL.refl _) rfl ?_
                            refine ARun.qv (q_move rfl) rfl ?_
                            refine ARun.guard rfl rfl rfl (fun hc => ?_) (fun hc => ?_)
                            · rw [orFb hc] at h
                              refine ARun.qv (q_load_ptr_all rfl rfl (.next .here) rfl) rfl ?_
                              refine ARun.guard_yes rfl rfl rfl ?_
                              refine ARun.qv (q_load_ptr_all rfl rfl .here rfl) rfl ?_
                              refine ARun.guard_yes rfl rfl rfl ?_
                              refine ARun.qv (q_load_ptr_all rfl rfl (.next (.next .here)) rfl) rfl ?_
                              refine ARun.guard_yes rfl rfl rfl ?_
                              refine r_callp rfl (Q_onWay_c rfl) (CoL.refl _) rfl ?_
                              refine ARun.qv (q_pick_f rfl rfl) rfl ?_
                              refine ARun.nil ?_
                              refine ATodo.stop ?_
                              exact ImpX.lessP (by exact ⟨rfl, rfl, rfl, rfl, rfl, rfl, rfl, rfl, rfl, True.intro⟩) (.cons (.next (.next .here)) (.cons (.next (.next .here)) .nil)) (ImpX.here ⟨(Q_onWay v14.1 v14.2 v9.1), h, rfl⟩)
                            · rw [orTb hc] at h
                              refine ARun.guard_no rfl rfl rfl rfl ?_
                              refine ARun.guard_no rfl rfl rfl rfl ?_
                              refine ARun.guard_no rfl rfl rfl rfl ?_
                              refine ARun.qv (q_pick_t rfl rfl) rfl ?_
                              refine ARun.nil ?_
                              refine ATodo.stop ?_
                              exact ImpX.lessP (by exact ⟨rfl, rfl, rfl, rfl, rfl, rfl, rfl, rfl, rfl, True.intro⟩) (.cons (.next (.next .here)) (.cons (.next (.next .here)) .nil)) (ImpX.here ⟨true, h, rfl⟩)
                          · rintro σ' ⟨c17, h, rfl⟩
                            unfold Q_CornersFault_j3 at h
                            refine ATodo.cond rfl (fun hc => ?_) (fun hc => ?_)
                            · replace h := iteT hc h
                              refine ATodo.seq ?_
                              refine ATodo.region ?_
                              refine ARun.qv (q_assign rfl) rfl ?_
                              refine ARun.nil ?_
                              refine ATodo.ret ?_
                              replace h := outL h hA3
                              replace h := outL h hA2
                              obtain rfl := Option.some.inj h
                              exact ImpX.here ⟨_, .cons (.tmp _ _ rfl) .nil, rfl⟩
                            · replace h := iteFb hc h
                              refine ATodo.skip ?_
                              refine ATodo.stop ?_
                              exact ImpX.lessP (by exact ⟨rfl, rfl, rfl, rfl, rfl, rfl, rfl, rfl, True.intro⟩) (.cons .here (.cons .here .nil)) (ImpX.here ⟨h, rfl⟩)
                        · replace h := iteF hc h
                          refine ATodo.seq ?_
                          refine ATodo.region ?_
                          refine ARun.qv (q_load_ptr_all rfl rfl .here rfl) rfl ?_
                          refine ARun.qv (q_load_ptr_all rfl rfl (.next (.next .here)) rfl) rfl ?_
                          refine ARun.qv (t_teq (g := Spot.av) (X := v14.2) (Y := v9.1) rfl rfl rfl rfl rfl) rfl ?_
                          refine ARun.qv (q_assign rfl) rfl ?_
                          refine ARun.nil ?_
                          refine ATodo.cut (fun σ' => Q_CornersFault_j4 n13 = some z3 ∧ σ' = ⟨90, [(0, .list 2 (p0x0.map Spot.av)), (6, I n8), (7, .ptr b10 0), (8, .ptr b11 0), (39, I (p0x0.length : Int)), (40, I n8), (50, I (p0x0.length : Int)), (51, I n13)], [(b10, .cells [I v9.1.X, I v9.1.Y]), (b11, .cells [I v9.2.X, I v9.2.Y])]⟩) ?_ ?_
                          · refine ATodo.cond_d rfl (fun hc => ?_) (fun hc => ?_)
                            · replace h := iteT hc h
                              refine ATodo.skip ?_
                              refine ATodo.stop ?_
                              exact ImpX.lessP (by exact ⟨rfl, rfl, rfl, rfl, rfl, rfl, rfl, rfl, True.intro⟩) (.cons (.next (.next .here)) (.cons (.next (.next .here)) .nil)) (ImpX.here ⟨h, rfl⟩)
                            · replace h := iteF hc h
                              refine ATodo.seq ?_
                              refine ATodo.region ?_
                              refine ARun.qv (q_load_ptr_all rfl rfl (.next (.next .here)) rfl) rfl ?_
                              refine ARun.qv (q_load_ptr_all rfl rfl (.next (.next (.next .here))) rfl) rfl ?_
                              refine ARun.qv (q_load_ptr_all rfl rfl (.next .here) rfl) rfl ?_
                              refine ARun.qv (q_load_ptr_all rfl rfl .here rfl) rfl ?_
                              refine r_callp rfl (Q_touches_c rfl) (CoL.refl _) rfl ?_
                              refine ARun.qv (q_assign rfl) rfl ?_
                              refine ARun.nil ?_
                              refine ATodo.cond rfl (fun hc => ?_) (fun hc => ?_)
                              · replace h := iteT hc h
                                refine ATodo.seq ?_
                                refine ATodo.region ?_
                                refine ARun.qv (q_assign rfl) rfl ?_
                                refine ARun.nil ?_
                                refine ATodo.ret ?_
                                replace h := outL h hA3
                                replace h := outL h hA2
                                obtain rfl := Option.some.inj h
                                exact ImpX.here ⟨_, .cons (.tmp _ _ rfl) .nil, rfl⟩
                              · replace h := iteFb hc h
                                refine ATodo.skip ?_
                                refine ATodo.stop ?_
                                exact ImpX.lessP (by exact ⟨rfl, rfl, rfl, rfl, rfl, rfl, rfl, rfl, True.intro⟩) (.cons (.next (.next .here)) (.cons (.next (.next .here)) .nil)) (ImpX.here ⟨h, rfl⟩)
                          · rintro σ' ⟨h, rfl⟩
                            unfold Q_CornersFault_j4 at h
                            refine ATodo.stop ?_
                            exact ImpX.lessP (by exact ⟨rfl, rfl, rfl, rfl, rfl, rfl, rfl, rfl, True.intro⟩) (.cons .here (.cons .here .nil)) (ImpX.here ⟨h, rfl⟩)
                      · rintro σ' ⟨h, rfl⟩
                        unfold Q_CornersFault_j2 at h
                        refine ATodo.stop ?_
                        exact ImpX.lessP (by exact ⟨rfl, rfl, rfl, rfl, rfl, rfl, rfl, rfl, True.intro⟩) (.cons .here (.cons .here .nil)) (ImpX.here ⟨h, rfl⟩)
                  · rintro σ' ⟨h, rfl⟩
                    unfold Q_CornersFault_j1 at h
                    refine ATodo.blk ?_
                    refine ATodo.blk ?_
                    refine ATodo.region ?_
                    refine ARun.qv (q_addw rfl rfl) rfl ?_
                    refine ARun.qv (q_move rfl) rfl ?_
                    refine ARun.nil ?_
                    refine ATodo.stop ?_
                    obtain rfl := Option.some.inj h
                    refine hJ3 _ _ rfl ?_
                    exact ImpX.lessP (by exact ⟨rfl, rfl, rfl, rfl, rfl, rfl, rfl, rfl, True.intro⟩) (.cons .here (.cons .here .nil)) (ImpX.here rfl)
                · replace h := iteF hc h
                  refine ATodo.exit rfl ?_
                  replace h := outL h hA3
                  refine ATodo.blk ?_
                  refine ATodo.region ?_
                  refine ARun.qv (q_addw rfl rfl) rfl ?_
                  refine ARun.qv (q_move rfl) rfl ?_
                  refine ARun.nil ?_
                  refine ATodo.stop ?_
                  obtain rfl := Option.some.inj h
                  refine hJ2 _ _ rfl ?_
                  exact ImpX.lessP (by exact ⟨rfl, rfl, rfl, True.intro⟩) (.nil) (ImpX.here rfl)
            · replace h := iteF hc h
              refine ATodo.exit rfl ?_
              replace h := outL h hA2
              refine ATodo.seq ?_
              refine ATodo.region ?_
              refine ARun.qv (q_assign rfl) rfl ?_
              refine ARun.nil ?_
              refine ATodo.ret ?_
              obtain rfl := Option.some.inj h
              exact ImpX.here ⟨_, .cons (.tmp _ _ rfl) .nil, rfl⟩

set_option maxHeartbeats 4000000 in
theorem Stream_RightFence_c {b_0 : Bk} {p0x0 : Fleetmake_Stream} {r : FenceS × Fleetmake_Stream} (h : Stream_RightFence p0x0 = some r) : ACall Try.prog 90 [.ptr b_0 0] [(b_0, .cells [.list 1 (p0x0.L.map I), I p0x0.at_])] (T0 ([(b_0, .cells [.list 1 (r.2.L.map I), I r.2.at_])]) (.agg [.str r.1.Key, .list 2 (r.1.Corners.map Spot.av)])) := by
  unfold Stream_RightFence at h
  refine ACall.lessH ?_
  refine ACall.bodyN Try.func90 rfl Try.ntmps90 Try.results90 rfl rfl ?_
  refine ATodo.seq ?_
  refine ATodo.region ?_
  refine n_alloc rfl rfl rfl rfl (fun b1 => ?_)
  refine ARun.nil ?_
  refine ATodo.seq ?_
  refine ATodo.region ?_
  refine ARun.qv (n_build rfl rfl rfl rfl rfl) rfl ?_
  refine ARun.qv (n_build rfl rfl rfl rfl rfl) rfl ?_
  refine ARun.qv (n_build rfl rfl rfl rfl rfl) rfl ?_
  refine ARun.qv (n_build rfl rfl rfl rfl rfl) rfl ?_
  refine n_buildSliceL (xs := ([(⟨(0 : Int), (0 : Int)⟩ : Spot), (⟨(10 : Int), (0 : Int)⟩ : Spot), (⟨(10 : Int), (10 : Int)⟩ : Spot), (⟨(0 : Int), (10 : Int)⟩ : Spot)]).map Spot.av) rfl rfl rfl rfl rfl rfl ?_
  refine ARun.qv (n_build rfl rfl rfl rfl rfl) rfl ?_
  refine n_alloc rfl rfl rfl rfl (fun b2 => ?_)
  refine n_store_ptr rfl rfl rfl rfl .here rfl rfl ?_
  refine ARun.nil ?_
  refine ATodo.seq ?_
  refine ATodo.seq ?_
  refine ATodo.region ?_
  refine ARun.qv (q_move rfl) rfl ?_
  refine ARun.nil ?_
  refine ATodo.block ?_
  refine ATodo.loopI (fun x : (List Int) × Int × Int => Stream_RightFence_b1 x.1 x.2.1 x.2.2) (fun x σ' => σ' = ⟨82, [(0, .ptr b_0 0), (2, .ptr b1 0), (3, .ptr b2 0), (12, I x.2.2)], [(b_0, .cells [.list 1 (x.1.map I), I x.2.1]), (b1, .cells [.str [], .nil]), (b2, .cells [.str ([102] : Str), .list 2 ([(⟨(0 : Int), (0 : Int)⟩ : Spot), (⟨(10 : Int), (0 : Int)⟩ : Spot), (⟨(10 : Int), (10 : Int)⟩ : Spot), (⟨(0 : Int), (10 : Int)⟩ : Spot)].map Spot.av)])]⟩) h ?_ ?_
  · exact ImpX.lessP (by exact ⟨rfl, rfl, rfl, rfl, True.intro⟩) (.cons (.next (.next .here)) (.cons (.next .here) (.cons .here .nil))) (ImpX.here rfl)
  · intro x z1 σ' J1 hmk h hJ1 hA1
    obtain ⟨l6, n7, n8⟩ := x
    obtain rfl := hmk
    replace h : Stream_RightFence_b1 l6 n7 n8 = some z1 := h
    unfold Stream_RightFence_b1 at h
    refine ATodo.seq ?_
    refine ATodo.region ?_
    refine ARun.qv (q_lss rfl rfl) rfl ?_
    refine ARun.nil ?_
    refine ATodo.seq ?_
    refine ATodo.cond_d rfl (fun hc => ?_) (fun hc => ?_)
    · replace h := iteT hc h
      refine ATodo.skip ?_
      refine ATodo.seq ?_
      refine ATodo.block ?_
      refine ATodo.seq ?_
      refine ATodo.region ?_
      refine ARun.qv (q_assign rfl) rfl ?_
      refine ARun.nil ?_
      refine ATodo.seq ?_
      refine ATodo.seq ?_
      refine ATodo.region ?_
      refine ARun.qv (q_move rfl) rfl ?_
      obtain ⟨v9, e1, h⟩ := bnd h
      refine t_call0 rfl (Stream_Range_c e1) (CoL.refl _) (.cons .here .nil) rfl rfl ?_
      refine ARun.qv (q_move rfl) rfl ?_
      refine ARun.nil ?_
      refine ATodo.block ?_
      refine ATodo.loopI (fun x : (List Int) × Int × (List Spot) × Int => Stream_RightFence_b2 n8 v9 x.1 x.2.1 x.2.2.1 x.2.2.2) (fun x σ' => ∃ (b17 : Bk), σ' = ⟨82, [(0, .ptr b_0 0), (2, .ptr b1 0), (3, .ptr b2 0), (4, .sl 2 b17 0 x.2.2.1.length), (12, I n8), (15, I v9.1), (16, I x.2.2.2)], [(b_0, .cells [.list 1 (x.1.map I), I x.2.1]), (b1, .cells [.str [], .nil]), (b2, .cells [.str ([102] : Str), .list 2 ([(⟨(0 : Int), (0 : Int)⟩ : Spot), (⟨(10 : Int), (0 : Int)⟩ : Spot), (⟨(10 : Int), (10 : Int)⟩ : Spot), (⟨(0 : Int), (10 : Int)⟩ : Spot)].map Spot.av)]), (b17, .arr 2 (x.2.2.1.map Spot.av))]⟩) h ?_ ?_
      · refine ImpX.arr (s := 4) 2 rfl (fun b20 => ?_)
        exact ImpX.lessP (by exact ⟨rfl, rfl, rfl, rfl, rfl, rfl, rfl, True.intro⟩) (.cons (.next .here) (.cons (.next .here) (.cons (.next .here) (.cons .here .nil)))) (ImpX.here ⟨b20, rfl⟩)
      · intro x z2 σ' J2 hmk h hJ2 hA2
        obtain ⟨l15, n16, l18, n19⟩ := x
        obtain ⟨b17, rfl⟩ := hmk
        replace h : Stream_RightFence_b2 n8 v9 l15 n16 l18 n19 = some z2 := h
        unfold Stream_RightFence_b2 at h
        refine ATodo.seq ?_
        refine ATodo.region ?_
        refine ARun.qv (q_lss rfl rfl) rfl ?_
        refine ARun.nil ?_
        refine ATodo.seq ?_
        refine ATodo.cond_d rfl (fun hc => ?_) (fun hc => ?_)
        · replace h := iteT hc h
          refine ATodo.skip ?_
          refine ATodo.seq ?_
          refine ATodo.block ?_
          refine ATodo.region ?_
          refine ARun.qv (q_move rfl) rfl ?_
          refine ARun.qv (q_move rfl) rfl ?_
          obtain ⟨v21, e2, h⟩ := bnd h
          refine t_call0 rfl (Stream_Place_c e2) (CoL.refl _) (.cons .here .nil) rfl rfl ?_
          refine n_buildSliceL (xs := ([v21.1] : List Spot).map Spot.av) rfl rfl rfl rfl rfl rfl ?_
          obtain ⟨l22, e3, h⟩ := bnd h
          refine t_append (g := Spot.av) rfl rfl rfl rfl rfl rfl rfl rfl (.list _) e3 (fun _ => (.next (.next (.next .here)))) rfl (fun b23 => ?_)
          refine ARun.qv (q_assign rfl) rfl ?_
          refine ARun.nil ?_
          refine ATodo.blk ?_
          refine ATodo.region ?_
          refine ARun.qv (q_addw rfl rfl) rfl ?_
          refine ARun.qv (q_move rfl) rfl ?_
          refine ARun.nil ?_
          refine ATodo.stop ?_
          obtain rfl := Option.some.inj h
          refine hJ2 _ _ rfl ?_
          exact ImpX.lessP (by exact ⟨rfl, rfl, rfl, rfl, rfl, rfl, rfl, True.intro⟩) (.cons .here (.cons .here (.cons .here (.cons .here .nil)))) (ImpX.here ⟨b23, rfl⟩)
        · replace h := iteF hc h
          refine ATodo.exit rfl ?_
          replace h := outL h hA2
          unfold Stream_RightFence_k2 at h
          refine ATodo.seq ?_
          refine ATodo.seq ?_
          refine ATodo.region ?_
          refine ARun.qv (q_move rfl) rfl ?_
          obtain ⟨v24, e4, h⟩ := bnd h
          refine t_call0 rfl (Stream_Flip_c e4) (CoL.refl _) (.cons .here .nil) rfl rfl ?_
          refine ARun.nil ?_
          refine ATodo.cut (fun σ' => ∃ (l25 : List Int) (n26 : Int) (l27 : List Spot), Stream_RightFence_j1 n8 l25 n26 l27 = some z1 ∧ σ' = ⟨82, [(0, .ptr b_0 0), (2, .ptr b1 0), (3, .ptr b2 0), (4, .sl 2 b17 0 l27.length), (12, I n8)], [(b_0, .cells [.list 1 (l25.map I), I n26]), (b1, .cells [.str [], .nil]), (b2, .cells [.str ([102] : Str), .list 2 ([(⟨(0 : Int), (0 : Int)⟩ : Spot), (⟨(10 : Int), (0 : Int)⟩ : Spot), (⟨(10 : Int), (10 : Int)⟩ : Spot), (⟨(0 : Int), (10 : Int)⟩ : Spot)].map Spot.av)]), (b17, .arr 2 (l27.map Spot.av))]⟩) ?_ ?_
          · refine ATodo.cond rfl (fun hc => ?_) (fun hc => ?_)
            · replace h := iteT hc h
              refine ATodo.seq ?_
              refine ATodo.region ?_
              refine ARun.qv (q_move rfl) rfl ?_
              refine ARun.qv (t_len_sl rfl) rfl ?_
              refine ARun.qv (q_move rfl) rfl ?_
              refine ARun.nil ?_
              refine ATodo.block ?_
              refine ATodo.loopI (fun x : (List Int) × Int × (List Spot) × Int => Stream_RightFence_b3 n8 l18 x.1 x.2.1 x.2.2.1 x.2.2.2) (fun x σ' => σ' = ⟨82, [(0, .ptr b_0 0), (2, .ptr b1 0), (3, .ptr b2 0), (4, .sl 2 b17 0 x.2.2.1.length), (12, I n8), (27, I (l18.length : Int)), (28, I x.2.2.2)], [(b_0, .cells [.list 1 (x.1.map I), I x.2.1]), (b1, .cells [.str [], .nil]), (b2, .cells [.str ([102] : Str), .list 2 ([(⟨(0 : Int), (0 : Int)⟩ : Spot), (⟨(10 : Int), (0 : Int)⟩ : Spot), (⟨(10 : Int), (10 : Int)⟩ : Spot), (⟨(0 : Int), (10 : Int)⟩ : Spot)].map Spot.av)]), (b17, .arr 2 (x.2.2.1.map Spot.av))]⟩) h ?_ ?_
              · exact ImpX.lessP (by exact ⟨rfl, rfl, rfl, rfl, rfl, rfl, rfl, True.intro⟩) (.cons .here (.cons .here (.cons .here (.cons .here .nil)))) (ImpX.here rfl)
              · intro x z3 σ' J3 hmk h hJ3 hA3
                obtain ⟨l32, n33, l34, n35⟩ := x
                obtain rfl := hmk
                replace h : Stream_RightFence_b3 n8 l18 l32 n33 l34 n35 = some z3 := h
                unfold Stream_RightFence_b3 at h
                refine ATodo.seq ?_
                refine ATodo.region ?_
                refine ARun.qv (q_lss rfl rfl) rfl ?_
                refine ARun.nil ?_
                refine ATodo.seq ?_
                refine ATodo.cond_d rfl (fun hc => ?_) (fun hc => ?_)
                · replace h := iteT hc h
                  refine ATodo.skip ?_
                  refine ATodo.seq ?_
                  refine ATodo.block ?_
                  refine ATodo.seq ?_
                  refine ATodo.region ?_
                  refine ARun.qv (q_move rfl) rfl ?_
                  refine ARun.qv (q_assign rfl) rfl ?_
                  refine ARun.nil ?_
                  obtain ⟨v36, e5, h⟩ := bnd h
                  obtain ⟨v37, e6, h⟩ := bnd h
                  refine ATodo.regionT (id := 13) (A := [0, 0, 3, 7, 15, 0, 0, 96, 255, 511, 1023, 2047]) (H0 := [(b_0, .cells [.list 1 (l32.map I), I n33])]) (HH := fun β => [(b_0, .cells [.list 1 (v37.2.L.map I), I v37.2.at_]), (b1, .cells [.str [], .nil]), (b2, .cells [.str ([102] : Str), .list 2 ([(⟨(0 : Int), (0 : Int)⟩ : Spot), (⟨(10 : Int), (0 : Int)⟩ : Spot), (⟨(10 : Int), (10 : Int)⟩ : Spot), (⟨(0 : Int), (10 : Int)⟩ : Spot)].map Spot.av)]), (b17, .arr 2 (l34.map Spot.av))]) 8 mixed rfl (by kernel_rfl) (by kernel_rfl) [⟨none, some 7, [], fun _ => (b_0, .cells [.list 1 (l32.map I), I n33]), none⟩, ⟨some 7, none, [], fun _ => (b_0, .cells [.list 1 (v37.2.L.map I), I v37.2.at_]), none⟩] [] rfl (by kernel_rfl) rfl (.cons .here .nil) (fun _ => rfl) ?_
                  refine AT.am 7 rfl rfl ?_
                  refine AM.qv (q_move rfl) rfl ?_
                  refine AM.qv (q_move rfl) rfl ?_
                  refine AM.qv (t_index_sl rfl rfl rfl e5) rfl ?_
                  refine AM.qv (t_field_aptr rfl rfl) rfl ?_
                  refine AM.qv (t_load_aptr (g := Spot.av) rfl rfl (.inl (.next (.next .here))) e5 rfl) rfl ?_
                  refine AM.qv (q_move rfl) rfl ?_
                  refine AM.buildSliceL (xs := ([(1 : Int), (100 : Int), (-400 : Int)]).map I) rfl rfl rfl rfl rfl rfl ?_
                  refine AM.nil ?_
                  refine AT.runS (av := I v37.1) (Ti := [(b_0, .cells [.list 1 (l32.map I), I n33])]) (Pi := [(b_0, .cells [.list 1 (v37.2.L.map I), I v37.2.at_])]) (fun _ => rfl) (fun _ => rfl) (fun _ => rfl) rfl rfl rfl ?_ ?_
                  · refine t_call0 rfl (Stream_Pick_c e6) (CoL.refl _) (.cons .here .nil) rfl rfl ?_
                    exact ARun.nil ⟨_, rfl, rfl⟩
                  refine AT.nilN (fun _ => rfl) (fun β => ?_)
                  refine ARun.qv (q_mulw rfl rfl) rfl ?_
                  obtain ⟨v38, e7, h⟩ := bnd h
                  refine ARun.qv (t_index_sl rfl rfl rfl e7) rfl ?_
                  refine ARun.qv (t_field_aptr rfl rfl) rfl ?_
                  refine t_store_aptr1 (g := Spot.av) (el' := (⟨w64 (v36.X * v37.1), v38.Y⟩ : Spot)) rfl rfl rfl rfl e7 rfl (.next (.next (.next .here))) rfl ?_
                  refine ARun.ghost (ImpX.eqs (s := 4) (av' := .sl 2 b17 0 (l34.set n35.toNat (⟨w64 (v36.X * v37.1), v38.Y⟩ : Spot)).length) rfl (by rw [List.length_set]) (ImpX.here ?_))
                  refine ARun.ghost (ImpX.eqs (s := 31) (av' := .sl 2 b17 0 (l34.set n35.toNat (⟨w64 (v36.X * v37.1), v38.Y⟩ : Spot)).length) rfl (by rw [List.length_set]) (ImpX.here ?_))
                  refine ARun.nil ?_
                  refine ATodo.blk ?_
                  refine ATodo.region ?_
                  refine ARun.qv (q_addw rfl rfl) rfl ?_
                  refine ARun.qv (q_move rfl) rfl ?_
                  refine ARun.nil ?_
                  refine ATodo.stop ?_
                  obtain rfl := Option.some.inj h
                  refine hJ3 _ _ rfl ?_
                  exact ImpX.lessP (by exact ⟨rfl, rfl, rfl, rfl, rfl, rfl, rfl, True.intro⟩) (.cons .here (.cons .here (.cons .here (.cons .here .nil)))) (ImpX.here rfl)
                · replace h := iteF hc h
                  refine ATodo.exit rfl ?_
                  replace h := outL h hA3
                  refine ATodo.stop ?_
                  exact ImpX.lessP (by exact ⟨rfl, rfl, rfl, rfl, rfl, True.intro⟩) (.cons .here (.cons .here (.cons .here (.cons .here .nil)))) (ImpX.here ⟨l32, n33, l34, h, rfl⟩)
            · replace h := iteFb hc h
              refine ATodo.skip ?_
              refine ATodo.stop ?_
              exact ImpX.lessP (by exact ⟨rfl, rfl, rfl, rfl, rfl, True.intro⟩) (.cons .here (.cons .here (.cons .here (.cons .here .nil)))) (ImpX.here ⟨v24.2.L, v24.2.at_, l18, h, rfl⟩)
          · rintro σ' ⟨l25, n26, l27, h, rfl⟩
            unfold Stream_RightFence_j1 at h
            refine ATodo.seq ?_
            refine ATodo.region ?_
            refine ARun.qv (q_move rfl) rfl ?_
            obtain ⟨v39, e8, h⟩ := bnd h
            refine r_callpB rfl (Q_CornersFault_c e8) (.cons (CoB.arrT (.next (.next (.next .here)))) .nil) rfl rfl ?_
            refine ARun.qv (q_eql rfl rfl) rfl ?_
            refine ARun.nil ?_
            refine ATodo.cond_d rfl (fun hc => ?_) (fun hc => ?_)
            · replace h := iteT hc h
              refine ATodo.seq ?_
              refine ATodo.region ?_
              refine ARun.qv (q_move rfl) rfl ?_
              refine ARun.qv (n_field_ptr rfl rfl) rfl ?_
              refine n_store_ptr rfl rfl rfl rfl (.next (.next .here)) rfl rfl ?_
              refine ARun.nil ?_
              refine ATodo.seq ?_
              refine ATodo.region ?_
              refine ARun.qv (q_load_ptr_all rfl rfl (.next (.next .here)) rfl) rfl ?_
              refine n_store_ptr rfl rfl rfl rfl (.next .here) rfl rfl ?_
              refine ARun.nil ?_
              refine ATodo.ret ?_
              replace h := outL h hA1
              obtain rfl := Option.some.inj h
              refine ImpX.freeze (.next (.next (.next .here))) ?_
              refine ImpX.coBox (j := 1) (.next .here) rfl (Co.froT (.next (.next (.next .here)))) rfl rfl ?_
              exact ImpX.here ⟨_, .cons (.all _ _ _ _ _ _ rfl (.next .here) TUnder.h TInfo.h rfl rfl) .nil, _, .cons .here .nil, ⟨rfl, rfl⟩⟩
            · replace h := iteF hc h
              refine ATodo.skip ?_
              refine ATodo.blk ?_
              refine ATodo.region ?_
              refine ARun.qv (q_addw rfl rfl) rfl ?_
              refine ARun.qv (q_move rfl) rfl ?_
              refine ARun.nil ?_
              refine ATodo.stop ?_
              obtain rfl := Option.some.inj h
              refine hJ1 _ _ rfl ?_
              exact ImpX.lessP (by exact ⟨rfl, rfl, rfl, rfl, True.intro⟩) (.cons .here (.cons .here (.cons .here .nil))) (ImpX.here rfl)
    · replace h := iteF hc h
      refine ATodo.exit rfl ?_
      replace h := outL h hA1
      unfold Stream_RightFence_k6 at h
      refine ATodo.seq ?_
      refine ATodo.seq ?_
      refine ATodo.region ?_
      refine ARun.qv (q_move rfl) rfl ?_
      obtain ⟨v40, e9, h⟩ := bnd h
      refine t_call0 rfl (Stream_Next_c e9) (CoL.refl _) (.cons .here .nil) rfl rfl ?_
      refine ARun.nil ?_
      refine ATodo.block ?_
      refine ATodo.seq ?_
      refine ATodo.region ?_
      refine ARun.qv (q_eql rfl rfl) rfl ?_
      refine ARun.qv (q_assign rfl) rfl ?_
      refine ARun.nil ?_
      refine ATodo.cut (fun σ' => ∃ (l41 : List Spot), Stream_RightFence_j3 v40 l41 = some r ∧ σ' = ⟨82, [(2, .ptr b1 0), (3, .ptr b2 0)], [(b_0, .cells [.list 1 (v40.2.L.map I), I v40.2.at_]), (b1, .cells [.str [], .nil]), (b2, .cells [.str ([102] : Str), .list 2 (l41.map Spot.av)])]⟩) ?_ ?_
      · refine ATodo.cond_d rfl (fun hc => ?_) (fun hc => ?_)
        · replace h := iteT hc h
          refine ATodo.region ?_
          refine ARun.qv (n_build rfl rfl rfl rfl rfl) rfl ?_
          refine ARun.qv (n_build rfl rfl rfl rfl rfl) rfl ?_
          refine ARun.qv (n_build rfl rfl rfl rfl rfl) rfl ?_
          refine ARun.qv (n_build rfl rfl rfl rfl rfl) rfl ?_
          refine ARun.qv (n_build rfl rfl rfl rfl rfl) rfl ?_
          refine n_buildSliceL (xs := ([(⟨(0 : Int), (0 : Int)⟩ : Spot), (⟨(10 : Int), (0 : Int)⟩ : Spot), (⟨(10 : Int), (10 : Int)⟩ : Spot), (⟨(5 : Int), (3 : Int)⟩ : Spot), (⟨(0 : Int), (10 : Int)⟩ : Spot)]).map Spot.av) rfl rfl rfl rfl rfl rfl ?_
          refine ARun.qv (n_field_ptr rfl rfl) rfl ?_
          refine n_store_ptr rfl rfl rfl rfl (.next (.next .here)) rfl rfl ?_
          refine ARun.nil ?_
          refine ATodo.stop ?_
          exact ImpX.lessP (by exact ⟨rfl, rfl, True.intro⟩) (.cons .here (.cons .here (.cons .here .nil))) (ImpX.here ⟨[(⟨(0 : Int), (0 : Int)⟩ : Spot), (⟨(10 : Int), (0 : Int)⟩ : Spot), (⟨(10 : Int), (10 : Int)⟩ : Spot), (⟨(5 : Int), (3 : Int)⟩ : Spot), (⟨(0 : Int), (10 : Int)⟩ : Spot)], h, rfl⟩)
        · replace h := iteF hc h
          refine ATodo.seq ?_
          refine ATodo.region ?_
          refine ARun.qv (q_eql rfl rfl) rfl ?_
          refine ARun.qv (q_assign rfl) rfl ?_
          refine ARun.nil ?_
          refine ATodo.cut (fun σ' => ∃ (l42 : List Spot), Stream_RightFence_j4 v40 l42 = some r ∧ σ' = ⟨82, [(2, .ptr b1 0), (3, .ptr b2 0)], [(b_0, .cells [.list 1 (v40.2.L.map I), I v40.2.at_]), (b1, .cells [.str [], .nil]), (b2, .cells [.str ([102] : Str), .list 2 (l42.map Spot.av)])]⟩) ?_ ?_
          · refine ATodo.cond_d rfl (fun hc => ?_) (fun hc => ?_)
            · replace h := iteT hc h
              refine ATodo.region ?_
              refine ARun.qv (n_build rfl rfl rfl rfl rfl) rfl ?_
              refine ARun.qv (n_build rfl rfl rfl rfl rfl) rfl ?_
              refine ARun.qv (n_build rfl rfl rfl rfl rfl) rfl ?_
              refine ARun.qv (n_build rfl rfl rfl rfl rfl) rfl ?_
              refine n_buildSliceL (xs := ([(⟨(0 : Int), (10 : Int)⟩ : Spot), (⟨(10 : Int), (10 : Int)⟩ : Spot), (⟨(10 : Int), (0 : Int)⟩ : Spot), (⟨(0 : Int), (0 : Int)⟩ : Spot)]).map Spot.av) rfl rfl rfl rfl rfl rfl ?_
              refine ARun.qv (n_field_ptr rfl rfl) rfl ?_
              refine n_store_ptr rfl rfl rfl rfl (.next (.next .here)) rfl rfl ?_
              refine ARun.nil ?_
              refine ATodo.stop ?_
              exact ImpX.lessP (by exact ⟨rfl, rfl, True.intro⟩) (.cons .here (.cons .here (.cons .here .nil))) (ImpX.here ⟨[(⟨(0 : Int), (10 : Int)⟩ : Spot), (⟨(10 : Int), (10 : Int)⟩ : Spot), (⟨(10 : Int), (0 : Int)⟩ : Spot), (⟨(0 : Int), (0 : Int)⟩ : Spot)], h, rfl⟩)
            · replace h := iteF hc h
              refine ATodo.seq ?_
              refine ATodo.region ?_
              refine ARun.qv (q_eql rfl rfl) rfl ?_
              refine ARun.qv (q_assign rfl) rfl ?_
              refine ARun.nil ?_
              refine ATodo.cut (fun σ' => ∃ (l43 : List Spot), Stream_RightFence_j5 v40 l43 = some r ∧ σ' = ⟨82, [(2, .ptr b1 0), (3, .ptr b2 0)], [(b_0, .cells [.list 1 (v40.2.L.map I), I v40.2.at_]), (b1, .cells [.str [], .nil]), (b2, .cells [.str ([102] : Str), .list 2 (l43.map Spot.av)])]⟩) ?_ ?_
              · refine ATodo.cond_d rfl (fun hc => ?_) (fun hc => ?_)
                · replace h := iteT hc h
                  refine ATodo.region ?_
                  refine ARun.qv (n_build rfl rfl rfl rfl rfl) rfl ?_
                  refine ARun.qv (n_build rfl rfl rfl rfl rfl) rfl ?_
                  refine ARun.qv (n_build rfl rfl rfl rfl rfl) rfl ?_
                  refine ARun.qv (n_build rfl rfl rfl rfl rfl) rfl ?_
                  refine ARun.qv (n_build rfl rfl rfl rfl rfl) rfl ?_
                  refine ARun.qv (n_build rfl rfl rfl rfl rfl) rfl ?_
                  refine ARun.qv (n_build rfl rfl rfl rfl rfl) rfl ?_
                  refine ARun.qv (n_build rfl rfl rfl rfl rfl) rfl ?_
                  refine n_buildSliceL (xs := ([(⟨(0 : Int), (0 : Int)⟩ : Spot), (⟨(8 : Int), (0 : Int)⟩ : Spot), (⟨(8 : Int), (2 : Int)⟩ : Spot), (⟨(2 : Int), (2 : Int)⟩ : Spot), (⟨(2 : Int), (6 : Int)⟩ : Spot), (⟨(8 : Int), (6 : Int)⟩ : Spot), (⟨(8 : Int), (8 : Int)⟩ : Spot), (⟨(0 : Int), (8 : Int)⟩ : Spot)]).map Spot.av) rfl rfl rfl rfl rfl rfl ?_
                  refine ARun.qv (n_field_ptr rfl rfl) rfl ?_
                  refine n_store_ptr rfl rfl rfl rfl (.next (.next .here)) rfl rfl ?_
                  refine ARun.nil ?_
                  refine ATodo.stop ?_
                  exact ImpX.lessP (by exact ⟨rfl, rfl, True.intro⟩) (.cons .here (.cons .here (.cons .here .nil))) (ImpX.here ⟨[(⟨(0 : Int), (0 : Int)⟩ : Spot), (⟨(8 : Int), (0 : Int)⟩ : Spot), (⟨(8 : Int), (2 : Int)⟩ : Spot), (⟨(2 : Int), (2 : Int)⟩ : Spot), (⟨(2 : Int), (6 : Int)⟩ : Spot), (⟨(8 : Int), (6 : Int)⟩ : Spot), (⟨(8 : Int), (8 : Int)⟩ : Spot), (⟨(0 : Int), (8 : Int)⟩ : Spot)], h, rfl⟩)
                · replace h := iteF hc h
                  refine ATodo.skip ?_
                  refine ATodo.stop ?_
                  exact ImpX.lessP (by exact ⟨rfl, rfl, True.intro⟩) (.cons .here (.cons .here (.cons .here .nil))) (ImpX.here ⟨[(⟨(0 : Int), (0 : Int)⟩ : Spot), (⟨(10 : Int), (0 : Int)⟩ : Spot), (⟨(10 : Int), (10 : Int)⟩ : Spot), (⟨(0 : Int), (10 : Int)⟩ : Spot)], h, rfl⟩)
              · rintro σ' ⟨l43, h, rfl⟩
                unfold Stream_RightFence_j5 at h
                refine ATodo.stop ?_
                exact ImpX.lessP (by exact ⟨rfl, rfl, True.intro⟩) (.cons .here (.cons .here (.cons .here .nil))) (ImpX.here ⟨l43, h, rfl⟩)
          · rintro σ' ⟨l42, h, rfl⟩
            unfold Stream_RightFence_j4 at h
            refine ATodo.stop ?_
            exact ImpX.lessP (by exact ⟨rfl, rfl, True.intro⟩) (.cons .here (.cons .here (.cons .here .nil))) (ImpX.here ⟨l42, h, rfl⟩)
      · rintro σ' ⟨l41, h, rfl⟩
        unfold Stream_RightFence_j3 at h
        refine ATodo.blk ?_
        refine ATodo.seq ?_
        refine ATodo.region ?_
        refine ARun.qv (q_load_ptr_all rfl rfl (.next (.next .here)) rfl) rfl ?_
        refine n_store_ptr rfl rfl rfl rfl (.next .here) rfl rfl ?_
        refine ARun.nil ?_
        refine ATodo.ret ?_
        obtain rfl := Option.some.inj h
        exact ImpX.here ⟨_, .cons (.all _ _ _ _ _ _ rfl (.next .here) TUnder.h TInfo.h rfl rfl) .nil, _, .cons .here .nil, ⟨rfl, rfl⟩⟩

set_option maxHeartbeats 4000000 in
theorem Stream_Some_c {b_0 : Bk} {p0x0 : Fleetmake_Stream} {p1x0 : List Str} {r : Str × Fleetmake_Stream} (h : Stream_Some p0x0 p1x0 = some r) : ACall Try.prog 13 [.ptr b_0 0, .list 1 (p1x0.map AV.str)] [(b_0, .cells [.list 1 (p0x0.L.map I), I p0x0.at_])] (T0 ([(b_0, .cells [.list 1 (r.2.L.map I), I r.2.at_])]) (.str r.1)) := by
  unfold Stream_Some at h
  refine ACall.lessH ?_
  refine ACall.bodyN Try.func13 rfl Try.ntmps13 Try.results13 rfl rfl ?_
  refine ATodo.seq ?_
  refine ATodo.region ?_
  refine ARun.qv (q_assign rfl) rfl ?_
  refine ARun.nil ?_
  refine ATodo.seq ?_
  refine ATodo.region ?_
  refine ARun.qv (q_move rfl) rfl ?_
  refine ARun.qv (q_move rfl) rfl ?_
  refine ARun.qv (q_move rfl) rfl ?_
  refine ARun.qv (t_len rfl) rfl ?_
  obtain ⟨v1, e1, h⟩ := bnd h
  refine t_call0 rfl (Stream_Next_c e1) (CoL.refl _) (.cons .here .nil) rfl rfl ?_
  obtain ⟨v2, e2, h⟩ := bnd h
  refine ARun.qv (t_index rfl rfl rfl e2 rfl rfl) rfl ?_
  refine ARun.qv (q_load_rptr rfl rfl rfl) rfl ?_
  refine ARun.qv (q_assign rfl) rfl ?_
  refine ARun.nil ?_
  refine ATodo.ret ?_
  obtain rfl := Option.some.inj h
  exact ImpX.here ⟨_, .cons (.tmp _ _ rfl) .nil, _, .cons .here .nil, ⟨rfl, rfl⟩⟩

set_option maxHeartbeats 4000000 in
theorem slices_Clone_Spot_Spot_c {p0x0 : List Spot} {r : (List Spot)} (h : slices_Clone_Spot_Spot p0x0 = some r) : ACall Try.prog 74 [.list 2 (p0x0.map Spot.av)] [] (T1 (fun d_0 => [(d_0, .arr 2 (r.map Spot.av))]) (fun d_0 => .sl 2 d_0 0 r.length)) := by
  unfold slices_Clone_Spot_Spot at h
  refine ACall.lessH ?_
  refine ACall.bodyN Try.func74 rfl Try.ntmps74 Try.results74 rfl rfl ?_
  refine ATodo.seq ?_
  refine ATodo.region ?_
  refine ARun.qv (q_assign rfl) rfl ?_
  refine ARun.nil ?_
  refine ATodo.seq ?_
  refine ATodo.seq ?_
  refine ATodo.region ?_
  refine ARun.qv (q_move rfl) rfl ?_
  refine r_eqnil rfl rfl rfl rfl (fun c hc => ?_)
  refine ARun.nil ?_
  refine ATodo.cond rfl (fun hT => ?_) (fun hF => ?_)
  · obtain rfl := app_nil_some h (List.map_eq_nil_iff.1 (hc hT))
    refine ATodo.seq ?_
    refine ATodo.region ?_
    refine ARun.qv (q_assign rfl) rfl ?_
    refine ARun.nil ?_
    refine ATodo.ret ?_
    refine ImpX.arr (s := 2) 2 rfl (fun b1 => ?_)
    exact ImpX.here ⟨_, .cons (.tmp _ _ rfl) .nil, _, .cons .here .nil, ⟨b1, rfl, rfl⟩⟩
  · refine ATodo.skip ?_
    refine ATodo.seq ?_
    refine ATodo.region ?_
    refine n_buildSlice (xs := ([] : List Spot).map Spot.av) rfl rfl rfl rfl rfl rfl (fun b2 => ?_)
    refine ARun.qv (q_move rfl) rfl ?_
    refine t_append (g := Spot.av) (Xs := []) rfl rfl rfl rfl rfl rfl rfl rfl (.list _) h (fun _ => .here) rfl (fun b3 => ?_)
    refine ARun.qv (q_assign rfl) rfl ?_
    refine ARun.nil ?_
    refine ATodo.ret ?_
    exact ImpX.here ⟨_, .cons (.tmp _ _ rfl) .nil, _, .cons .here .nil, ⟨b3, rfl, rfl⟩⟩

set_option maxHeartbeats 4000000 in
theorem Stream_Odd_c {b_0 : Bk} {p0x0 : Fleetmake_Stream} {p1x0 : Int} {p2x0 : Int} {r : Int × Fleetmake_Stream} (h : Stream_Odd p0x0 p1x0 p2x0 = some r) : ACall Try.prog 14 [.ptr b_0 0, I p1x0, I p2x0] [(b_0, .cells [.list 1 (p0x0.L.map I), I p0x0.at_])] (T0 ([(b_0, .cells [.list 1 (r.2.L.map I), I r.2.at_])]) (I r.1)) := by
  unfold Stream_Odd at h
  refine ACall.lessH ?_
  refine ACall.bodyN Try.func14 rfl Try.ntmps14 Try.results14 rfl rfl ?_
  refine ATodo.seq ?_
  refine ATodo.region ?_
  refine ARun.qv (q_assign rfl) rfl ?_
  refine ARun.nil ?_
  refine ATodo.seq ?_
  refine ATodo.seq ?_
  refine ATodo.region ?_
  refine ARun.qv (q_move rfl) rfl ?_
  obtain ⟨v1, e1, h⟩ := bnd h
  refine t_call0 rfl (Stream_Flip_c e1) (CoL.refl _) (.cons .here .nil) rfl rfl ?_
  refine ARun.nil ?_
  refine ATodo.cond rfl (fun hc => ?_) (fun hc => ?_)
  · replace h := iteT hc h
    refine ATodo.seq ?_
    refine ATodo.region ?_
    refine ARun.qv (q_move rfl) rfl ?_
    refine ARun.qv (q_move rfl) rfl ?_
    refine ARun.qv (q_subw rfl rfl) rfl ?_
    refine ARun.qv (q_move rfl) rfl ?_
    refine ARun.qv (q_addw rfl rfl) rfl ?_
    refine ARun.qv (q_move rfl) rfl ?_
    refine ARun.qv (q_move rfl) rfl ?_
    refine n_buildSliceL (xs := ([w64 (p1x0 - (1 : Int)), w64 (p2x0 + (1 : Int)), p1x0, p2x0, (-1099511627776 : Int), (1099511627776 : Int)]).map I) rfl rfl rfl rfl rfl rfl ?_
    obtain ⟨v2, e2, h⟩ := bnd h
    refine t_call0 rfl (Stream_Pick_c e2) (CoL.refl _) (.cons .here .nil) rfl rfl ?_
    refine ARun.qv (q_assign rfl) rfl ?_
    refine ARun.nil ?_
    refine ATodo.ret ?_
    obtain rfl := Option.some.inj h
    exact ImpX.here ⟨_, .cons (.tmp _ _ rfl) .nil, _, .cons .here .nil, ⟨rfl, rfl⟩⟩
  · replace h := iteFb hc h
    refine ATodo.skip ?_
    refine ATodo.seq ?_
    refine ATodo.region ?_
    refine ARun.qv (q_move rfl) rfl ?_
    refine ARun.qv (q_move rfl) rfl ?_
    refine ARun.qv (q_move rfl) rfl ?_
    obtain ⟨v3, e3, h⟩ := bnd h
    refine t_call0 rfl (Stream_Range_c e3) (CoL.refl _) (.cons .here .nil) rfl rfl ?_
    refine ARun.qv (q_assign rfl) rfl ?_
    refine ARun.nil ?_
    refine ATodo.ret ?_
    obtain rfl := Option.some.inj h
    exact ImpX.here ⟨_, .cons (.tmp _ _ rfl) .nil, _, .cons .here .nil, ⟨rfl, rfl⟩⟩

set_option maxHeartbeats 4000000 in
theorem Stream_Spot_c {b_0 : Bk} {p0x0 : Fleetmake_Stream} {r : Spot × Fleetmake_Stream} (h : Stream_Spot p0x0 = some r) : ACall Try.prog 12 [.ptr b_0 0] [(b_0, .cells [.list 1 (p0x0.L.map I), I p0x0.at_])] (T0 ([(b_0, .cells [.list 1 (r.2.L.map I), I r.2.at_])]) (.agg [I r.1.X, I r.1.Y])) := by
  unfold Stream_Spot at h
  refine ACall.lessH ?_
  refine ACall.bodyN Try.func12 rfl Try.ntmps12 Try.results12 rfl rfl ?_
  refine ATodo.seq ?_
  refine ATodo.region ?_
  refine n_alloc rfl rfl rfl rfl (fun b1 => ?_)
  refine ARun.nil ?_
  refine ATodo.seq ?_
  refine ATodo.region ?_
  refine ARun.qv (q_move rfl) rfl ?_
  obtain ⟨v2, e1, h⟩ := bnd h
  refine t_call0 rfl (Stream_Place_c e1) (CoL.refl _) (.cons (.next .here) .nil) rfl rfl ?_
  refine n_alloc rfl rfl rfl rfl (fun b3 => ?_)
  refine n_store_ptr rfl rfl rfl rfl .here rfl rfl ?_
  refine ARun.nil ?_
  refine ATodo.seq ?_
  refine ATodo.seq ?_
  refine ATodo.region ?_
  refine ARun.qv (q_move rfl) rfl ?_
  obtain ⟨v4, e2, h⟩ := bnd h
  refine t_call0 rfl (Stream_Flip_c e2) (CoL.refl _) (.cons (.next .here) .nil) rfl rfl ?_
  refine ARun.nil ?_
  refine ATodo.cut (fun σ' => ∃ (l5 : List Int) (n6 : Int) (n7 : Int), Stream_Spot_j1 v2 l5 n6 n7 = some r ∧ σ' = ⟨12, [(2, .ptr b1 0), (3, .ptr b3 0)], [(b_0, .cells [.list 1 (l5.map I), I n6]), (b1, .cells [I (0 : Int), I (0 : Int)]), (b3, .cells [I n7, I v2.1.Y])]⟩) ?_ ?_
  · refine ATodo.cond rfl (fun hc => ?_) (fun hc => ?_)
    · replace h := iteT hc h
      refine ATodo.region ?_
      refine ARun.qv (q_move rfl) rfl ?_
      obtain ⟨v8, e3, h⟩ := bnd h
      refine t_call0 rfl (Stream_Odd_c e3) (CoL.refl _) (.cons .here .nil) rfl rfl ?_
      refine ARun.qv (n_field_ptr rfl rfl) rfl ?_
      refine n_store_ptr rfl rfl rfl rfl (.next .here) rfl rfl ?_
      refine ARun.nil ?_
      refine ATodo.stop ?_
      exact ImpX.lessP (by exact ⟨rfl, rfl, True.intro⟩) (.cons .here (.cons (.next .here) (.cons .here .nil))) (ImpX.here ⟨v8.2.L, v8.2.at_, v8.1, h, rfl⟩)
    · replace h := iteFb hc h
      refine ATodo.skip ?_
      refine ATodo.stop ?_
      exact ImpX.lessP (by exact ⟨rfl, rfl, True.intro⟩) (.cons .here (.cons (.next .here) (.cons .here .nil))) (ImpX.here ⟨v4.2.L, v4.2.at_, v2.1.X, h, rfl⟩)
  · rintro σ' ⟨l5, n6, n7, h, rfl⟩
    unfold Stream_Spot_j1 at h
    refine ATodo.seq ?_
    refine ATodo.region ?_
    refine ARun.qv (q_load_ptr_all rfl rfl (.next (.next .here)) rfl) rfl ?_
    refine n_store_ptr rfl rfl rfl rfl (.next .here) rfl rfl ?_
    refine ARun.nil ?_
    refine ATodo.ret ?_
    obtain rfl := Option.some.inj h
    exact ImpX.here ⟨_, .cons (.all _ _ _ _ _ _ rfl (.next .here) TUnder.h TInfo.h rfl rfl) .nil, _, .cons .here .nil, ⟨rfl, rfl⟩⟩

set_option maxHeartbeats 4000000 in
theorem Stream_Fence_c {b_0 : Bk} {p0x0 : Fleetmake_Stream} {r : FenceS × Fleetmake_Stream} (h : Stream_Fence p0x0 = some r) : ACall Try.prog 11 [.ptr b_0 0] [(b_0, .cells [.list 1 (p0x0.L.map I), I p0x0.at_])] (T0 ([(b_0, .cells [.list 1 (r.2.L.map I), I r.2.at_])]) (.agg [.str r.1.Key, .list 2 (r.1.Corners.map Spot.av)])) := by
  unfold Stream_Fence at h
  refine ACall.lessH ?_
  refine ACall.bodyN Try.func11 rfl Try.ntmps11 Try.results11 rfl rfl ?_
  refine ATodo.seq ?_
  refine ATodo.region ?_
  refine n_alloc rfl rfl rfl rfl (fun b1 => ?_)
  refine ARun.nil ?_
  refine ATodo.seq ?_
  refine ATodo.region ?_
  refine ARun.qv (q_move rfl) rfl ?_
  obtain ⟨v2, e1, h⟩ := bnd h
  refine t_call0 rfl (Stream_RightFence_c e1) (CoL.refl _) (.cons (.next .here) .nil) rfl rfl ?_
  refine n_alloc rfl rfl rfl rfl (fun b3 => ?_)
  refine n_store_ptr rfl rfl rfl rfl .here rfl rfl ?_
  refine ARun.nil ?_
  refine ATodo.seq ?_
  refine ATodo.seq ?_
  refine ATodo.region ?_
  refine ARun.qv (q_move rfl) rfl ?_
  obtain ⟨v4, e2, h⟩ := bnd h
  refine t_call0 rfl (Stream_Flip_c e2) (CoL.refl _) (.cons (.next .here) .nil) rfl rfl ?_
  refine ARun.nil ?_
  refine ATodo.cut (fun σ' => ∃ (l5 : List Int) (n6 : Int) (q7 : Str) (l8 : List Spot), Stream_Fence_j1 l5 n6 q7 l8 = some r ∧ σ' = ⟨45, [(2, .ptr b1 0), (3, .ptr b3 0)], [(b_0, .cells [.list 1 (l5.map I), I n6]), (b1, .cells [.str [], .nil]), (b3, .cells [.str q7, .list 2 (l8.map Spot.av)])]⟩) ?_ ?_
  · refine ATodo.cond rfl (fun hc => ?_) (fun hc => ?_)
    · replace h := iteT hc h
      refine ATodo.seq ?_
      refine ATodo.region ?_
      refine ARun.qv (q_move rfl) rfl ?_
      obtain ⟨v9, e3, h⟩ := bnd h
      refine t_call0 rfl (Stream_Next_c e3) (CoL.refl _) (.cons .here .nil) rfl rfl ?_
      refine ARun.nil ?_
      refine ATodo.block ?_
      refine ATodo.seq ?_
      refine ATodo.region ?_
      refine ARun.qv (q_eql rfl rfl) rfl ?_
      refine ARun.qv (q_assign rfl) rfl ?_
      refine ARun.nil ?_
      refine ATodo.cut (fun σ' => ∃ (l10 : List Int) (n11 : Int) (q12 : Str) (l13 : List Spot), Stream_Fence_j2 l10 n11 q12 l13 = some r ∧ σ' = ⟨45, [(2, .ptr b1 0), (3, .ptr b3 0)], [(b_0, .cells [.list 1 (l10.map I), I n11]), (b1, .cells [.str [], .nil]), (b3, .cells [.str q12, .list 2 (l13.map Spot.av)])]⟩) ?_ ?_
      · refine ATodo.cond_d rfl (fun hc => ?_) (fun hc => ?_)
        · replace h := iteT hc h
          refine ATodo.region ?_
          refine ARun.qv (q_move rfl) rfl ?_
          refine n_buildSliceL (xs := ([([] : Str), ([65] : Str)]).map AV.str) rfl rfl rfl rfl rfl rfl ?_
          obtain ⟨v14, e4, h⟩ := bnd h
          refine t_call0 rfl (Stream_Some_c e4) (CoL.refl _) (.cons .here .nil) rfl rfl ?_
          refine ARun.qv (n_field_ptr rfl rfl) rfl ?_
          refine n_store_ptr rfl rfl rfl rfl (.next .here) rfl rfl ?_
          refine ARun.nil ?_
          refine ATodo.stop ?_
          exact ImpX.lessP (by exact ⟨rfl, rfl, True.intro⟩) (.cons .here (.cons (.next .here) (.cons .here .nil))) (ImpX.here ⟨v14.2.L, v14.2.at_, v14.1, v2.1.Corners, h, rfl⟩)
        · replace h := iteF hc h
          refine ATodo.seq ?_
          refine ATodo.region ?_
          refine ARun.qv (q_eql rfl rfl) rfl ?_
          refine ARun.qv (q_assign rfl) rfl ?_
          refine ARun.nil ?_
          refine ATodo.cut (fun σ' => ∃ (l15 : List Int) (n16 : Int) (l17 : List Spot), Stream_Fence_j3 v2 l15 n16 l17 = some r ∧ σ' = ⟨45, [(2, .ptr b1 0), (3, .ptr b3 0)], [(b_0, .cells [.list 1 (l15.map I), I n16]), (b1, .cells [.str [], .nil]), (b3, .cells [.str v2.1.Key, .list 2 (l17.map Spot.av)])]⟩) ?_ ?_
          · refine ATodo.cond_d rfl (fun hc => ?_) (fun hc => ?_)
            · replace h := iteT hc h
              obtain ⟨v18, e5, h⟩ := bnd h
              refine ATodo.regionT (id := 8) (A := [0, 1, 0, 4, 15, 31, 63]) (H0 := [(b_0, .cells [.list 1 (v9.2.L.map I), I v9.2.at_])]) (HH := fun β => [(b_0, .cells [.list 1 (v18.2.L.map I), I v18.2.at_]), (b3, .cells [.str v2.1.Key, .list 2 (v2.1.Corners.map Spot.av)]), (b1, .cells [.str [], .nil])]) 4 mixed rfl (by kernel_rfl) (by kernel_rfl) [⟨none, some 3, [], fun _ => (b_0, .cells [.list 1 (v9.2.L.map I), I v9.2.at_]), none⟩, ⟨some 3, none, [], fun _ => (b_0, .cells [.list 1 (v18.2.L.map I), I v18.2.at_]), none⟩] [] rfl (by kernel_rfl) rfl (.cons .here .nil) (fun _ => rfl) ?_
              refine AT.am 3 rfl rfl ?_
              refine AM.qv (n_field_ptr rfl rfl) rfl ?_
              refine AM.qv (q_load_ptr rfl rfl .here rfl) rfl ?_
              refine AM.qv (q_move rfl) rfl ?_
              refine AM.nil ?_
              refine AT.runS (av := I v18.1) (Ti := [(b_0, .cells [.list 1 (v9.2.L.map I), I v9.2.at_])]) (Pi := [(b_0, .cells [.list 1 (v18.2.L.map I), I v18.2.at_])]) (fun _ => rfl) (fun _ => rfl) (fun _ => rfl) rfl rfl rfl ?_ ?_
              · refine t_call0 rfl (Stream_Next_c e5) (CoL.refl _) (.cons .here .nil) rfl rfl ?_
                exact ARun.nil ⟨_, rfl, rfl⟩
              refine AT.nilN (fun _ => rfl) (fun β => ?_)
              obtain ⟨l19, e6, h⟩ := bnd h
              refine ARun.qv (t_slice_list rfl rfl .none (.some _ _ _ rfl) rfl rfl e6) rfl ?_
              refine ARun.qv (n_field_ptr rfl rfl) rfl ?_
              refine n_store_ptr rfl rfl rfl rfl (.next .here) rfl rfl ?_
              refine ARun.nil ?_
              refine ATodo.stop ?_
              exact ImpX.lessP (by exact ⟨rfl, rfl, True.intro⟩) (.cons .here (.cons (.next .here) (.cons .here .nil))) (ImpX.here ⟨v18.2.L, v18.2.at_, l19, h, rfl⟩)
            · replace h := iteF hc h
              refine ATodo.seq ?_
              refine ATodo.region ?_
              refine ARun.qv (q_eql rfl rfl) rfl ?_
              refine ARun.qv (q_assign rfl) rfl ?_
              refine ARun.nil ?_
              refine ATodo.cut (fun σ' => ∃ (b22 : Bk) (l20 : List Int) (n21 : Int) (l23 : List Spot), Stream_Fence_j4 v2 l20 n21 l23 = some r ∧ σ' = ⟨45, [(2, .ptr b1 0), (3, .ptr b3 0)], [(b_0, .cells [.list 1 (l20.map I), I n21]), (b1, .cells [.str [], .nil]), (b3, .cells [.str v2.1.Key, .sl 2 b22 0 l23.length]), (b22, .arr 2 (l23.map Spot.av))]⟩) ?_ ?_
              · refine ATodo.cond_d rfl (fun hc => ?_) (fun hc => ?_)
                · replace h := iteT hc h
                  refine ATodo.region ?_
                  refine ARun.qv (n_field_ptr rfl rfl) rfl ?_
                  refine ARun.qv (q_load_ptr rfl rfl (.next .here) rfl) rfl ?_
                  obtain ⟨v24, e7, h⟩ := bnd h
                  refine t_call1 rfl (slices_Clone_Spot_Spot_c e7) (CoL.refl _) .nil (fun _ => rfl) rfl (fun b25 => ?_)
                  refine ARun.qv (q_move rfl) rfl ?_
                  obtain ⟨v26, e8, h⟩ := bnd h
                  refine t_call0 rfl (Stream_Spot_c e8) (CoL.refl _) (.cons (.next .here) .nil) rfl rfl ?_
                  refine n_buildSliceL (xs := ([v26.1] : List Spot).map Spot.av) rfl rfl rfl rfl rfl rfl ?_
                  obtain ⟨l27, e9, h⟩ := bnd h
                  refine t_append (g := Spot.av) rfl rfl rfl rfl rfl rfl rfl rfl (.list _) e9 (fun _ => (.next .here)) rfl (fun b28 => ?_)
                  refine ARun.qv (n_field_ptr rfl rfl) rfl ?_
                  refine n_store_ptr rfl rfl rfl rfl (.next (.next .here)) rfl rfl ?_
                  refine ARun.nil ?_
                  refine ATodo.stop ?_
                  exact ImpX.lessP (by exact ⟨rfl, rfl, True.intro⟩) (.cons .here (.cons (.next (.next .here)) (.cons (.next .here) (.cons .here .nil)))) (ImpX.here ⟨b28, v26.2.L, v26.2.at_, l27, h, rfl⟩)
                · replace h := iteF hc h
                  refine ATodo.region ?_
                  refine ARun.qv (q_move rfl) rfl ?_
                  obtain ⟨v29, e10, h⟩ := bnd h
                  refine t_call0 rfl (Stream_Place_c e10) (CoL.refl _) (.cons .here .nil) rfl rfl ?_
                  refine ARun.qv (q_move rfl) rfl ?_
                  obtain ⟨v30, e11, h⟩ := bnd h
                  refine t_call0 rfl (Stream_Place_c e11) (CoL.refl _) (.cons .here .nil) rfl rfl ?_
                  refine ARun.qv (q_move rfl) rfl ?_
                  obtain ⟨v31, e12, h⟩ := bnd h
                  refine t_call0 rfl (Stream_Place_c e12) (CoL.refl _) (.cons .here .nil) rfl rfl ?_
                  refine ARun.qv (q_move rfl) rfl ?_
                  obtain ⟨v32, e13, h⟩ := bnd h
                  refine t_call0 rfl (Stream_Place_c e13) (CoL.refl _) (.cons .here .nil) rfl rfl ?_
                  refine n_buildSlice rfl rfl rfl rfl rfl rfl (fun b33 => ?_)
                  refine ARun.qv (n_field_ptr rfl rfl) rfl ?_
                  refine n_store_ptr rfl rfl rfl rfl (.next (.next .here)) rfl rfl ?_
                  refine ARun.nil ?_
                  refine ATodo.stop ?_
                  exact ImpX.lessP (by exact ⟨rfl, rfl, True.intro⟩) (.cons (.next .here) (.cons (.next (.next .here)) (.cons (.next .here) (.cons .here .nil)))) (ImpX.here ⟨b33, v32.2.L, v32.2.at_, [v29.1, v30.1, v31.1, v32.1], h, rfl⟩)
              · rintro σ' ⟨b22, l20, n21, l23, h, rfl⟩
                unfold Stream_Fence_j4 at h
                refine ATodo.stop ?_
                refine ImpX.freeze (.next (.next (.next .here))) ?_
                refine ImpX.coBox (j := 1) (.next (.next .here)) rfl (Co.froT (.next (.next (.next .here)))) rfl rfl ?_
                exact ImpX.lessP (by exact ⟨rfl, rfl, True.intro⟩) (.cons .here (.cons .here (.cons .here .nil))) (ImpX.here ⟨l20, n21, l23, h, rfl⟩)
          · rintro σ' ⟨l15, n16, l17, h, rfl⟩
            unfold Stream_Fence_j3 at h
            refine ATodo.stop ?_
            exact ImpX.lessP (by exact ⟨rfl, rfl, True.intro⟩) (.cons .here (.cons .here (.cons .here .nil))) (ImpX.here ⟨l15, n16, v2.1.Key, l17, h, rfl⟩)
      · rintro σ' ⟨l10, n11, q12, l13, h, rfl⟩
        unfold Stream_Fence_j2 at h
        refine ATodo.blk ?_
        refine ATodo.stop ?_
        exact ImpX.lessP (by exact ⟨rfl, rfl, True.intro⟩) (.cons .here (.cons .here (.cons .here .nil))) (ImpX.here ⟨l10, n11, q12, l13, h, rfl⟩)
    · replace h := iteFb hc h
      refine ATodo.skip ?_
      refine ATodo.stop ?_
      exact ImpX.lessP (by exact ⟨rfl, rfl, True.intro⟩) (.cons .here (.cons (.next .here) (.cons .here .nil))) (ImpX.here ⟨v4.2.L, v4.2.at_, v2.1.Key, v2.1.Corners, h, rfl⟩)
  · rintro σ' ⟨l5, n6, q7, l8, h, rfl⟩
    unfold Stream_Fence_j1 at h
    refine ATodo.seq ?_
    refine ATodo.region ?_
    refine ARun.qv (q_load_ptr_all rfl rfl (.next (.next .here)) rfl) rfl ?_
    refine n_store_ptr rfl rfl rfl rfl (.next .here) rfl rfl ?_
    refine ARun.nil ?_
    refine ATodo.ret ?_
    obtain rfl := Option.some.inj h
    exact ImpX.here ⟨_, .cons (.all _ _ _ _ _ _ rfl (.next .here) TUnder.h TInfo.h rfl rfl) .nil, _, .cons .here .nil, ⟨rfl, rfl⟩⟩

set_option maxHeartbeats 4000000 in
theorem base_Key_c {p0x0 : Str} {r : Bool} (h : base_Key p0x0 = some r) : Pu Try.prog 126 [.str p0x0] (.bool r) := by
  unfold base_Key at h
  refine ACall.bodyN Try.func126 rfl Try.ntmps126 Try.results126 rfl rfl ?_
  refine ATodo.seq ?_
  refine ATodo.region ?_
  refine ARun.qv (q_assign rfl) rfl ?_
  refine ARun.nil ?_
  refine ATodo.seq ?_
  refine ATodo.seq ?_
  refine ATodo.cut (fun σ' => ∃ (c1 : Bool), base_Key_j1 p0x0 c1 = some r ∧ σ' = ⟨54, [(0, .str p0x0), (21, .bool c1)], []⟩) ?_ ?_
  · refine ATodo.region ?_
    refine ARun.qv (q_move rfl) rfl ?_
    refine ARun.qv (q_seq rfl rfl) rfl ?_
    refine ARun.qv (q_move rfl) rfl ?_
    refine ARun.guard_df rfl rfl rfl (fun hc => ?_) (fun hc => ?_)
    · replace h := iteF hc h
      refine ARun.qv (q_move rfl) rfl ?_
      refine ARun.guard_yes rfl rfl rfl ?_
      refine ARun.qv (q_len_str rfl) rfl ?_
      refine ARun.guard_yes rfl rfl rfl ?_
      refine ARun.qv (q_gtr rfl rfl) rfl ?_
      refine ARun.qv (q_pick_f rfl rfl) rfl ?_
      refine ARun.qv (q_move rfl) rfl ?_
      refine ARun.guard_df rfl rfl rfl (fun hc => ?_) (fun hc => ?_)
      · replace h := iteF hc h
        refine ARun.qv (q_move rfl) rfl ?_
        refine ARun.guard_yes rfl rfl rfl ?_
        obtain ⟨c2, e1, h⟩ := bnd h
        refine ARun.qv (t_index_str rfl rfl e1) rfl ?_
        refine ARun.guard_yes rfl rfl rfl ?_
        refine ARun.qv (q_lss rfl rfl) rfl ?_
        refine ARun.qv (q_pick_f rfl rfl) rfl ?_
        refine ARun.qv (q_move rfl) rfl ?_
        refine ARun.guard_df rfl rfl rfl (fun hc => ?_) (fun hc => ?_)
        · replace h := iteF hc h
          refine ARun.qv (q_move rfl) rfl ?_
          refine ARun.guard_yes rfl rfl rfl ?_
          obtain ⟨c3, e2, h⟩ := bnd h
          refine ARun.qv (t_index_str rfl rfl e2) rfl ?_
          refine ARun.guard_yes rfl rfl rfl ?_
          refine ARun.qv (q_gtr rfl rfl) rfl ?_
          refine ARun.qv (q_pick_f rfl rfl) rfl ?_
          refine ARun.nil ?_
          refine ATodo.stop ?_
          exact ImpX.lessP (by exact ⟨rfl, rfl, True.intro⟩) (.nil) (ImpX.here ⟨decide ((122 : Int) < (c3.toNat : Int)), h, rfl⟩)
        · replace h := iteT hc h
          refine ARun.guard_no rfl rfl rfl rfl ?_
          refine ARun.guard_no rfl rfl rfl rfl ?_
          refine ARun.qv (q_pick_t rfl rfl) rfl ?_
          refine ARun.nil ?_
          refine ATodo.stop ?_
          exact ImpX.lessP (by exact ⟨rfl, rfl, True.intro⟩) (.nil) (ImpX.here ⟨true, h, rfl⟩)
      · replace h := iteT hc h
        refine ARun.guard_no rfl rfl rfl rfl ?_
        refine ARun.guard_no rfl rfl rfl rfl ?_
        refine ARun.qv (q_pick_t rfl rfl) rfl ?_
        refine ARun.qv (q_move rfl) rfl ?_
        refine ARun.guard_no rfl rfl rfl rfl ?_
        refine ARun.guard_no rfl rfl rfl rfl ?_
        refine ARun.guard_no rfl rfl rfl rfl ?_
        refine ARun.qv (q_pick_t rfl rfl) rfl ?_
        refine ARun.nil ?_
        refine ATodo.stop ?_
        exact ImpX.lessP (by exact ⟨rfl, rfl, True.intro⟩) (.nil) (ImpX.here ⟨true, h, rfl⟩)
    · replace h := iteT hc h
      refine ARun.guard_no rfl rfl rfl rfl ?_
      refine ARun.guard_no rfl rfl rfl rfl ?_
      refine ARun.qv (q_pick_t rfl rfl) rfl ?_
      refine ARun.qv (q_move rfl) rfl ?_
      refine ARun.guard_no rfl rfl rfl rfl ?_
      refine ARun.guard_no rfl rfl rfl rfl ?_
      refine ARun.guard_no rfl rfl rfl rfl ?_
      refine ARun.qv (q_pick_t rfl rfl) rfl ?_
      refine ARun.qv (q_move rfl) rfl ?_
      refine ARun.guard_no rfl rfl rfl rfl ?_
      refine ARun.guard_no rfl rfl rfl rfl ?_
      refine ARun.guard_no rfl rfl rfl rfl ?_
      refine ARun.qv (q_pick_t rfl rfl) rfl ?_
      refine ARun.nil ?_
      refine ATodo.stop ?_
      exact ImpX.lessP (by exact ⟨rfl, rfl, True.intro⟩) (.nil) (ImpX.here ⟨true, h, rfl⟩)
  · rintro σ' ⟨c1, h, rfl⟩
    unfold base_Key_j1 at h
    refine ATodo.cond rfl (fun hc => ?_) (fun hc => ?_)
    · replace h := iteT hc h
      refine ATodo.seq ?_
      refine ATodo.region ?_
      refine ARun.qv (q_assign rfl) rfl ?_
      refine ARun.nil ?_
      refine ATodo.ret ?_
      obtain rfl := Option.some.inj h
      exact ImpX.here ⟨_, .cons (.tmp _ _ rfl) .nil, rfl⟩
    · replace h := iteFb hc h
      refine ATodo.skip ?_
      refine ATodo.seq ?_
      refine ATodo.seq ?_
      refine ATodo.region ?_
      refine ARun.qv (q_move rfl) rfl ?_
      refine ARun.qv (q_len_str rfl) rfl ?_
      refine ARun.qv (q_move rfl) rfl ?_
      refine ARun.nil ?_
      refine ATodo.block ?_
      refine ATodo.loopI (fun x : Int => base_Key_b1 p0x0 x) (fun x σ' => σ' = ⟨54, [(0, .str p0x0), (23, I (p0x0.length : Int)), (24, I x)], []⟩) h ?_ ?_
      · exact ImpX.lessP (by exact ⟨rfl, rfl, rfl, True.intro⟩) (.nil) (ImpX.here rfl)
      · intro n5 z1 σ' J1 hmk h hJ1 hA1
        obtain rfl := hmk
        replace h : base_Key_b1 p0x0 n5 = some z1 := h
        unfold base_Key_b1 at h
        refine ATodo.seq ?_
        refine ATodo.region ?_
        refine ARun.qv (q_lss rfl rfl) rfl ?_
        refine ARun.nil ?_
        refine ATodo.seq ?_
        refine ATodo.cond_d rfl (fun hc => ?_) (fun hc => ?_)
        · replace h := iteT hc h
          refine ATodo.skip ?_
          refine ATodo.seq ?_
          refine ATodo.block ?_
          refine ATodo.seq ?_
          refine ATodo.region ?_
          refine ARun.qv (q_move rfl) rfl ?_
          refine ARun.qv (q_assign rfl) rfl ?_
          refine ARun.nil ?_
          refine ATodo.seq ?_
          refine ATodo.region ?_
          refine ARun.qv (q_move rfl) rfl ?_
          refine ARun.qv (q_move rfl) rfl ?_
          obtain ⟨c6, e3, h⟩ := bnd h
          refine ARun.qv (t_index_str rfl rfl e3) rfl ?_
          refine ARun.qv (q_assign rfl) rfl ?_
          refine ARun.nil ?_
          refine ATodo.seq ?_
          refine ATodo.cut (fun σ' => ∃ (c7 : Bool), base_Key_j2 n5 c7 = some z1 ∧ σ' = ⟨54, [(0, .str p0x0), (23, I (p0x0.length : Int)), (24, I n5), (52, .bool c7)], []⟩) ?_ ?_
          · refine ATodo.region ?_
            refine ARun.qv (q_move rfl) rfl ?_
            refine ARun.qv (q_geq rfl rfl) rfl ?_
            refine ARun.qv (q_move rfl) rfl ?_
            refine ARun.guard_dt rfl rfl rfl (fun hc => ?_) (fun hc => ?_)
            · rw [if_pos hc] at h
              refine ARun.qv (q_move rfl) rfl ?_
              refine ARun.guard_yes rfl rfl rfl ?_
              refine ARun.qv (q_leq rfl rfl) rfl ?_
              refine ARun.qv (q_pick_t rfl rfl) rfl ?_
              refine ARun.qv (q_move rfl) rfl ?_
              refine ARun.guard_df rfl rfl rfl (fun hc => ?_) (fun hc => ?_)
              · rw [if_neg hc] at h
                refine ARun.qv (q_move rfl) rfl ?_
                refine ARun.guard_yes rfl rfl rfl ?_
                refine ARun.qv (q_geq rfl rfl) rfl ?_
                refine ARun.guard_yes rfl rfl rfl ?_
                refine ARun.qv (q_move rfl) rfl ?_
                refine ARun.guard_dt rfl rfl rfl (fun hc => ?_) (fun hc => ?_)
                · rw [if_pos hc] at h
                  refine ARun.qv (q_move rfl) rfl ?_
                  refine ARun.guard_yes rfl rfl rfl ?_
                  refine ARun.qv (q_leq rfl rfl) rfl ?_
                  refine ARun.guard_yes rfl rfl rfl ?_
                  refine ARun.qv (q_pick_t rfl rfl) rfl ?_
                  refine ARun.qv (q_pick_f rfl rfl) rfl ?_
                  refine ARun.qv (q_move rfl) rfl ?_
                  refine ARun.guard_df rfl rfl rfl (fun hc => ?_) (fun hc => ?_)
                  · rw [if_neg hc] at h
                    refine ARun.qv (q_move rfl) rfl ?_
                    refine ARun.guard_yes rfl rfl rfl ?_
                    refine ARun.qv (q_eql rfl rfl) rfl ?_
                    refine ARun.qv (q_pick_f rfl rfl) rfl ?_
                    refine ARun.qv (q_move rfl) rfl ?_
                    refine ARun.guard_df rfl rfl rfl (fun hc => ?_) (fun hc => ?_)
                    · rw [if_neg hc] at h
                      refine ARun.qv (q_move rfl) rfl ?_
                      refine ARun.guard_yes rfl rfl rfl ?_
                      refine ARun.qv (q_eql rfl rfl) rfl ?_
                      refine ARun.qv (q_pick_f rfl rfl) rfl ?_
                      refine ARun.qv (q_not_d rfl) rfl ?_
                      refine ARun.nil ?_
                      refine ATodo.stop ?_
                      exact ImpX.lessP (by exact ⟨rfl, rfl, rfl, rfl, True.intro⟩) (.nil) (ImpX.here ⟨decide (¬ ((c6.toNat : Int) = (95 : Int))), h, rfl⟩)
                    · rw [if_pos hc] at h
                      refine ARun.guard_no rfl rfl rfl rfl ?_
                      refine ARun.qv (q_pick_t rfl rfl) rfl ?_
                      refine ARun.qv (q_not rfl) rfl ?_
                      refine ARun.nil ?_
                      refine ATodo.stop ?_
                      exact ImpX.lessP (by exact ⟨rfl, rfl, rfl, rfl, True.intro⟩) (.nil) (ImpX.here ⟨!true, h, rfl⟩)
                  · rw [if_pos hc] at h
                    refine ARun.guard_no rfl rfl rfl rfl ?_
                    refine ARun.qv (q_pick_t rfl rfl) rfl ?_
                    refine ARun.qv (q_move rfl) rfl ?_
                    refine ARun.guard_no rfl rfl rfl rfl ?_
                    refine ARun.guard_no rfl rfl rfl rfl ?_
                    refine ARun.qv (q_pick_t rfl rfl) rfl ?_
                    refine ARun.qv (q_not rfl) rfl ?_
                    refine ARun.nil ?_
                    refine ATodo.stop ?_
                    exact ImpX.lessP (by exact ⟨rfl, rfl, rfl, rfl, True.intro⟩) (.nil) (ImpX.here ⟨!true, h, rfl⟩)
                · rw [if_neg hc] at h
                  refine ARun.guard_no rfl rfl rfl rfl ?_
                  refine ARun.guard_yes rfl rfl rfl ?_
                  refine ARun.qv (q_pick_f rfl rfl) rfl ?_
                  refine ARun.qv (q_pick_f rfl rfl) rfl ?_
                  refine ARun.qv (q_move rfl) rfl ?_
                  refine ARun.guard_yes rfl rfl rfl ?_
                  refine ARun.qv (q_move rfl) rfl ?_
                  refine ARun.guard_yes rfl rfl rfl ?_
                  refine ARun.qv (q_eql rfl rfl) rfl ?_
                  refine ARun.qv (q_pick_f rfl rfl) rfl ?_
                  refine ARun.qv (q_move rfl) rfl ?_
                  refine ARun.guard_df rfl rfl rfl (fun hc => ?_) (fun hc => ?_)
                  · rw [if_neg hc] at h
                    refine ARun.qv (q_move rfl) rfl ?_
                    refine ARun.guard_yes rfl rfl rfl ?_
                    refine ARun.qv (q_eql rfl rfl) rfl ?_
                    refine ARun.qv (q_pick_f rfl rfl) rfl ?_
                    refine ARun.qv (q_not_d rfl) rfl ?_
                    refine ARun.nil ?_
                    refine ATodo.stop ?_
                    exact ImpX.lessP (by exact ⟨rfl, rfl, rfl, rfl, True.intro⟩) (.nil) (ImpX.here ⟨decide (¬ ((c6.toNat : Int) = (95 : Int))), h, rfl⟩)
                  · rw [if_pos hc] at h
                    refine ARun.guard_no rfl rfl rfl rfl ?_
                    refine ARun.qv (q_pick_t rfl rfl) rfl ?_
                    refine ARun.qv (q_not rfl) rfl ?_
                    refine ARun.nil ?_
                    refine ATodo.stop ?_
                    exact ImpX.lessP (by exact ⟨rfl, rfl, rfl, rfl, True.intro⟩) (.nil) (ImpX.here ⟨!true, h, rfl⟩)
              · rw [if_pos hc] at h
                refine ARun.guard_no rfl rfl rfl rfl ?_
                refine ARun.guard_no rfl rfl rfl rfl ?_
                refine ARun.guard_und rfl rfl rfl ?_
                refine ARun.guard_und rfl rfl rfl ?_
                refine ARun.guard_no rfl rfl rfl rfl ?_
                refine ARun.qv (q_pick_t rfl rfl) rfl ?_
                refine ARun.qv (q_move rfl) rfl ?_
                refine ARun.guard_no rfl rfl rfl rfl ?_
                refine ARun.guard_no rfl rfl rfl rfl ?_
                refine ARun.qv (q_pick_t rfl rfl) rfl ?_
                refine ARun.qv (q_move rfl) rfl ?_
                refine ARun.guard_no rfl rfl rfl rfl ?_
                refine ARun.guard_no rfl rfl rfl rfl ?_
                refine ARun.qv (q_pick_t rfl rfl) rfl ?_
                refine ARun.qv (q_not rfl) rfl ?_
                refine ARun.nil ?_
                refine ATodo.stop ?_
                exact ImpX.lessP (by exact ⟨rfl, rfl, rfl, rfl, True.intro⟩) (.nil) (ImpX.here ⟨!true, h, rfl⟩)
            · rw [if_neg hc] at h
              refine ARun.guard_no rfl rfl rfl rfl ?_
              refine ARun.qv (q_pick_f rfl rfl) rfl ?_
              refine ARun.qv (q_move rfl) rfl ?_
              refine ARun.guard_yes rfl rfl rfl ?_
              refine ARun.qv (q_move rfl) rfl ?_
              refine ARun.guard_yes rfl rfl rfl ?_
              refine ARun.qv (q_geq rfl rfl) rfl ?_
              refine ARun.guard_yes rfl rfl rfl ?_
              refine ARun.qv (q_move rfl) rfl ?_
              refine ARun.guard_dt rfl rfl rfl (fun hc => ?_) (fun hc => ?_)
              · rw [if_pos hc] at h
                refine ARun.qv (q_move rfl) rfl ?_
                refine ARun.guard_yes rfl rfl rfl ?_
                refine ARun.qv (q_leq rfl rfl) rfl ?_
                refine ARun.guard_yes rfl rfl rfl ?_
                refine ARun.qv (q_pick_t rfl rfl) rfl ?_
                refine ARun.qv (q_pick_f rfl rfl) rfl ?_
                refine ARun.qv (q_move rfl) rfl ?_
                refine ARun.guard_df rfl rfl rfl (fun hc => ?_) (fun hc => ?_)
                · rw [if_neg hc] at h
                  refine ARun.qv (q_move rfl) rfl ?_
                  refine ARun.guard_yes rfl rfl rfl ?_
                  refine ARun.qv (q_eql rfl rfl) rfl ?_
                  refine ARun.qv (q_pick_f rfl rfl) rfl ?_
                  refine ARun.qv (q_move rfl) rfl ?_
                  refine ARun.guard_df rfl rfl rfl (fun hc => ?_) (fun hc => ?_)
                  · rw [if_neg hc] at h
                    refine ARun.qv (q_move rfl) rfl ?_
                    refine ARun.guard_yes rfl rfl rfl ?_
                    refine ARun.qv (q_eql rfl rfl) rfl ?_
                    refine ARun.qv (q_pick_f rfl rfl) rfl ?_
                    refine ARun.qv (q_not_d rfl) rfl ?_
                    refine ARun.nil ?_
                    refine ATodo.stop ?_
                    exact ImpX.lessP (by exact ⟨rfl, rfl, rfl, rfl, True.intro⟩) (.nil) (ImpX.here ⟨decide (¬ ((c6.toNat : Int) = (95 : Int))), h, rfl⟩)
                  · rw [if_pos hc] at h
                    refine ARun.guard_no rfl rfl rfl rfl ?_
                    refine ARun.qv (q_pick_t rfl rfl) rfl ?_
                    refine ARun.qv (q_not rfl) rfl ?_
                    refine ARun.nil ?_
                    refine ATodo.stop ?_
                    exact ImpX.lessP (by exact ⟨rfl, rfl, rfl, rfl, True.intro⟩) (.nil) (ImpX.here ⟨!true, h, rfl⟩)
                · rw [if_pos hc] at h
                  refine ARun.guard_no rfl rfl rfl rfl ?_
                  refine ARun.qv (q_pick_t rfl rfl) rfl ?_
                  refine ARun.qv (q_move rfl) rfl ?_
                  refine ARun.guard_no rfl rfl rfl rfl ?_
                  refine ARun.guard_no rfl rfl rfl rfl ?_
                  refine ARun.qv (q_pick_t rfl rfl) rfl ?_
                  refine ARun.qv (q_not rfl) rfl ?_
                  refine ARun.nil ?_
                  refine ATodo.stop ?_
                  exact ImpX.lessP (by exact ⟨rfl, rfl, rfl, rfl, True.intro⟩) (.nil) (ImpX.here ⟨!true, h, rfl⟩)
              · rw [if_neg hc] at h
                refine ARun.guard_no rfl rfl rfl rfl ?_
                refine ARun.guard_yes rfl rfl rfl ?_
                refine ARun.qv (q_pick_f rfl rfl) rfl ?_
                refine ARun.qv (q_pick_f rfl rfl) rfl ?_
                refine ARun.qv (q_move rfl) rfl ?_
                refine ARun.guard_yes rfl rfl rfl ?_
                refine ARun.qv (q_move rfl) rfl ?_
                refine ARun.guard_yes rfl rfl rfl ?_
                refine ARun.qv (q_eql rfl rfl) rfl ?_
                refine ARun.qv (q_pick_f rfl rfl) rfl ?_
                refine ARun.qv (q_move rfl) rfl ?_
                refine ARun.guard_df rfl rfl rfl (fun hc => ?_) (fun hc => ?_)
                · rw [if_neg hc] at h
                  refine ARun.qv (q_move rfl) rfl ?_
                  refine ARun.guard_yes rfl rfl rfl ?_
                  refine ARun.qv (q_eql rfl rfl) rfl ?_
                  refine ARun.qv (q_pick_f rfl rfl) rfl ?_
                  refine ARun.qv (q_not_d rfl) rfl ?_
                  refine ARun.nil ?_
                  refine ATodo.stop ?_
                  exact ImpX.lessP (by exact ⟨rfl, rfl, rfl, rfl, True.intro⟩) (.nil) (ImpX.here ⟨decide (¬ ((c6.toNat : Int) = (95 : Int))), h, rfl⟩)
                · rw [if_pos hc] at h
                  refine ARun.guard_no rfl rfl rfl rfl ?_
                  refine ARun.qv (q_pick_t rfl rfl) rfl ?_
                  refine ARun.qv (q_not rfl) rfl ?_
                  refine ARun.nil ?_
                  refine ATodo.stop ?_
                  exact ImpX.lessP (by exact ⟨rfl, rfl, rfl, rfl, True.intro⟩) (.nil) (ImpX.here ⟨!true, h, rfl⟩)
          · rintro σ' ⟨c7, h, rfl⟩
            unfold base_Key_j2 at h
            refine ATodo.cond rfl (fun hc => ?_) (fun hc => ?_)
            · replace h := iteT hc h
              refine ATodo.seq ?_
              refine ATodo.region ?_
              refine ARun.qv (q_assign rfl) rfl ?_
              refine ARun.nil ?_
              refine ATodo.ret ?_
              replace h := outL h hA1
              obtain rfl := Option.some.inj h
              exact ImpX.here ⟨_, .cons (.tmp _ _ rfl) .nil, rfl⟩
            · replace h := iteFb hc h
              refine ATodo.skip ?_
              refine ATodo.blk ?_
              refine ATodo.region ?_
              refine ARun.qv (q_addw rfl rfl) rfl ?_
              refine ARun.qv (q_move rfl) rfl ?_
              refine ARun.nil ?_
              refine ATodo.stop ?_
              obtain rfl := Option.some.inj h
              refine hJ1 _ _ rfl ?_
              exact ImpX.lessP (by exact ⟨rfl, rfl, rfl, True.intro⟩) (.nil) (ImpX.here rfl)
        · replace h := iteF hc h
          refine ATodo.exit rfl ?_
          replace h := outL h hA1
          refine ATodo.seq ?_
          refine ATodo.region ?_
          refine ARun.qv (q_assign rfl) rfl ?_
          refine ARun.nil ?_
          refine ATodo.ret ?_
          obtain rfl := Option.some.inj h
          exact ImpX.here ⟨_, .cons (.tmp _ _ rfl) .nil, rfl⟩

set_option maxHeartbeats 4000000 in
theorem base_Out_c {p0x0 : Int} {p1x0 : Int} {p2x0 : Int} {r : Bool} (h : base_Out p0x0 p1x0 p2x0 = r) : Pu Try.prog 109 [I p0x0, I p1x0, I p2x0] (.bool r) := by
  unfold base_Out at h
  refine ACall.bodyN Try.func109 rfl Try.ntmps109 Try.results109 rfl rfl ?_
  refine ATodo.seq ?_
  refine ATodo.region ?_
  refine ARun.qv (q_assign rfl) rfl ?_
  refine ARun.nil ?_
  refine ATodo.seq ?_
  refine ATodo.cut (fun σ' => ∃ (c1 : Bool), base_Out_j1 c1 = r ∧ σ' = ⟨15, [(6, .bool c1)], []⟩) ?_ ?_
  · refine ATodo.region ?_
    refine ARun.qv (q_move rfl) rfl ?_
    refine ARun.qv (q_move rfl) rfl ?_
    refine ARun.qv (q_lss rfl rfl) rfl ?_
    refine ARun.qv (q_move rfl) rfl ?_
    refine ARun.guard_df rfl rfl rfl (fun hc => ?_) (fun hc => ?_)
    · rw [orFd hc] at h
      refine ARun.qv (q_move rfl) rfl ?_
      refine ARun.guard_yes rfl rfl rfl ?_
      refine ARun.qv (q_move rfl) rfl ?_
      refine ARun.guard_yes rfl rfl rfl ?_
      refine ARun.qv (q_gtr rfl rfl) rfl ?_
      refine ARun.qv (q_pick_f rfl rfl) rfl ?_
      refine ARun.qv (q_assign rfl) rfl ?_
      refine ARun.nil ?_
      refine ATodo.stop ?_
      exact ImpX.lessP (by exact ⟨rfl, True.intro⟩) (.nil) (ImpX.here ⟨decide (p2x0 < p0x0), h, rfl⟩)
    · rw [orTd hc] at h
      refine ARun.guard_no rfl rfl rfl rfl ?_
      refine ARun.guard_no rfl rfl rfl rfl ?_
      refine ARun.qv (q_pick_t rfl rfl) rfl ?_
      refine ARun.qv (q_assign rfl) rfl ?_
      refine ARun.nil ?_
      refine ATodo.stop ?_
      exact ImpX.lessP (by exact ⟨rfl, True.intro⟩) (.nil) (ImpX.here ⟨true, h, rfl⟩)
  · rintro σ' ⟨c1, h, rfl⟩
    unfold base_Out_j1 at h
    refine ATodo.ret ?_
    obtain rfl := h
    exact ImpX.here ⟨_, .cons (.tmp _ _ rfl) .nil, rfl⟩

set_option maxHeartbeats 4000000 in
theorem place_isSpot_c {p0x0 : Spot} {r : Bool} (h : place_isSpot p0x0 = r) : Pu Try.prog 128 [.agg [I p0x0.X, I p0x0.Y]] (.bool r) := by
  unfold place_isSpot at h
  refine ACall.bodyN Try.func128 rfl Try.ntmps128 Try.results128 rfl rfl ?_
  refine ATodo.seq ?_
  refine ATodo.region ?_
  refine n_box rfl rfl rfl rfl (fun b1 => ?_)
  refine ARun.qv (q_assign rfl) rfl ?_
  refine ARun.nil ?_
  refine ATodo.seq ?_
  refine ATodo.cut (fun σ' => ∃ (c2 : Bool), place_isSpot_j1 c2 = r ∧ σ' = ⟨13, [(2, .bool c2)], []⟩) ?_ ?_
  · refine ATodo.region ?_
    refine ARun.qv (n_field_ptr rfl rfl) rfl ?_
    refine ARun.qv (q_load_ptr rfl rfl .here rfl) rfl ?_
    refine r_callp rfl (base_Out_c rfl) (CoL.refl _) rfl ?_
    refine ARun.qv (q_not rfl) rfl ?_
    refine ARun.qv (q_move rfl) rfl ?_
    refine ARun.guard rfl rfl rfl (fun hc => ?_) (fun hc => ?_)
    · rw [andTb hc] at h
      refine ARun.qv (n_field_ptr rfl rfl) rfl ?_
      refine ARun.guard_yes rfl rfl rfl ?_
      refine ARun.qv (q_load_ptr rfl rfl .here rfl) rfl ?_
      refine ARun.guard_yes rfl rfl rfl ?_
      refine r_callp rfl (base_Out_c rfl) (CoL.refl _) rfl ?_
      refine ARun.guard_yes rfl rfl rfl ?_
      refine ARun.qv (q_not rfl) rfl ?_
      refine ARun.qv (q_pick_t rfl rfl) rfl ?_
      refine ARun.qv (q_assign rfl) rfl ?_
      refine ARun.nil ?_
      refine ATodo.stop ?_
      exact ImpX.lessP (by exact ⟨rfl, True.intro⟩) (.nil) (ImpX.here ⟨!(base_Out p0x0.Y (-10000 : Int) (10000 : Int)), h, rfl⟩)
    · rw [andFb hc] at h
      refine ARun.guard_no rfl rfl rfl rfl ?_
      refine ARun.guard_no rfl rfl rfl rfl ?_
      refine ARun.guard_no rfl rfl rfl rfl ?_
      refine ARun.qv (q_pick_f rfl rfl) rfl ?_
      refine ARun.qv (q_assign rfl) rfl ?_
      refine ARun.nil ?_
      refine ATodo.stop ?_
      exact ImpX.lessP (by exact ⟨rfl, True.intro⟩) (.nil) (ImpX.here ⟨false, h, rfl⟩)
  · rintro σ' ⟨c2, h, rfl⟩
    unfold place_isSpot_j1 at h
    refine ATodo.ret ?_
    obtain rfl := h
    exact ImpX.here ⟨_, .cons (.tmp _ _ rfl) .nil, rfl⟩

set_option maxHeartbeats 4000000 in
theorem place_side_c {p0x0 : Spot} {p1x0 : Spot} {p2x0 : Spot} {r : Int} (h : place_side p0x0 p1x0 p2x0 = r) : Pu Try.prog 200 [.agg [I p0x0.X, I p0x0.Y], .agg [I p1x0.X, I p1x0.Y], .agg [I p2x0.X, I p2x0.Y]] (I r) := by
  unfold place_side at h
  refine ACall.bodyN Try.func200 rfl Try.ntmps200 Try.results200 rfl rfl ?_
  refine ATodo.seq ?_
  refine ATodo.region ?_
  refine n_box rfl rfl rfl rfl (fun b1 => ?_)
  refine n_box rfl rfl rfl rfl (fun b2 => ?_)
  refine n_box rfl rfl rfl rfl (fun b3 => ?_)
  refine ARun.qv (q_assign rfl) rfl ?_
  refine ARun.nil ?_
  refine ATodo.seq ?_
  refine ATodo.region ?_
  refine ARun.qv (n_field_ptr rfl rfl) rfl ?_
  refine ARun.qv (q_load_ptr rfl rfl (.next .here) rfl) rfl ?_
  refine ARun.qv (n_field_ptr rfl rfl) rfl ?_
  refine ARun.qv (q_load_ptr rfl rfl (.next (.next .here)) rfl) rfl ?_
  refine ARun.qv (q_subw rfl rfl) rfl ?_
  refine ARun.qv (n_field_ptr rfl rfl) rfl ?_
  refine ARun.qv (q_load_ptr rfl rfl .here rfl) rfl ?_
  refine ARun.qv (n_field_ptr rfl rfl) rfl ?_
  refine ARun.qv (q_load_ptr rfl rfl (.next (.next .here)) rfl) rfl ?_
  refine ARun.qv (q_subw rfl rfl) rfl ?_
  refine ARun.qv (q_mulw rfl rfl) rfl ?_
  refine ARun.qv (n_field_ptr rfl rfl) rfl ?_
  refine ARun.qv (q_load_ptr rfl rfl (.next .here) rfl) rfl ?_
  refine ARun.qv (n_field_ptr rfl rfl) rfl ?_
  refine ARun.qv (q_load_ptr rfl rfl (.next (.next .here)) rfl) rfl ?_
  refine ARun.qv (q_subw rfl rfl) rfl ?_
  refine ARun.qv (n_field_ptr rfl rfl) rfl ?_
  refine ARun.qv (q_load_ptr rfl rfl .here rfl) rfl ?_
  refine ARun.qv (n_field_ptr rfl rfl) rfl ?_
  refine ARun.qv (q_load_ptr rfl rfl (.next (.next .here)) rfl) rfl ?_
  refine ARun.qv (q_subw rfl rfl) rfl ?_
  refine ARun.qv (q_mulw rfl rfl) rfl ?_
  refine ARun.qv (q_subw rfl rfl) rfl ?_
  refine ARun.qv (q_assign rfl) rfl ?_
  refine ARun.nil ?_
  refine ATodo.ret ?_
  obtain rfl := h
  exact ImpX.here ⟨_, .cons (.tmp _ _ rfl) .nil, rfl⟩

set_option maxHeartbeats 4000000 in
theorem place_on_c {p0x0 : Spot} {p1x0 : Spot} {p2x0 : Spot} {r : Bool} (h : place_on p0x0 p1x0 p2x0 = r) : Pu Try.prog 226 [.agg [I p0x0.X, I p0x0.Y], .agg [I p1x0.X, I p1x0.Y], .agg [I p2x0.X, I p2x0.Y]] (.bool r) := by
  unfold place_on at h
  refine ACall.bodyN Try.func226 rfl Try.ntmps226 Try.results226 rfl rfl ?_
  refine ATodo.seq ?_
  refine ATodo.region ?_
  refine n_box rfl rfl rfl rfl (fun b1 => ?_)
  refine n_box rfl rfl rfl rfl (fun b2 => ?_)
  refine n_box rfl rfl rfl rfl (fun b3 => ?_)
  refine ARun.qv (q_assign rfl) rfl ?_
  refine ARun.nil ?_
  refine ATodo.seq ?_
  refine ATodo.cut (fun σ' => ∃ (c4 : Bool), place_on_j1 c4 = r ∧ σ' = ⟨52, [(6, .bool c4)], []⟩) ?_ ?_
  · refine ATodo.region ?_
    refine ARun.qv (q_load_ptr_all rfl rfl (.next (.next .here)) rfl) rfl ?_
    refine ARun.qv (q_load_ptr_all rfl rfl (.next .here) rfl) rfl ?_
    refine ARun.qv (q_load_ptr_all rfl rfl .here rfl) rfl ?_
    refine r_callp rfl (place_side_c rfl) (CoL.refl _) rfl ?_
    refine ARun.qv (q_eql rfl rfl) rfl ?_
    refine ARun.qv (q_move rfl) rfl ?_
    refine ARun.guard_dt rfl rfl rfl (fun hc => ?_) (fun hc => ?_)
    · rw [andTd hc] at h
      refine ARun.qv (n_field_ptr rfl rfl) rfl ?_
      refine ARun.guard_yes rfl rfl rfl ?_
      refine ARun.qv (q_load_ptr rfl rfl .here rfl) rfl ?_
      refine ARun.guard_yes rfl rfl rfl ?_
      refine ARun.qv (n_field_ptr rfl rfl) rfl ?_
      refine ARun.guard_yes rfl rfl rfl ?_
      refine ARun.qv (q_load_ptr rfl rfl (.next (.next .here)) rfl) rfl ?_
      refine ARun.guard_yes rfl rfl rfl ?_
      refine ARun.qv (n_field_ptr rfl rfl) rfl ?_
      refine ARun.guard_yes rfl rfl rfl ?_
      refine ARun.qv (q_load_ptr rfl rfl (.next .here) rfl) rfl ?_
      refine ARun.guard_yes rfl rfl rfl ?_
      refine ARun.qv (q_min rfl rfl) rfl ?_
      refine ARun.guard_yes rfl rfl rfl ?_
      refine ARun.qv (q_geq rfl rfl) rfl ?_
      refine ARun.qv (q_pick_t rfl rfl) rfl ?_
      refine ARun.qv (q_move rfl) rfl ?_
      refine ARun.guard_dt rfl rfl rfl (fun hc => ?_) (fun hc => ?_)
      · rw [andTd hc] at h
        refine ARun.qv (n_field_ptr rfl rfl) rfl ?_
        refine ARun.guard_yes rfl rfl rfl ?_
        refine ARun.qv (q_load_ptr rfl rfl .here rfl) rfl ?_
        refine ARun.guard_yes rfl rfl rfl ?_
        refine ARun.qv (n_field_ptr rfl rfl) rfl ?_
        refine ARun.guard_yes rfl rfl rfl ?_
        refine ARun.qv (q_load_ptr rfl rfl (.next (.next .here)) rfl) rfl ?_
        refine ARun.guard_yes rfl rfl rfl ?_
        refine ARun.qv (n_field_ptr rfl rfl) rfl ?_
        refine ARun.guard_yes rfl rfl rfl ?_
        refine ARun.qv (q_load_ptr rfl rfl (.next .here) rfl) rfl ?_
        refine ARun.guard_yes rfl rfl rfl ?_
        refine ARun.qv (q_max rfl rfl) rfl ?_
        refine ARun.guard_yes rfl rfl rfl ?_
        refine ARun.qv (q_leq rfl rfl) rfl ?_
        refine ARun.qv (q_pick_t rfl rfl) rfl ?_
        refine ARun.qv (q_move rfl) rfl ?_
        refine ARun.guard_dt rfl rfl rfl (fun hc => ?_) (fun hc => ?_)
        · rw [andTd hc] at h
          refine ARun.qv (n_field_ptr rfl rfl) rfl ?_
          refine ARun.guard_yes rfl rfl rfl ?_
          refine ARun.qv (q_load_ptr rfl rfl .here rfl) rfl ?_
          refine ARun.guard_yes rfl rfl rfl ?_
          refine ARun.qv (n_field_ptr rfl rfl) rfl ?_
          refine ARun.guard_yes rfl rfl rfl ?_
          refine ARun.qv (q_load_ptr rfl rfl (.next (.next .here)) rfl) rfl ?_
          refine ARun.guard_yes rfl rfl rfl ?_
          refine ARun.qv (n_field_ptr rfl rfl) rfl ?_
          refine ARun.guard_yes rfl rfl rfl ?_
          refine ARun.qv (q_load_ptr rfl rfl (.next .here) rfl) rfl ?_
          refine ARun.guard_yes rfl rfl rfl ?_
          refine ARun.qv (q_min rfl rfl) rfl ?_
          refine ARun.guard_yes rfl rfl rfl ?_
          refine ARun.qv (q_geq rfl rfl) rfl ?_
          refine ARun.qv (q_pick_t rfl rfl) rfl ?_
          refine ARun.qv (q_move rfl) rfl ?_
          refine ARun.guard_dt rfl rfl rfl (fun hc => ?_) (fun hc => ?_)
          · rw [andTd hc] at h
            refine ARun.qv (n_field_ptr rfl rfl) rfl ?_
            refine ARun.guard_yes rfl rfl rfl ?_
            refine ARun.qv (q_load_ptr rfl rfl .here rfl) rfl ?_
            refine ARun.guard_yes rfl rfl rfl ?_
            refine ARun.qv (n_field_ptr rfl rfl) rfl ?_
            refine ARun.guard_yes rfl rfl rfl ?_
            refine ARun.qv (q_load_ptr rfl rfl (.next (.next .here)) rfl) rfl ?_
            refine ARun.guard_yes rfl rfl rfl ?_
            refine ARun.qv (n_field_ptr rfl rfl) rfl ?_
            refine ARun.guard_yes rfl rfl rfl ?_
            refine ARun.qv (q_load_ptr rfl rfl (.next .here) rfl) rfl ?_
            refine ARun.guard_yes rfl rfl rfl ?_
            refine ARun.qv (q_max rfl rfl) rfl ?_
            refine ARun.guard_yes rfl rfl rfl ?_
            refine ARun.qv (q_leq rfl rfl) rfl ?_
            refine ARun.qv (q_pick_t rfl rfl) rfl ?_
            refine ARun.qv (q_assign rfl) rfl ?_
            refine ARun.nil ?_
            refine ATodo.stop ?_
            exact ImpX.lessP (by exact ⟨rfl, True.intro⟩) (.nil) (ImpX.here ⟨decide (p2x0.Y ≤ (max p0x0.Y p1x0.Y)), h, rfl⟩)
          · rw [andFd hc] at h
            refine ARun.guard_no rfl rfl rfl rfl ?_
            refine ARun.guard_no rfl rfl rfl rfl ?_
            refine ARun.guard_no rfl rfl rfl rfl ?_
            refine ARun.guard_no rfl rfl rfl rfl ?_
            refine ARun.guard_no rfl rfl rfl rfl ?_
            refine ARun.guard_no rfl rfl rfl rfl ?_
            refine ARun.guard_no rfl rfl rfl rfl ?_
            refine ARun.qv (q_pick_f rfl rfl) rfl ?_
            refine ARun.qv (q_assign rfl) rfl ?_
            refine ARun.nil ?_
            refine ATodo.stop ?_
            exact ImpX.lessP (by exact ⟨rfl, True.intro⟩) (.nil) (ImpX.here ⟨false, h, rfl⟩)
        · rw [andFd hc] at h
          refine ARun.guard_no rfl rfl rfl rfl ?_
          refine ARun.guard_no rfl rfl rfl rfl ?_
          refine ARun.guard_no rfl rfl rfl rfl ?_
          refine ARun.guard_no rfl rfl rfl rfl ?_
          refine ARun.guard_no rfl rfl rfl rfl ?_
          refine ARun.guard_no rfl rfl rfl rfl ?_
          refine ARun.guard_no rfl rfl rfl rfl ?_
          refine ARun.qv (q_pick_f rfl rfl) rfl ?_
          refine ARun.qv (q_move rfl) rfl ?_
          refine ARun.guard_no rfl rfl rfl rfl ?_
          refine ARun.guard_no rfl rfl rfl rfl ?_
          refine ARun.guard_no rfl rfl rfl rfl ?_
          refine ARun.guard_no rfl rfl rfl rfl ?_
          refine ARun.guard_no rfl rfl rfl rfl ?_
          refine ARun.guard_no rfl rfl rfl rfl ?_
          refine ARun.guard_no rfl rfl rfl rfl ?_
          refine ARun.guard_no rfl rfl rfl rfl ?_
          refine ARun.qv (q_pick_f rfl rfl) rfl ?_
          refine ARun.qv (q_assign rfl) rfl ?_
          refine ARun.nil ?_
          refine ATodo.stop ?_
          exact ImpX.lessP (by exact ⟨rfl, True.intro⟩) (.nil) (ImpX.here ⟨false, h, rfl⟩)
      · rw [andFd hc] at h
        refine ARun.guard_no rfl rfl rfl rfl ?_
        refine ARun.guard_no rfl rfl rfl rfl ?_
        refine ARun.guard_no rfl rfl rfl rfl ?_
        refine ARun.guard_no rfl rfl rfl rfl ?_
        refine ARun.guard_no rfl rfl rfl rfl ?_
        refine ARun.guard_no rfl rfl rfl rfl ?_
        refine ARun.guard_no rfl rfl rfl rfl ?_
        refine ARun.qv (q_pick_f rfl rfl) rfl ?_
        refine ARun.qv (q_move rfl) rfl ?_
        refine ARun.guard_no rfl rfl rfl rfl ?_
        refine ARun.guard_no rfl rfl rfl rfl ?_
        refine ARun.guard_no rfl rfl rfl rfl ?_
        refine ARun.guard_no rfl rfl rfl rfl ?_
        refine ARun.guard_no rfl rfl rfl rfl ?_
        refine ARun.guard_no rfl rfl rfl rfl ?_
        refine ARun.guard_no rfl rfl rfl rfl ?_
        refine ARun.guard_no rfl rfl rfl rfl ?_
        refine ARun.qv (q_pick_f rfl rfl) rfl ?_
        refine ARun.qv (q_move rfl) rfl ?_
        refine ARun.guard_no rfl rfl rfl rfl ?_
        refine ARun.guard_no rfl rfl rfl rfl ?_
        refine ARun.guard_no rfl rfl rfl rfl ?_
        refine ARun.guard_no rfl rfl rfl rfl ?_
        refine ARun.guard_no rfl rfl rfl rfl ?_
        refine ARun.guard_no rfl rfl rfl rfl ?_
        refine ARun.guard_no rfl rfl rfl rfl ?_
        refine ARun.guard_no rfl rfl rfl rfl ?_
        refine ARun.qv (q_pick_f rfl rfl) rfl ?_
        refine ARun.qv (q_assign rfl) rfl ?_
        refine ARun.nil ?_
        refine ATodo.stop ?_
        exact ImpX.lessP (by exact ⟨rfl, True.intro⟩) (.nil) (ImpX.here ⟨false, h, rfl⟩)
    · rw [andFd hc] at h
      refine ARun.guard_no rfl rfl rfl rfl ?_
      refine ARun.guard_no rfl rfl rfl rfl ?_
      refine ARun.guard_no rfl rfl rfl rfl ?_
      refine ARun.guard_no rfl rfl rfl rfl ?_
      refine ARun.guard_no rfl rfl rfl rfl ?_
      refine ARun.guard_no rfl rfl rfl rfl ?_
      refine ARun.guard_no rfl rfl rfl rfl ?_
      refine ARun.qv (q_pick_f rfl rfl) rfl ?_
      refine ARun.qv (q_move rfl) rfl ?_
      refine ARun.guard_no rfl rfl rfl rfl ?_
      refine ARun.guard_no rfl rfl rfl rfl ?_
      refine ARun.guard_no rfl rfl rfl rfl ?_
      refine ARun.guard_no rfl rfl rfl rfl ?_
      refine ARun.guard_no rfl rfl rfl rfl ?_
      refine ARun.guard_no rfl rfl rfl rfl ?_
      refine ARun.guard_no rfl rfl rfl rfl ?_
      refine ARun.guard_no rfl rfl rfl rfl ?_
      refine ARun.qv (q_pick_f rfl rfl) rfl ?_
      refine ARun.qv (q_move rfl) rfl ?_
      refine ARun.guard_no rfl rfl rfl rfl ?_
      refine ARun.guard_no rfl rfl rfl rfl ?_
      refine ARun.guard_no rfl rfl rfl rfl ?_
      refine ARun.guard_no rfl rfl rfl rfl ?_
      refine ARun.guard_no rfl rfl rfl rfl ?_
      refine ARun.guard_no rfl rfl rfl rfl ?_
      refine ARun.guard_no rfl rfl rfl rfl ?_
      refine ARun.guard_no rfl rfl rfl rfl ?_
      refine ARun.qv (q_pick_f rfl rfl) rfl ?_
      refine ARun.qv (q_move rfl) rfl ?_
      refine ARun.guard_no rfl rfl rfl rfl ?_
      refine ARun.guard_no rfl rfl rfl rfl ?_
      refine ARun.guard_no rfl rfl rfl rfl ?_
      refine ARun.guard_no rfl rfl rfl rfl ?_
      refine ARun.guard_no rfl rfl rfl rfl ?_
      refine ARun.guard_no rfl rfl rfl rfl ?_
      refine ARun.guard_no rfl rfl rfl rfl ?_
      refine ARun.guard_no rfl rfl rfl rfl ?_
      refine ARun.qv (q_pick_f rfl rfl) rfl ?_
      refine ARun.qv (q_assign rfl) rfl ?_
      refine ARun.nil ?_
      refine ATodo.stop ?_
      exact ImpX.lessP (by exact ⟨rfl, True.intro⟩) (.nil) (ImpX.here ⟨false, h, rfl⟩)
  · rintro σ' ⟨c4, h, rfl⟩
    unfold place_on_j1 at h
    refine ATodo.ret ?_
    obtain rfl := h
    exact ImpX.here ⟨_, .cons (.tmp _ _ rfl) .nil, rfl⟩

set_option maxHeartbeats 4000000 in
theorem cmp_isNaN_int_c {p0x0 : Int} {r : Bool} (h : cmp_isNaN_int p0x0 = r) : Pu Try.prog 232 [I p0x0] (.bool r) := by
  unfold cmp_isNaN_int at h
  refine ACall.bodyN Try.func232 rfl Try.ntmps232 Try.results232 rfl rfl ?_
  refine ATodo.seq ?_
  refine ATodo.region ?_
  refine ARun.qv (q_assign rfl) rfl ?_
  refine ARun.nil ?_
  refine ATodo.seq ?_
  refine ATodo.region ?_
  refine ARun.qv (q_move rfl) rfl ?_
  refine ARun.qv (q_move rfl) rfl ?_
  refine ARun.qv (q_neq rfl rfl) rfl ?_
  refine ARun.qv (q_assign rfl) rfl ?_
  refine ARun.nil ?_
  refine ATodo.ret ?_
  obtain rfl := h
  exact ImpX.here ⟨_, .cons (.tmp _ _ rfl) .nil, rfl⟩

set_option maxHeartbeats 4000000 in
theorem cmp_Compare_int_c {p0x0 : Int} {p1x0 : Int} {r : Int} (h : cmp_Compare_int p0x0 p1x0 = r) : Pu Try.prog 197 [I p0x0, I p1x0] (I r) := by
  unfold cmp_Compare_int at h
  refine ACall.bodyN Try.func197 rfl Try.ntmps197 Try.results197 rfl rfl ?_
  refine ATodo.seq ?_
  refine ATodo.region ?_
  refine ARun.qv (q_assign rfl) rfl ?_
  refine ARun.nil ?_
  refine ATodo.seq ?_
  refine ATodo.region ?_
  refine ARun.qv (q_move rfl) rfl ?_
  refine r_callp rfl (cmp_isNaN_int_c rfl) (CoL.refl _) rfl ?_
  refine ARun.qv (q_assign rfl) rfl ?_
  refine ARun.nil ?_
  refine ATodo.seq ?_
  refine ATodo.region ?_
  refine ARun.qv (q_move rfl) rfl ?_
  refine r_callp rfl (cmp_isNaN_int_c rfl) (CoL.refl _) rfl ?_
  refine ARun.qv (q_assign rfl) rfl ?_
  refine ARun.nil ?_
  refine ATodo.seq ?_
  refine ATodo.seq ?_
  refine ATodo.region ?_
  refine ARun.qv (q_move rfl) rfl ?_
  refine ARun.nil ?_
  refine ATodo.cond rfl (fun hc => ?_) (fun hc => ?_)
  · replace h := iteT hc h
    refine ATodo.seq ?_
    refine ATodo.seq ?_
    refine ATodo.region ?_
    refine ARun.qv (q_move rfl) rfl ?_
    refine ARun.nil ?_
    refine ATodo.cond rfl (fun hc => ?_) (fun hc => ?_)
    · replace h := iteT hc h
      refine ATodo.seq ?_
      refine ATodo.region ?_
      refine ARun.qv (q_assign rfl) rfl ?_
      refine ARun.nil ?_
      refine ATodo.ret ?_
      obtain rfl := h
      exact ImpX.here ⟨_, .cons (.tmp _ _ rfl) .nil, rfl⟩
    · replace h := iteFb hc h
      refine ATodo.skip ?_
      refine ATodo.seq ?_
      refine ATodo.region ?_
      refine ARun.qv (q_assign rfl) rfl ?_
      refine ARun.nil ?_
      refine ATodo.ret ?_
      obtain rfl := h
      exact ImpX.here ⟨_, .cons (.tmp _ _ rfl) .nil, rfl⟩
  · replace h := iteFb hc h
    refine ATodo.skip ?_
    refine ATodo.seq ?_
    refine ATodo.seq ?_
    refine ATodo.region ?_
    refine ARun.qv (q_move rfl) rfl ?_
    refine ARun.nil ?_
    refine ATodo.cond rfl (fun hc => ?_) (fun hc => ?_)
    · replace h := iteT hc h
      refine ATodo.seq ?_
      refine ATodo.region ?_
      refine ARun.qv (q_assign rfl) rfl ?_
      refine ARun.nil ?_
      refine ATodo.ret ?_
      obtain rfl := h
      exact ImpX.here ⟨_, .cons (.tmp _ _ rfl) .nil, rfl⟩
    · replace h := iteFb hc h
      refine ATodo.skip ?_
      refine ATodo.seq ?_
      refine ATodo.seq ?_
      refine ATodo.region ?_
      refine ARun.qv (q_move rfl) rfl ?_
      refine ARun.qv (q_move rfl) rfl ?_
      refine ARun.qv (q_lss rfl rfl) rfl ?_
      refine ARun.nil ?_
      refine ATodo.cond_d rfl (fun hc => ?_) (fun hc => ?_)
      · replace h := iteT hc h
        refine ATodo.seq ?_
        refine ATodo.region ?_
        refine ARun.qv (q_assign rfl) rfl ?_
        refine ARun.nil ?_
        refine ATodo.ret ?_
        obtain rfl := h
        exact ImpX.here ⟨_, .cons (.tmp _ _ rfl) .nil, rfl⟩
      · replace h := iteF hc h
        refine ATodo.skip ?_
        refine ATodo.seq ?_
        refine ATodo.seq ?_
        refine ATodo.region ?_
        refine ARun.qv (q_move rfl) rfl ?_
        refine ARun.qv (q_move rfl) rfl ?_
        refine ARun.qv (q_gtr rfl rfl) rfl ?_
        refine ARun.nil ?_
        refine ATodo.cond_d rfl (fun hc => ?_) (fun hc => ?_)
        · replace h := iteT hc h
          refine ATodo.seq ?_
          refine ATodo.region ?_
          refine ARun.qv (q_assign rfl) rfl ?_
          refine ARun.nil ?_
          refine ATodo.ret ?_
          obtain rfl := h
          exact ImpX.here ⟨_, .cons (.tmp _ _ rfl) .nil, rfl⟩
        · replace h := iteF hc h
          refine ATodo.skip ?_
          refine ATodo.seq ?_
          refine ATodo.region ?_
          refine ARun.qv (q_assign rfl) rfl ?_
          refine ARun.nil ?_
          refine ATodo.ret ?_
          obtain rfl := h
          exact ImpX.here ⟨_, .cons (.tmp _ _ rfl) .nil, rfl⟩

set_option maxHeartbeats 4000000 in
theorem place_meets_c {p0x0 : Spot} {p1x0 : Spot} {p2x0 : Spot} {p3x0 : Spot} {r : Bool} (h : place_meets p0x0 p1x0 p2x0 p3x0 = r) : Pu Try.prog 217 [.agg [I p0x0.X, I p0x0.Y], .agg [I p1x0.X, I p1x0.Y], .agg [I p2x0.X, I p2x0.Y], .agg [I p3x0.X, I p3x0.Y]] (.bool r) := by
  unfold place_meets at h
  refine ACall.bodyN Try.func217 rfl Try.ntmps217 Try.results217 rfl rfl ?_
  refine ATodo.seq ?_
  refine ATodo.region ?_
  refine n_box rfl rfl rfl rfl (fun b1 => ?_)
  refine n_box rfl rfl rfl rfl (fun b2 => ?_)
  refine n_box rfl rfl rfl rfl (fun b3 => ?_)
  refine n_box rfl rfl rfl rfl (fun b4 => ?_)
  refine ARun.qv (q_assign rfl) rfl ?_
  refine ARun.nil ?_
  refine ATodo.seq ?_
  refine ATodo.seq ?_
  refine ATodo.cut (fun σ' => ∃ (c5 : Bool), place_meets_j1 p0x0 p1x0 p2x0 p3x0 c5 = r ∧ σ' = ⟨65, [(4, .ptr b1 0), (5, .ptr b2 0), (6, .ptr b3 0), (7, .ptr b4 0), (34, .bool c5)], [(b1, .cells [I p0x0.X, I p0x0.Y]), (b2, .cells [I p1x0.X, I p1x0.Y]), (b3, .cells [I p2x0.X, I p2x0.Y]), (b4, .cells [I p3x0.X, I p3x0.Y])]⟩) ?_ ?_
  · refine ATodo.region ?_
    refine ARun.qv (q_load_ptr_all rfl rfl (.next (.next (.next .here))) rfl) rfl ?_
    refine ARun.qv (q_load_ptr_all rfl rfl (.next (.next .here)) rfl) rfl ?_
    refine ARun.qv (q_load_ptr_all rfl rfl (.next .here) rfl) rfl ?_
    refine r_callp rfl (place_on_c rfl) (CoL.refl _) rfl ?_
    refine ARun.qv (q_move rfl) rfl ?_
    refine ARun.guard rfl rfl rfl (fun hc => ?_) (fun hc => ?_)
    · rw [orFb hc] at h
      refine ARun.qv (q_load_ptr_all rfl rfl (.next (.next (.next .here))) rfl) rfl ?_
      refine ARun.guard_yes rfl rfl rfl ?_
      refine ARun.qv (q_load_ptr_all rfl rfl (.next (.next .here)) rfl) rfl ?_
      refine ARun.guard_yes rfl rfl rfl ?_
      refine ARun.qv (q_load_ptr_all rfl rfl .here rfl) rfl ?_
      refine ARun.guard_yes rfl rfl rfl ?_
      refine r_callp rfl (place_on_c rfl) (CoL.refl _) rfl ?_
      refine ARun.qv (q_pick_f rfl rfl) rfl ?_
      refine ARun.qv (q_move rfl) rfl ?_
      refine ARun.guard rfl rfl rfl (fun hc => ?_) (fun hc => ?_)
      · rw [orFb hc] at h
        refine ARun.qv (q_load_ptr_all rfl rfl (.next .here) rfl) rfl ?_
        refine ARun.guard_yes rfl rfl rfl ?_
        refine ARun.qv (q_load_ptr_all rfl rfl .here rfl) rfl ?_
        refine ARun.guard_yes rfl rfl rfl ?_
        refine ARun.qv (q_load_ptr_all rfl rfl (.next (.next (.next .here))) rfl) rfl ?_
        refine ARun.guard_yes rfl rfl rfl ?_
        refine r_callp rfl (place_on_c rfl) (CoL.refl _) rfl ?_
        refine ARun.qv (q_pick_f rfl rfl) rfl ?_
        refine ARun.qv (q_move rfl) rfl ?_
        refine ARun.guard rfl rfl rfl (fun hc => ?_) (fun hc => ?_)
        · rw [orFb hc] at h
          refine ARun.qv (q_load_ptr_all rfl rfl (.next .here) rfl) rfl ?_
          refine ARun.guard_yes rfl rfl rfl ?_
          refine ARun.qv (q_load_ptr_all rfl rfl .here rfl) rfl ?_
          refine ARun.guard_yes rfl rfl rfl ?_
          refine ARun.qv (q_load_ptr_all rfl rfl (.next (.next .here)) rfl) rfl ?_
          refine ARun.guard_yes rfl rfl rfl ?_
          refine r_callp rfl (place_on_c rfl) (CoL.refl _) rfl ?_
          refine ARun.qv (q_pick_f rfl rfl) rfl ?_
          refine ARun.nil ?_
          refine ATodo.stop ?_
          exact ImpX.lessP (by exact ⟨rfl, rfl, rfl, rfl, rfl, True.intro⟩) (.cons (.next (.next (.next .here))) (.cons (.next (.next .here)) (.cons (.next .here) (.cons .here .nil)))) (ImpX.here ⟨(place_on p2x0 p3x0 p1x0), h, rfl⟩)
        · rw [orTb hc] at h
          refine ARun.guard_no rfl rfl rfl rfl ?_
          refine ARun.guard_no rfl rfl rfl rfl ?_
          refine ARun.guard_no rfl rfl rfl rfl ?_
          refine ARun.qv (q_pick_t rfl rfl) rfl ?_
          refine ARun.nil ?_
          refine ATodo.stop ?_
          exact ImpX.lessP (by exact ⟨rfl, rfl, rfl, rfl, rfl, True.intro⟩) (.cons (.next (.next (.next .here))) (.cons (.next (.next .here)) (.cons (.next .here) (.cons .here .nil)))) (ImpX.here ⟨true, h, rfl⟩)
      · rw [orTb hc] at h
        refine ARun.guard_no rfl rfl rfl rfl ?_
        refine ARun.guard_no rfl rfl rfl rfl ?_
        refine ARun.guard_no rfl rfl rfl rfl ?_
        refine ARun.qv (q_pick_t rfl rfl) rfl ?_
        refine ARun.qv (q_move rfl) rfl ?_
        refine ARun.guard_no rfl rfl rfl rfl ?_
        refine ARun.guard_no rfl rfl rfl rfl ?_
        refine ARun.guard_no rfl rfl rfl rfl ?_
        refine ARun.guard_no rfl rfl rfl rfl ?_
        refine ARun.qv (q_pick_t rfl rfl) rfl ?_
        refine ARun.nil ?_
        refine ATodo.stop ?_
        exact ImpX.lessP (by exact ⟨rfl, rfl, rfl, rfl, rfl, True.intro⟩) (.cons (.next (.next (.next .here))) (.cons (.next (.next .here)) (.cons (.next .here) (.cons .here .nil)))) (ImpX.here ⟨true, h, rfl⟩)
    · rw [orTb hc] at h
      refine ARun.guard_no rfl rfl rfl rfl ?_
      refine ARun.guard_no rfl rfl rfl rfl ?_
      refine ARun.guard_no rfl rfl rfl rfl ?_
      refine ARun.qv (q_pick_t rfl rfl) rfl ?_
      refine ARun.qv (q_move rfl) rfl ?_
      refine ARun.guard_no rfl rfl rfl rfl ?_
      refine ARun.guard_no rfl rfl rfl rfl ?_
      refine ARun.guard_no rfl rfl rfl rfl ?_
      refine ARun.guard_no rfl rfl rfl rfl ?_
      refine ARun.qv (q_pick_t rfl rfl) rfl ?_
      refine ARun.qv (q_move rfl) rfl ?_
      refine ARun.guard_no rfl rfl rfl rfl ?_
      refine ARun.guard_no rfl rfl rfl rfl ?_
      refine ARun.guard_no rfl rfl rfl rfl ?_
      refine ARun.guard_no rfl rfl rfl rfl ?_
      refine ARun.qv (q_pick_t rfl rfl) rfl ?_
      refine ARun.nil ?_
      refine ATodo.stop ?_
      exact ImpX.lessP (by exact ⟨rfl, rfl, rfl, rfl, rfl, True.intro⟩) (.cons (.next (.next (.next .here))) (.cons (.next (.next .here)) (.cons (.next .here) (.cons .here .nil)))) (ImpX.here ⟨true, h, rfl⟩)
  · rintro σ' ⟨c5, h, rfl⟩
    unfold place_meets_j1 at h
    refine ATodo.cond rfl (fun hc => ?_) (fun hc => ?_)
    · replace h := iteT hc h
      refine ATodo.seq ?_
      refine ATodo.region ?_
      refine ARun.qv (q_assign rfl) rfl ?_
      refine ARun.nil ?_
      refine ATodo.ret ?_
      obtain rfl := h
      exact ImpX.here ⟨_, .cons (.tmp _ _ rfl) .nil, rfl⟩
    · replace h := iteFb hc h
      refine ATodo.skip ?_
      refine ATodo.seq ?_
      refine ATodo.regionM (id := 3) (A := [0, 0, 0, 7, 15, 0, 0, 0, 255, 511, 0, 0, 0, 8191, 16383, 0, 0, 0, 262143, 524287, 1048575, 2097151, 4194303, 8388607]) 24 mixed rfl (by kernel_rfl) (by kernel_rfl) ?_
      refine AM.qv (q_load_ptr_all rfl rfl .here rfl) rfl ?_
      refine AM.qv (q_load_ptr_all rfl rfl (.next .here) rfl) rfl ?_
      refine AM.qv (q_load_ptr_all rfl rfl (.next (.next .here)) rfl) rfl ?_
      refine AM.callp rfl (place_side_c rfl) (CoL.refl _) rfl ?_
      refine AM.callp rfl (cmp_Compare_int_c rfl) (CoL.refl _) rfl ?_
      refine AM.qv (q_load_ptr_all rfl rfl .here rfl) rfl ?_
      refine AM.qv (q_load_ptr_all rfl rfl (.next .here) rfl) rfl ?_
      refine AM.qv (q_load_ptr_all rfl rfl (.next (.next (.next .here))) rfl) rfl ?_
      refine AM.callp rfl (place_side_c rfl) (CoL.refl _) rfl ?_
      refine AM.callp rfl (cmp_Compare_int_c rfl) (CoL.refl _) rfl ?_
      refine AM.qv (q_load_ptr_all rfl rfl (.next (.next .here)) rfl) rfl ?_
      refine AM.qv (q_load_ptr_all rfl rfl (.next (.next (.next .here))) rfl) rfl ?_
      refine AM.qv (q_load_ptr_all rfl rfl .here rfl) rfl ?_
      refine AM.callp rfl (place_side_c rfl) (CoL.refl _) rfl ?_
      refine AM.callp rfl (cmp_Compare_int_c rfl) (CoL.refl _) rfl ?_
      refine AM.qv (q_load_ptr_all rfl rfl (.next (.next .here)) rfl) rfl ?_
      refine AM.qv (q_load_ptr_all rfl rfl (.next (.next (.next .here))) rfl) rfl ?_
      refine AM.qv (q_load_ptr_all rfl rfl (.next .here) rfl) rfl ?_
      refine AM.callp rfl (place_side_c rfl) (CoL.refl _) rfl ?_
      refine AM.callp rfl (cmp_Compare_int_c rfl) (CoL.refl _) rfl ?_
      refine AM.qv (q_assign rfl) rfl ?_
      refine AM.qv (q_assign rfl) rfl ?_
      refine AM.qv (q_assign rfl) rfl ?_
      refine AM.qv (q_assign rfl) rfl ?_
      refine AM.nil ?_
      refine ARun.nil ?_
      refine ATodo.seq ?_
      refine ATodo.cut (fun σ' => ∃ (c6 : Bool), place_meets_j2 c6 = r ∧ σ' = ⟨65, [(8, .bool c6)], []⟩) ?_ ?_
      · refine ATodo.region ?_
        refine ARun.qv (q_move rfl) rfl ?_
        refine ARun.qv (q_move rfl) rfl ?_
        refine ARun.qv (q_mulw rfl rfl) rfl ?_
        refine ARun.qv (q_lss rfl rfl) rfl ?_
        refine ARun.qv (q_move rfl) rfl ?_
        refine ARun.guard_dt rfl rfl rfl (fun hc => ?_) (fun hc => ?_)
        · rw [andTd hc] at h
          refine ARun.qv (q_move rfl) rfl ?_
          refine ARun.guard_yes rfl rfl rfl ?_
          refine ARun.qv (q_move rfl) rfl ?_
          refine ARun.guard_yes rfl rfl rfl ?_
          refine ARun.qv (q_mulw rfl rfl) rfl ?_
          refine ARun.guard_yes rfl rfl rfl ?_
          refine ARun.qv (q_lss rfl rfl) rfl ?_
          refine ARun.qv (q_pick_t rfl rfl) rfl ?_
          refine ARun.qv (q_assign rfl) rfl ?_
          refine ARun.nil ?_
          refine ATodo.stop ?_
          exact ImpX.lessP (by exact ⟨rfl, True.intro⟩) (.nil) (ImpX.here ⟨decide ((w64 ((cmp_Compare_int (place_side p2x0 p3x0 p0x0) (0 : Int)) * (cmp_Compare_int (place_side p2x0 p3x0 p1x0) (0 : Int)))) < (0 : Int)), h, rfl⟩)
        · rw [andFd hc] at h
          refine ARun.guard_no rfl rfl rfl rfl ?_
          refine ARun.guard_no rfl rfl rfl rfl ?_
          refine ARun.guard_no rfl rfl rfl rfl ?_
          refine ARun.qv (q_pick_f rfl rfl) rfl ?_
          refine ARun.qv (q_assign rfl) rfl ?_
          refine ARun.nil ?_
          refine ATodo.stop ?_
          exact ImpX.lessP (by exact ⟨rfl, True.intro⟩) (.nil) (ImpX.here ⟨false, h, rfl⟩)
      · rintro σ' ⟨c6, h, rfl⟩
        unfold place_meets_j2 at h
        refine ATodo.ret ?_
        obtain rfl := h
        exact ImpX.here ⟨_, .cons (.tmp _ _ rfl) .nil, rfl⟩

set_option maxHeartbeats 4000000 in
theorem place_crossed_c {p0x0 : List Spot} {r : Bool} (h : place_crossed p0x0 = some r) : Pu Try.prog 186 [.list 2 (p0x0.map Spot.av)] (.bool r) := by
  unfold place_crossed at h
  refine ACall.bodyN Try.func186 rfl Try.ntmps186 Try.results186 rfl rfl ?_
  refine ATodo.seq ?_
  refine ATodo.region ?_
  refine ARun.qv (q_assign rfl) rfl ?_
  refine ARun.nil ?_
  refine ATodo.seq ?_
  refine ATodo.region ?_
  refine ARun.qv (q_move rfl) rfl ?_
  refine ARun.qv (t_len rfl) rfl ?_
  refine ARun.qv (q_assign rfl) rfl ?_
  refine ARun.nil ?_
  refine ATodo.seq ?_
  refine ATodo.seq ?_
  refine ATodo.region ?_
  refine ARun.qv (q_move rfl) rfl ?_
  refine ARun.qv (t_len rfl) rfl ?_
  refine ARun.qv (q_move rfl) rfl ?_
  refine ARun.nil ?_
  refine ATodo.block ?_
  refine ATodo.loopI (fun x : Int => place_crossed_b1 p0x0 x) (fun x σ' => σ' = ⟨99, [(0, .list 2 (p0x0.map Spot.av)), (3, I (p0x0.length : Int)), (14, .list 2 (p0x0.map Spot.av)), (15, I (p0x0.length : Int)), (16, I x)], []⟩) h ?_ ?_
  · exact ImpX.lessP (by exact ⟨rfl, rfl, rfl, rfl, rfl, True.intro⟩) (.nil) (ImpX.here rfl)
  · intro n2 z1 σ' J1 hmk h hJ1 hA1
    obtain rfl := hmk
    replace h : place_crossed_b1 p0x0 n2 = some z1 := h
    unfold place_crossed_b1 at h
    refine ATodo.seq ?_
    refine ATodo.region ?_
    refine ARun.qv (q_lss rfl rfl) rfl ?_
    refine ARun.nil ?_
    refine ATodo.seq ?_
    refine ATodo.cond_d rfl (fun hc => ?_) (fun hc => ?_)
    · replace h := iteT hc h
      refine ATodo.skip ?_
      refine ATodo.seq ?_
      refine ATodo.block ?_
      refine ATodo.seq ?_
      refine ATodo.region ?_
      refine ARun.qv (q_move rfl) rfl ?_
      obtain ⟨v3, e1, h⟩ := bnd h
      refine ARun.qv (t_index rfl rfl rfl e1 rfl rfl) rfl ?_
      refine ARun.qv (q_load_rptr_agg rfl rfl rfl) rfl ?_
      refine n_alloc rfl rfl rfl rfl (fun b4 => ?_)
      refine ARun.qv (q_assign rfl) rfl ?_
      refine n_store_ptr rfl rfl rfl rfl .here rfl rfl ?_
      refine ARun.nil ?_
      refine ATodo.seq ?_
      refine ATodo.region ?_
      refine ARun.qv (q_move rfl) rfl ?_
      refine ARun.qv (q_move rfl) rfl ?_
      refine ARun.qv (q_addw rfl rfl) rfl ?_
      refine ARun.qv (q_move rfl) rfl ?_
      obtain ⟨n5, e2, h⟩ := bnd h
      refine ARun.qv (t_remS rfl rfl e2) rfl ?_
      obtain ⟨v6, e3, h⟩ := bnd h
      refine ARun.qv (t_index rfl rfl rfl e3 rfl rfl) rfl ?_
      refine ARun.qv (q_load_rptr_agg rfl rfl rfl) rfl ?_
      refine n_alloc rfl rfl rfl rfl (fun b7 => ?_)
      refine n_store_ptr rfl rfl rfl rfl .here rfl rfl ?_
      refine ARun.nil ?_
      refine ATodo.seq ?_
      refine ATodo.region ?_
      refine ARun.qv (q_move rfl) rfl ?_
      refine ARun.qv (q_addw rfl rfl) rfl ?_
      refine ARun.qv (q_assign rfl) rfl ?_
      refine ARun.nil ?_
      refine ATodo.block ?_
      refine ATodo.loopI (fun x : Int => place_crossed_b2 p0x0 n2 v3 v6 x) (fun x σ' => σ' = ⟨99, [(0, .list 2 (p0x0.map Spot.av)), (3, I (p0x0.length : Int)), (4, I n2), (5, .ptr b4 0), (6, .ptr b7 0), (7, I x), (14, .list 2 (p0x0.map Spot.av)), (15, I (p0x0.length : Int)), (16, I n2)], [(b4, .cells [I v3.X, I v3.Y]), (b7, .cells [I v6.X, I v6.Y])]⟩) h ?_ ?_
      · exact ImpX.lessP (by exact ⟨rfl, rfl, rfl, rfl, rfl, rfl, rfl, rfl, rfl, True.intro⟩) (.cons (.next .here) (.cons .here .nil)) (ImpX.here rfl)
      · intro n9 z2 σ' J2 hmk h hJ2 hA2
        obtain rfl := hmk
        replace h : place_crossed_b2 p0x0 n2 v3 v6 n9 = some z2 := h
        unfold place_crossed_b2 at h
        refine ATodo.seq ?_
        refine ATodo.seq ?_
        refine ATodo.region ?_
        refine ARun.qv (q_move rfl) rfl ?_
        refine ARun.qv (q_move rfl) rfl ?_
        refine ARun.qv (q_lss rfl rfl) rfl ?_
        refine ARun.nil ?_
        refine ATodo.cond_d rfl (fun hc => ?_) (fun hc => ?_)
        · replace h := iteT hc h
          refine ATodo.skip ?_
          refine ATodo.seq ?_
          refine ATodo.block ?_
          refine ATodo.seq ?_
          obtain ⟨v10, e4, h⟩ := bnd h
          obtain ⟨n11, e5, h⟩ := bnd h
          obtain ⟨v12, e6, h⟩ := bnd h
          refine ATodo.regionT (id := 9) (A := [0, 0, 3, 7, 0, 0, 32, 0, 224, 496, 1008, 0, 0, 6159, 16383]) (H0 := []) (HH := fun β => [((β 12), .cells [I (0 : Int), I (0 : Int)]), ((β 11), .cells [I v10.X, I v10.Y]), (b4, .cells [I v3.X, I v3.Y]), (b7, .cells [I v6.X, I v6.Y])]) 14 mixed rfl (by kernel_rfl) (by kernel_rfl) [⟨some 11, some 13, [], fun b => (b, .cells [I (0 : Int), I (0 : Int)]), none⟩, ⟨some 12, none, [], fun b => (b, .cells [I (0 : Int), I (0 : Int)]), none⟩, ⟨some 13, none, [], fun b => (b, .cells [I v10.X, I v10.Y]), some 11⟩] [11, 12] rfl (by kernel_rfl) rfl .nil (fun _ => rfl) ?_
          refine AT.am 11 rfl rfl ?_
          refine AM.qv (q_move rfl) rfl ?_
          refine AM.qv (q_move rfl) rfl ?_
          refine AM.qv (t_index rfl rfl rfl e4 rfl rfl) rfl ?_
          refine AM.qv (q_load_rptr_agg rfl rfl rfl) rfl ?_
          refine AM.qv (q_move rfl) rfl ?_
          refine AM.qv (q_move rfl) rfl ?_
          refine AM.qv (q_addw rfl rfl) rfl ?_
          refine AM.qv (q_move rfl) rfl ?_
          refine AM.qv (t_remS rfl rfl e5) rfl ?_
          refine AM.qv (t_index rfl rfl rfl e6 rfl rfl) rfl ?_
          refine AM.qv (q_load_rptr_agg rfl rfl rfl) rfl ?_
          refine AM.nil ?_
          refine AT.runD (V := fun b => .ptr b 0) (Ti := []) (Pi := fun b => [(b, .cells [I (0 : Int), I (0 : Int)])]) (fun _ => rfl) (fun _ => rfl) (fun _ _ => rfl) rfl (fun _ => rfl) rfl rfl rfl ?_ ?_
          · refine n_alloc rfl rfl rfl rfl (fun b13 => ?_)
            exact ARun.nil ⟨b13, _, rfl, rfl⟩
          refine AT.runD (V := fun b => .ptr b 0) (Ti := []) (Pi := fun b => [(b, .cells [I (0 : Int), I (0 : Int)])]) (fun _ => rfl) (fun _ => rfl) (fun _ _ => rfl) rfl (fun _ => rfl) rfl rfl rfl ?_ ?_
          · refine n_alloc rfl rfl rfl rfl (fun b14 => ?_)
            exact ARun.nil ⟨b14, _, rfl, rfl⟩
          refine AT.runN (Ti := fun β => [((β 11), .cells [I (0 : Int), I (0 : Int)])]) (Pi := fun β => [((β 11), .cells [I v10.X, I v10.Y])]) (fun _ => rfl) (fun _ => rfl) (fun _ _ => rfl) (fun _ => rfl) (fun _ => rfl) (fun β => ?_) ?_
          · generalize β 11 = b13
            refine n_store_ptr rfl rfl rfl rfl .here rfl rfl ?_
            exact ARun.nil ⟨_, rfl⟩
          refine AT.nilN (fun _ => rfl) (fun β => ?_)
          generalize β 11 = b13
          generalize β 12 = b14
          clear β
          refine n_store_ptr rfl rfl rfl rfl .here rfl rfl ?_
          refine ARun.nil ?_
          refine ATodo.seq ?_
          refine ATodo.regionM (id := 10) (A := [0, 0, 2, 7, 0, 16, 0, 112, 0, 496, 15, 2047]) 12 mixed rfl (by kernel_rfl) (by kernel_rfl) ?_
          refine AM.qv (q_move rfl) rfl ?_
          refine AM.qv (q_move rfl) rfl ?_
          refine AM.qv (q_addw rfl rfl) rfl ?_
          refine AM.qv (q_eql rfl rfl) rfl ?_
          refine AM.qv (q_move rfl) rfl ?_
          refine AM.qv (q_addw rfl rfl) rfl ?_
          refine AM.qv (q_move rfl) rfl ?_
          obtain ⟨n15, e7, h⟩ := bnd h
          refine AM.qv (t_remS rfl rfl e7) rfl ?_
          refine AM.qv (q_move rfl) rfl ?_
          refine AM.qv (q_eql rfl rfl) rfl ?_
          refine AM.qv (q_assign rfl) rfl ?_
          refine AM.qv (q_assign rfl) rfl ?_
          refine AM.nil ?_
          refine ARun.nil ?_
          refine ATodo.block ?_
          refine ATodo.seq ?_
          refine ATodo.cut (fun σ' => ∃ (c16 : Bool), place_crossed_j1 n2 v3 v6 n9 v10 v12 n15 c16 = some z2 ∧ σ' = ⟨99, [(0, .list 2 (p0x0.map Spot.av)), (3, I (p0x0.length : Int)), (4, I n2), (5, .ptr b4 0), (6, .ptr b7 0), (7, I n9), (8, .ptr b13 0), (9, .ptr b14 0), (10, .bool (decide (n9 = (w64 (n2 + (1 : Int)))))), (11, .bool (decide (n15 = n2))), (14, .list 2 (p0x0.map Spot.av)), (15, I (p0x0.length : Int)), (16, I n2), (56, .bool c16)], [(b4, .cells [I v3.X, I v3.Y]), (b7, .cells [I v6.X, I v6.Y]), (b13, .cells [I v10.X, I v10.Y]), (b14, .cells [I v12.X, I v12.Y])]⟩) ?_ ?_
          · refine ATodo.region ?_
            refine ARun.qv (q_move rfl) rfl ?_
            refine ARun.qv (q_not_d rfl) rfl ?_
            refine ARun.qv (q_move rfl) rfl ?_
            refine ARun.guard_dt rfl rfl rfl (fun hc => ?_) (fun hc => ?_)
            · rw [andTd hc] at h
              refine ARun.qv (q_move rfl) rfl ?_
              refine ARun.guard_yes rfl rfl rfl ?_
              refine ARun.qv (q_not_d rfl) rfl ?_
              refine ARun.qv (q_pick_t rfl rfl) rfl ?_
              refine ARun.qv (q_move rfl) rfl ?_
              refine ARun.guard_dt rfl rfl rfl (fun hc => ?_) (fun hc => ?_)
              · rw [andTd hc] at h
                refine ARun.qv (q_load_ptr_all rfl rfl (.next (.next .here)) rfl) rfl ?_
                refine ARun.guard_yes rfl rfl rfl ?_
                refine ARun.qv (q_load_ptr_all rfl rfl (.next (.next (.next .here))) rfl) rfl ?_
                refine ARun.guard_yes rfl rfl rfl ?_
                refine ARun.qv (q_load_ptr_all rfl rfl (.next .here) rfl) rfl ?_
                refine ARun.guard_yes rfl rfl rfl ?_
                refine ARun.qv (q_load_ptr_all rfl rfl .here rfl) rfl ?_
                refine ARun.guard_yes rfl rfl rfl ?_
                refine r_callp rfl (place_meets_c rfl) (CoL.refl _) rfl ?_
                refine ARun.qv (q_pick_t rfl rfl) rfl ?_
                refine ARun.qv (q_assign rfl) rfl ?_
                refine ARun.nil ?_
                refine ATodo.stop ?_
                exact ImpX.lessP (by exact ⟨rfl, rfl, rfl, rfl, rfl, rfl, rfl, rfl, rfl, rfl, rfl, rfl, rfl, rfl, True.intro⟩) (.cons (.next (.next .here)) (.cons (.next (.next .here)) (.cons (.next .here) (.cons .here .nil)))) (ImpX.here ⟨(place_meets v3 v6 v10 v12), h, rfl⟩)
              · rw [andFd hc] at h
                refine ARun.guard_no rfl rfl rfl rfl ?_
                refine ARun.guard_no rfl rfl rfl rfl ?_
                refine ARun.guard_no rfl rfl rfl rfl ?_
                refine ARun.guard_no rfl rfl rfl rfl ?_
                refine ARun.qv (q_pick_f rfl rfl) rfl ?_
                refine ARun.qv (q_assign rfl) rfl ?_
                refine ARun.nil ?_
                refine ATodo.stop ?_
                exact ImpX.lessP (by exact ⟨rfl, rfl, rfl, rfl, rfl, rfl, rfl, rfl, rfl, rfl, rfl, rfl, rfl, rfl, True.intro⟩) (.cons (.next (.next .here)) (.cons (.next (.next .here)) (.cons (.next .here) (.cons .here .nil)))) (ImpX.here ⟨false, h, rfl⟩)
            · rw [andFd hc] at h
              refine ARun.guard_no rfl rfl rfl rfl ?_
              refine ARun.qv (q_pick_f rfl rfl) rfl ?_
              refine ARun.qv (q_move rfl) rfl ?_
              refine ARun.guard_no rfl rfl rfl rfl ?_
              refine ARun.guard_no rfl rfl rfl rfl ?_
              refine ARun.guard_no rfl rfl rfl rfl ?_
              refine ARun.guard_no rfl rfl rfl rfl ?_
              refine ARun.guard_no rfl rfl rfl rfl ?_
              refine ARun.qv (q_pick_f rfl rfl) rfl ?_
              refine ARun.qv (q_assign rfl) rfl ?_
              refine ARun.nil ?_
              refine ATodo.stop ?_
              exact ImpX.lessP (by exact ⟨rfl, rfl, rfl, rfl, rfl, rfl, rfl, rfl, rfl, rfl, rfl, rfl, rfl, rfl, True.intro⟩) (.cons (.next (.next .here)) (.cons (.next (.next .here)) (.cons (.next .here) (.cons .here .nil)))) (ImpX.here ⟨false, h, rfl⟩)
          · rintro σ' ⟨c16, h, rfl⟩
            unfold place_crossed_j1 at h
            refine ATodo.cond rfl (fun hc => ?_) (fun hc => ?_)
            · replace h := iteT hc h
              refine ATodo.seq ?_
              refine ATodo.region ?_
              refine ARun.qv (q_assign rfl) rfl ?_
              refine ARun.nil ?_
              refine ATodo.ret ?_
              replace h := outL h hA2
              replace h := outL h hA1
              obtain rfl := Option.some.inj h
              exact ImpX.here ⟨_, .cons (.tmp _ _ rfl) .nil, rfl⟩
            · replace h := iteFb hc h
              refine ATodo.seq ?_
              refine ATodo.cut (fun σ' => ∃ (c17 : Bool), place_crossed_j2 n2 v3 v6 n9 v10 v12 n15 c17 = some z2 ∧ σ' = ⟨99, [(0, .list 2 (p0x0.map Spot.av)), (3, I (p0x0.length : Int)), (4, I n2), (5, .ptr b4 0), (6, .ptr b7 0), (7, I n9), (8, .ptr b13 0), (9, .ptr b14 0), (11, .bool (decide (n15 = n2))), (14, .list 2 (p0x0.map Spot.av)), (15, I (p0x0.length : Int)), (16, I n2), (70, .bool c17)], [(b4, .cells [I v3.X, I v3.Y]), (b7, .cells [I v6.X, I v6.Y]), (b13, .cells [I v10.X, I v10.Y]), (b14, .cells [I v12.X, I v12.Y])]⟩) ?_ ?_
              · refine ATodo.region ?_
                refine ARun.qv (q_move rfl) rfl ?_
                refine ARun.qv (q_move rfl) rfl ?_
                refine ARun.guard_dt rfl rfl rfl (fun hc => ?_) (fun hc => ?_)
                · rw [andTd hc] at h
                  refine ARun.qv (q_load_ptr_all rfl rfl .here rfl) rfl ?_
                  refine ARun.guard_yes rfl rfl rfl ?_
                  refine ARun.qv (q_load_ptr_all rfl rfl (.next .here) rfl) rfl ?_
                  refine ARun.guard_yes rfl rfl rfl ?_
                  refine ARun.qv (q_load_ptr_all rfl rfl (.next (.next (.next .here))) rfl) rfl ?_
                  refine ARun.guard_yes rfl rfl rfl ?_
                  refine r_callp rfl (place_on_c rfl) (CoL.refl _) rfl ?_
                  refine ARun.guard_yes rfl rfl rfl ?_
                  refine ARun.qv (q_move rfl) rfl ?_
                  refine ARun.guard rfl rfl rfl (fun hc => ?_) (fun hc => ?_)
                  · rw [orFb hc] at h
                    refine ARun.qv (q_load_ptr_all rfl rfl (.next (.next .here)) rfl) rfl ?_
                    refine ARun.guard_yes rfl rfl rfl ?_
                    refine ARun.qv (q_load_ptr_all rfl rfl (.next (.next (.next .here))) rfl) rfl ?_
                    refine ARun.guard_yes rfl rfl rfl ?_
                    refine ARun.qv (q_load_ptr_all rfl rfl .here rfl) rfl ?_
                    refine ARun.guard_yes rfl rfl rfl ?_
                    refine r_callp rfl (place_on_c rfl) (CoL.refl _) rfl ?_
                    refine ARun.guard_yes rfl rfl rfl ?_
                    refine ARun.qv (q_pick_f rfl rfl) rfl ?_
                    refine ARun.qv (q_pick_t rfl rfl) rfl ?_
                    refine ARun.qv (q_assign rfl) rfl ?_
                    refine ARun.nil ?_
                    refine ATodo.stop ?_
                    exact ImpX.lessP (by exact ⟨rfl, rfl, rfl, rfl, rfl, rfl, rfl, rfl, rfl, rfl, rfl, rfl, rfl, True.intro⟩) (.cons .here (.cons .here (.cons .here (.cons .here .nil)))) (ImpX.here ⟨(place_on v10 v12 v3), h, rfl⟩)
                  · rw [orTb hc] at h
                    refine ARun.guard_no rfl rfl rfl rfl ?_
                    refine ARun.guard_no rfl rfl rfl rfl ?_
                    refine ARun.guard_no rfl rfl rfl rfl ?_
                    refine ARun.guard_yes rfl rfl rfl ?_
                    refine ARun.qv (q_pick_t rfl rfl) rfl ?_
                    refine ARun.qv (q_pick_t rfl rfl) rfl ?_
                    refine ARun.qv (q_assign rfl) rfl ?_
                    refine ARun.nil ?_
                    refine ATodo.stop ?_
                    exact ImpX.lessP (by exact ⟨rfl, rfl, rfl, rfl, rfl, rfl, rfl, rfl, rfl, rfl, rfl, rfl, rfl, True.intro⟩) (.cons .here (.cons .here (.cons .here (.cons .here .nil)))) (ImpX.here ⟨true, h, rfl⟩)
                · rw [andFd hc] at h
                  refine ARun.guard_no rfl rfl rfl rfl ?_
                  refine ARun.guard_no rfl rfl rfl rfl ?_
                  refine ARun.guard_no rfl rfl rfl rfl ?_
                  refine ARun.guard_no rfl rfl rfl rfl ?_
                  refine ARun.guard_und rfl rfl rfl ?_
                  refine ARun.guard_und rfl rfl rfl ?_
                  refine ARun.guard_und rfl rfl rfl ?_
                  refine ARun.guard_und rfl rfl rfl ?_
                  refine ARun.guard_no rfl rfl rfl rfl ?_
                  refine ARun.qv (q_pick_f rfl rfl) rfl ?_
                  refine ARun.qv (q_assign rfl) rfl ?_
                  refine ARun.nil ?_
                  refine ATodo.stop ?_
                  exact ImpX.lessP (by exact ⟨rfl, rfl, rfl, rfl, rfl, rfl, rfl, rfl, rfl, rfl, rfl, rfl, rfl, True.intro⟩) (.cons .here (.cons .here (.cons .here (.cons .here .nil)))) (ImpX.here ⟨false, h, rfl⟩)
              · rintro σ' ⟨c17, h, rfl⟩
                unfold place_crossed_j2 at h
                refine ATodo.cond rfl (fun hc => ?_) (fun hc => ?_)
                · replace h := iteT hc h
                  refine ATodo.seq ?_
                  refine ATodo.region ?_
                  refine ARun.qv (q_assign rfl) rfl ?_
                  refine ARun.nil ?_
                  refine ATodo.ret ?_
                  replace h := outL h hA2
                  replace h := outL h hA1
                  obtain rfl := Option.some.inj h
                  exact ImpX.here ⟨_, .cons (.tmp _ _ rfl) .nil, rfl⟩
                · replace h := iteFb hc h
                  refine ATodo.seq ?_
                  refine ATodo.cut (fun σ' => ∃ (c18 : Bool), place_crossed_j3 n9 c18 = some z2 ∧ σ' = ⟨99, [(0, .list 2 (p0x0.map Spot.av)), (3, I (p0x0.length : Int)), (4, I n2), (5, .ptr b4 0), (6, .ptr b7 0), (7, I n9), (14, .list 2 (p0x0.map Spot.av)), (15, I (p0x0.length : Int)), (16, I n2), (84, .bool c18)], [(b4, .cells [I v3.X, I v3.Y]), (b7, .cells [I v6.X, I v6.Y])]⟩) ?_ ?_
                  · refine ATodo.region ?_
                    refine ARun.qv (q_move rfl) rfl ?_
                    refine ARun.qv (q_move rfl) rfl ?_
                    refine ARun.guard_dt rfl rfl rfl (fun hc => ?_) (fun hc => ?_)
                    · rw [andTd hc] at h
                      refine ARun.qv (q_load_ptr_all rfl rfl .here rfl) rfl ?_
                      refine ARun.guard_yes rfl rfl rfl ?_
                      refine ARun.qv (q_load_ptr_all rfl rfl (.next .here) rfl) rfl ?_
                      refine ARun.guard_yes rfl rfl rfl ?_
                      refine ARun.qv (q_load_ptr_all rfl rfl (.next (.next .here)) rfl) rfl ?_
                      refine ARun.guard_yes rfl rfl rfl ?_
                      refine r_callp rfl (place_on_c rfl) (CoL.refl _) rfl ?_
                      refine ARun.guard_yes rfl rfl rfl ?_
                      refine ARun.qv (q_move rfl) rfl ?_
                      refine ARun.guard rfl rfl rfl (fun hc => ?_) (fun hc => ?_)
                      · rw [orFb hc] at h
                        refine ARun.qv (q_load_ptr_all rfl rfl (.next (.next .here)) rfl) rfl ?_
                        refine ARun.guard_yes rfl rfl rfl ?_
                        refine ARun.qv (q_load_ptr_all rfl rfl (.next (.next (.next .here))) rfl) rfl ?_
                        refine ARun.guard_yes rfl rfl rfl ?_
                        refine ARun.qv (q_load_ptr_all rfl rfl (.next .here) rfl) rfl ?_
                        refine ARun.guard_yes rfl rfl rfl ?_
                        refine r_callp rfl (place_on_c rfl) (CoL.refl _) rfl ?_
                        refine ARun.guard_yes rfl rfl rfl ?_
                        refine ARun.qv (q_pick_f rfl rfl) rfl ?_
                        refine ARun.qv (q_pick_t rfl rfl) rfl ?_
                        refine ARun.qv (q_assign rfl) rfl ?_
                        refine ARun.nil ?_
                        refine ATodo.stop ?_
                        exact ImpX.lessP (by exact ⟨rfl, rfl, rfl, rfl, rfl, rfl, rfl, rfl, rfl, rfl, True.intro⟩) (.cons .here (.cons .here .nil)) (ImpX.here ⟨(place_on v10 v12 v6), h, rfl⟩)
                      · rw [orTb hc] at h
                        refine ARun.guard_no rfl rfl rfl rfl ?_
                        refine ARun.guard_no rfl rfl rfl rfl ?_
                        refine ARun.guard_no rfl rfl rfl rfl ?_
                        refine ARun.guard_yes rfl rfl rfl ?_
                        refine ARun.qv (q_pick_t rfl rfl) rfl ?_
                        refine ARun.qv (q_pick_t rfl rfl) rfl ?_
                        refine ARun.qv (q_assign rfl) rfl ?_
                        refine ARun.nil ?_
                        refine ATodo.stop ?_
                        exact ImpX.lessP (by exact ⟨rfl, rfl, rfl, rfl, rfl, rfl, rfl, rfl, rfl, rfl, True.intro⟩) (.cons .here (.cons .here .nil)) (ImpX.here ⟨true, h, rfl⟩)
                    · rw [andFd hc] at h
                      refine ARun.guard_no rfl rfl rfl rfl ?_
                      refine ARun.guard_no rfl rfl rfl rfl ?_
                      refine ARun.guard_no rfl rfl rfl rfl ?_
                      refine ARun.guard_no rfl rfl rfl rfl ?_
                      refine ARun.guard_und rfl rfl rfl ?_
                      refine ARun.guard_und rfl rfl rfl ?_
                      refine ARun.guard_und rfl rfl rfl ?_
                      refine ARun.guard_und rfl rfl rfl ?_
                      refine ARun.guard_no rfl rfl rfl rfl ?_
                      refine ARun.qv (q_pick_f rfl rfl) rfl ?_
                      refine ARun.qv (q_assign rfl) rfl ?_
                      refine ARun.nil ?_
                      refine ATodo.stop ?_
                      exact ImpX.lessP (by exact ⟨rfl, rfl, rfl, rfl, rfl, rfl, rfl, rfl, rfl, rfl, True.intro⟩) (.cons .here (.cons .here .nil)) (ImpX.here ⟨false, h, rfl⟩)
                  · rintro σ' ⟨c18, h, rfl⟩
                    unfold place_crossed_j3 at h
                    refine ATodo.cond rfl (fun hc => ?_) (fun hc => ?_)
                    · replace h := iteT hc h
                      refine ATodo.seq ?_
                      refine ATodo.region ?_
                      refine ARun.qv (q_assign rfl) rfl ?_
                      refine ARun.nil ?_
                      refine ATodo.ret ?_
                      replace h := outL h hA2
                      replace h := outL h hA1
                      obtain rfl := Option.some.inj h
                      exact ImpX.here ⟨_, .cons (.tmp _ _ rfl) .nil, rfl⟩
                    · replace h := iteFb hc h
                      refine ATodo.skip ?_
                      refine ATodo.blk ?_
                      refine ATodo.blk ?_
                      refine ATodo.region ?_
                      refine ARun.qv (q_move rfl) rfl ?_
                      refine ARun.qv (q_addw rfl rfl) rfl ?_
                      refine ARun.qv (q_assign rfl) rfl ?_
                      refine ARun.nil ?_
                      refine ATodo.stop ?_
                      obtain rfl := Option.some.inj h
                      refine hJ2 _ _ rfl ?_
                      exact ImpX.lessP (by exact ⟨rfl, rfl, rfl, rfl, rfl, rfl, rfl, rfl, rfl, True.intro⟩) (.cons .here (.cons .here .nil)) (ImpX.here rfl)
        · replace h := iteF hc h
          refine ATodo.exit rfl ?_
          replace h := outL h hA2
          refine ATodo.blk ?_
          refine ATodo.region ?_
          refine ARun.qv (q_addw rfl rfl) rfl ?_
          refine ARun.qv (q_move rfl) rfl ?_
          refine ARun.nil ?_
          refine ATodo.stop ?_
          obtain rfl := Option.some.inj h
          refine hJ1 _ _ rfl ?_
          exact ImpX.lessP (by exact ⟨rfl, rfl, rfl, rfl, rfl, True.intro⟩) (.nil) (ImpX.here rfl)
    · replace h := iteF hc h
      refine ATodo.exit rfl ?_
      replace h := outL h hA1
      refine ATodo.seq ?_
      refine ATodo.region ?_
      refine ARun.qv (q_assign rfl) rfl ?_
      refine ARun.nil ?_
      refine ATodo.ret ?_
      obtain rfl := Option.some.inj h
      exact ImpX.here ⟨_, .cons (.tmp _ _ rfl) .nil, rfl⟩

set_option maxHeartbeats 4000000 in
theorem place_CheckFence_c {p0x0 : FenceS} {r : Int} (h : place_CheckFence p0x0 = some r) : Pu Try.prog 95 [.agg [.str p0x0.Key, .list 2 (p0x0.Corners.map Spot.av)]] (I r) := by
  unfold place_CheckFence at h
  refine ACall.bodyN Try.func95 rfl Try.ntmps95 Try.results95 rfl rfl ?_
  refine ATodo.seq ?_
  refine ATodo.region ?_
  refine n_box rfl rfl rfl rfl (fun b1 => ?_)
  refine ARun.qv (q_assign rfl) rfl ?_
  refine ARun.nil ?_
  refine ATodo.seq ?_
  refine ATodo.block ?_
  refine ATodo.seq ?_
  refine ATodo.region ?_
  refine ARun.qv (n_field_ptr rfl rfl) rfl ?_
  refine ARun.qv (q_load_ptr rfl rfl .here rfl) rfl ?_
  obtain ⟨v2, e1, h⟩ := bnd h
  refine r_callp rfl (base_Key_c e1) (CoL.refl _) rfl ?_
  refine ARun.qv (q_not rfl) rfl ?_
  refine ARun.qv (q_assign rfl) rfl ?_
  refine ARun.nil ?_
  refine ATodo.cond rfl (fun hc => ?_) (fun hc => ?_)
  · replace h := iteT hc h
    refine ATodo.seq ?_
    refine ATodo.region ?_
    refine ARun.qv (q_assign rfl) rfl ?_
    refine ARun.nil ?_
    refine ATodo.ret ?_
    obtain rfl := Option.some.inj h
    exact ImpX.here ⟨_, .cons (.tmp _ _ rfl) .nil, rfl⟩
  · replace h := iteFb hc h
    refine ATodo.seq ?_
    refine ATodo.region ?_
    refine ARun.qv (n_field_ptr rfl rfl) rfl ?_
    refine ARun.qv (q_load_ptr rfl rfl .here rfl) rfl ?_
    refine ARun.qv (t_len rfl) rfl ?_
    refine ARun.qv (q_lss rfl rfl) rfl ?_
    refine ARun.qv (q_assign rfl) rfl ?_
    refine ARun.nil ?_
    refine ATodo.cond_d rfl (fun hc => ?_) (fun hc => ?_)
    · replace h := iteT hc h
      refine ATodo.seq ?_
      refine ATodo.region ?_
      refine ARun.qv (q_assign rfl) rfl ?_
      refine ARun.nil ?_
      refine ATodo.ret ?_
      obtain rfl := Option.some.inj h
      exact ImpX.here ⟨_, .cons (.tmp _ _ rfl) .nil, rfl⟩
    · replace h := iteF hc h
      refine ATodo.seq ?_
      refine ATodo.region ?_
      refine ARun.qv (n_field_ptr rfl rfl) rfl ?_
      refine ARun.qv (q_load_ptr rfl rfl .here rfl) rfl ?_
      refine ARun.qv (t_len rfl) rfl ?_
      refine ARun.qv (q_gtr rfl rfl) rfl ?_
      refine ARun.qv (q_assign rfl) rfl ?_
      refine ARun.nil ?_
      refine ATodo.cond_d rfl (fun hc => ?_) (fun hc => ?_)
      · replace h := iteT hc h
        refine ATodo.seq ?_
        refine ATodo.region ?_
        refine ARun.qv (q_assign rfl) rfl ?_
        refine ARun.nil ?_
        refine ATodo.ret ?_
        obtain rfl := Option.some.inj h
        exact ImpX.here ⟨_, .cons (.tmp _ _ rfl) .nil, rfl⟩
      · replace h := iteF hc h
        refine ATodo.skip ?_
        refine ATodo.blk ?_
        refine ATodo.seq ?_
        refine ATodo.seq ?_
        refine ATodo.region ?_
        refine ARun.qv (n_field_ptr rfl rfl) rfl ?_
        refine ARun.qv (q_load_ptr rfl rfl .here rfl) rfl ?_
        refine ARun.qv (t_len rfl) rfl ?_
        refine ARun.qv (q_move rfl) rfl ?_
        refine ARun.nil ?_
        refine ATodo.block ?_
        refine ATodo.loopI (fun x : Int => place_CheckFence_b1 p0x0 x) (fun x σ' => σ' = ⟨41, [(1, .ptr b1 0), (21, .list 2 (p0x0.Corners.map Spot.av)), (22, I (p0x0.Corners.length : Int)), (23, I x)], [(b1, .cells [.str p0x0.Key, .list 2 (p0x0.Corners.map Spot.av)])]⟩) h ?_ ?_
        · exact ImpX.lessP (by exact ⟨rfl, rfl, rfl, rfl, True.intro⟩) (.cons .here .nil) (ImpX.here rfl)
        · intro n4 z1 σ' J1 hmk h hJ1 hA1
          obtain rfl := hmk
          replace h : place_CheckFence_b1 p0x0 n4 = some z1 := h
          unfold place_CheckFence_b1 at h
          refine ATodo.seq ?_
          refine ATodo.region ?_
          refine ARun.qv (q_lss rfl rfl) rfl ?_
          refine ARun.nil ?_
          refine ATodo.seq ?_
          refine ATodo.cond_d rfl (fun hc => ?_) (fun hc => ?_)
          · replace h := iteT hc h
            refine ATodo.skip ?_
            refine ATodo.seq ?_
            refine ATodo.block ?_
            refine ATodo.seq ?_
            refine ATodo.region ?_
            refine ARun.qv (q_move rfl) rfl ?_
            obtain ⟨v5, e2, h⟩ := bnd h
            refine ARun.qv (t_index rfl rfl rfl e2 rfl rfl) rfl ?_
            refine ARun.qv (q_load_rptr_agg rfl rfl rfl) rfl ?_
            refine n_alloc rfl rfl rfl rfl (fun b6 => ?_)
            refine ARun.qv (q_assign rfl) rfl ?_
            refine n_store_ptr rfl rfl rfl rfl .here rfl rfl ?_
            refine ARun.nil ?_
            refine ATodo.seq ?_
            refine ATodo.seq ?_
            refine ATodo.region ?_
            refine ARun.qv (q_load_ptr_all rfl rfl .here rfl) rfl ?_
            refine r_callp rfl (place_isSpot_c rfl) (CoL.refl _) rfl ?_
            refine ARun.qv (q_not rfl) rfl ?_
            refine ARun.nil ?_
            refine ATodo.cond rfl (fun hc => ?_) (fun hc => ?_)
            · replace h := iteT hc h
              refine ATodo.seq ?_
              refine ATodo.region ?_
              refine ARun.qv (q_assign rfl) rfl ?_
              refine ARun.nil ?_
              refine ATodo.ret ?_
              replace h := outL h hA1
              obtain rfl := Option.some.inj h
              exact ImpX.here ⟨_, .cons (.tmp _ _ rfl) .nil, rfl⟩
            · replace h := iteFb hc h
              refine ATodo.skip ?_
              refine ATodo.seq ?_
              refine ATodo.regionM (id := 12) (A := [0, 1, 0, 7, 0, 31]) 6 mixed rfl (by kernel_rfl) (by kernel_rfl) ?_
              refine AM.qv (n_field_ptr rfl rfl) rfl ?_
              refine AM.qv (q_load_ptr rfl rfl (.next .here) rfl) rfl ?_
              refine AM.qv (q_move rfl) rfl ?_
              obtain ⟨l7, e3, h⟩ := bnd h
              refine AM.qv (t_slice_list rfl rfl .none (.some _ _ _ rfl) rfl rfl e3) rfl ?_
              refine AM.qv (q_load_ptr_all rfl rfl .here rfl) rfl ?_
              obtain ⟨v8, e4, h⟩ := bnd h
              refine AM.callp rfl (slices_Contains_Spot_Spot_c e4) (CoL.refl _) rfl ?_
              refine AM.nil ?_
              refine ARun.nil ?_
              refine ATodo.cond rfl (fun hc => ?_) (fun hc => ?_)
              · replace h := iteT hc h
                refine ATodo.seq ?_
                refine ATodo.region ?_
                refine ARun.qv (q_assign rfl) rfl ?_
                refine ARun.nil ?_
                refine ATodo.ret ?_
                replace h := outL h hA1
                obtain rfl := Option.some.inj h
                exact ImpX.here ⟨_, .cons (.tmp _ _ rfl) .nil, rfl⟩
              · replace h := iteFb hc h
                refine ATodo.skip ?_
                refine ATodo.blk ?_
                refine ATodo.region ?_
                refine ARun.qv (q_addw rfl rfl) rfl ?_
                refine ARun.qv (q_move rfl) rfl ?_
                refine ARun.nil ?_
                refine ATodo.stop ?_
                obtain rfl := Option.some.inj h
                refine hJ1 _ _ rfl ?_
                exact ImpX.lessP (by exact ⟨rfl, rfl, rfl, rfl, True.intro⟩) (.cons (.next .here) .nil) (ImpX.here rfl)
          · replace h := iteF hc h
            refine ATodo.exit rfl ?_
            replace h := outL h hA1
            unfold place_CheckFence_k1 at h
            refine ATodo.seq ?_
            refine ATodo.seq ?_
            refine ATodo.region ?_
            refine ARun.qv (n_field_ptr rfl rfl) rfl ?_
            refine ARun.qv (q_load_ptr rfl rfl .here rfl) rfl ?_
            obtain ⟨v9, e5, h⟩ := bnd h
            refine r_callp rfl (place_crossed_c e5) (CoL.refl _) rfl ?_
            refine ARun.nil ?_
            refine ATodo.cond rfl (fun hc => ?_) (fun hc => ?_)
            · replace h := iteT hc h
              refine ATodo.seq ?_
              refine ATodo.region ?_
              refine ARun.qv (q_assign rfl) rfl ?_
              refine ARun.nil ?_
              refine ATodo.ret ?_
              obtain rfl := Option.some.inj h
              exact ImpX.here ⟨_, .cons (.tmp _ _ rfl) .nil, rfl⟩
            · replace h := iteFb hc h
              refine ATodo.skip ?_
              refine ATodo.seq ?_
              refine ATodo.region ?_
              refine ARun.qv (q_assign rfl) rfl ?_
              refine ARun.nil ?_
              refine ATodo.ret ?_
              obtain rfl := Option.some.inj h
              exact ImpX.here ⟨_, .cons (.tmp _ _ rfl) .nil, rfl⟩

set_option maxHeartbeats 4000000 in
theorem place_spotFault_c {p0x0 : FenceS} {p1x0 : Spot} {r : Int} (h : place_spotFault p0x0 p1x0 = some r) : Pu Try.prog 92 [.agg [.str p0x0.Key, .list 2 (p0x0.Corners.map Spot.av)], .agg [I p1x0.X, I p1x0.Y]] (I r) := by
  unfold place_spotFault at h
  refine ACall.bodyN Try.func92 rfl Try.ntmps92 Try.results92 rfl rfl ?_
  refine ATodo.seq ?_
  refine ATodo.region ?_
  refine n_box rfl rfl rfl rfl (fun b1 => ?_)
  refine n_box rfl rfl rfl rfl (fun b2 => ?_)
  refine ARun.qv (q_assign rfl) rfl ?_
  refine ARun.nil ?_
  refine ATodo.seq ?_
  refine ATodo.region ?_
  refine ARun.qv (q_load_ptr_all rfl rfl (.next .here) rfl) rfl ?_
  obtain ⟨v3, e1, h⟩ := bnd h
  refine r_callp rfl (place_CheckFence_c e1) (CoL.refl _) rfl ?_
  refine ARun.qv (q_assign rfl) rfl ?_
  refine ARun.nil ?_
  refine ATodo.seq ?_
  refine ATodo.seq ?_
  refine ATodo.cut (fun σ' => ∃ (c4 : Bool), place_spotFault_j1 v3 c4 = some r ∧ σ' = ⟨16, [(5, I v3), (14, .bool c4)], []⟩) ?_ ?_
  · refine ATodo.region ?_
    refine ARun.qv (q_move rfl) rfl ?_
    refine ARun.qv (q_eql rfl rfl) rfl ?_
    refine ARun.qv (q_move rfl) rfl ?_
    refine ARun.guard_dt rfl rfl rfl (fun hc => ?_) (fun hc => ?_)
    · rw [andTd hc] at h
      refine ARun.qv (q_load_ptr_all rfl rfl .here rfl) rfl ?_
      refine ARun.guard_yes rfl rfl rfl ?_
      refine r_callp rfl (place_isSpot_c rfl) (CoL.refl _) rfl ?_
      refine ARun.guard_yes rfl rfl rfl ?_
      refine ARun.qv (q_not rfl) rfl ?_
      refine ARun.qv (q_pick_t rfl rfl) rfl ?_
      refine ARun.nil ?_
      refine ATodo.stop ?_
      exact ImpX.lessP (by exact ⟨rfl, rfl, True.intro⟩) (.nil) (ImpX.here ⟨!(place_isSpot p1x0), h, rfl⟩)
    · rw [andFd hc] at h
      refine ARun.guard_no rfl rfl rfl rfl ?_
      refine ARun.guard_no rfl rfl rfl rfl ?_
      refine ARun.qv (q_pick_f rfl rfl) rfl ?_
      refine ARun.nil ?_
      refine ATodo.stop ?_
      exact ImpX.lessP (by exact ⟨rfl, rfl, True.intro⟩) (.nil) (ImpX.here ⟨false, h, rfl⟩)
  · rintro σ' ⟨c4, h, rfl⟩
    unfold place_spotFault_j1 at h
    refine ATodo.cut (fun σ' => ∃ (n5 : Int), place_spotFault_j2 n5 = some r ∧ σ' = ⟨16, [(5, I n5)], []⟩) ?_ ?_
    · refine ATodo.cond rfl (fun hc => ?_) (fun hc => ?_)
      · replace h := iteT hc h
        refine ATodo.region ?_
        refine ARun.qv (q_assign rfl) rfl ?_
        refine ARun.nil ?_
        refine ATodo.stop ?_
        exact ImpX.lessP (by exact ⟨rfl, True.intro⟩) (.nil) (ImpX.here ⟨(1 : Int), h, rfl⟩)
      · replace h := iteFb hc h
        refine ATodo.skip ?_
        refine ATodo.stop ?_
        exact ImpX.lessP (by exact ⟨rfl, True.intro⟩) (.nil) (ImpX.here ⟨v3, h, rfl⟩)
    · rintro σ' ⟨n5, h, rfl⟩
      unfold place_spotFault_j2 at h
      refine ATodo.seq ?_
      refine ATodo.region ?_
      refine ARun.qv (q_move rfl) rfl ?_
      refine ARun.qv (q_assign rfl) rfl ?_
      refine ARun.nil ?_
      refine ATodo.ret ?_
      obtain rfl := Option.some.inj h
      exact ImpX.here ⟨_, .cons (.tmp _ _ rfl) .nil, rfl⟩

set_option maxHeartbeats 4000000 in
theorem place_square_c {p0x0 : Spot} {p1x0 : Spot} {r : Int} (h : place_square p0x0 p1x0 = r) : Pu Try.prog 110 [.agg [I p0x0.X, I p0x0.Y], .agg [I p1x0.X, I p1x0.Y]] (I r) := by
  unfold place_square at h
  refine ACall.bodyN Try.func110 rfl Try.ntmps110 Try.results110 rfl rfl ?_
  refine ATodo.seq ?_
  refine ATodo.region ?_
  refine n_box rfl rfl rfl rfl (fun b1 => ?_)
  refine n_box rfl rfl rfl rfl (fun b2 => ?_)
  refine ARun.qv (q_assign rfl) rfl ?_
  refine ARun.nil ?_
  refine ATodo.seq ?_
  refine ATodo.region ?_
  refine ARun.qv (n_field_ptr rfl rfl) rfl ?_
  refine ARun.qv (q_load_ptr rfl rfl (.next .here) rfl) rfl ?_
  refine ARun.qv (n_field_ptr rfl rfl) rfl ?_
  refine ARun.qv (q_load_ptr rfl rfl .here rfl) rfl ?_
  refine ARun.qv (q_subw rfl rfl) rfl ?_
  refine ARun.qv (n_field_ptr rfl rfl) rfl ?_
  refine ARun.qv (q_load_ptr rfl rfl (.next .here) rfl) rfl ?_
  refine ARun.qv (n_field_ptr rfl rfl) rfl ?_
  refine ARun.qv (q_load_ptr rfl rfl .here rfl) rfl ?_
  refine ARun.qv (q_subw rfl rfl) rfl ?_
  refine ARun.qv (q_mulw rfl rfl) rfl ?_
  refine ARun.qv (n_field_ptr rfl rfl) rfl ?_
  refine ARun.qv (q_load_ptr rfl rfl (.next .here) rfl) rfl ?_
  refine ARun.qv (n_field_ptr rfl rfl) rfl ?_
  refine ARun.qv (q_load_ptr rfl rfl .here rfl) rfl ?_
  refine ARun.qv (q_subw rfl rfl) rfl ?_
  refine ARun.qv (n_field_ptr rfl rfl) rfl ?_
  refine ARun.qv (q_load_ptr rfl rfl (.next .here) rfl) rfl ?_
  refine ARun.qv (n_field_ptr rfl rfl) rfl ?_
  refine ARun.qv (q_load_ptr rfl rfl .here rfl) rfl ?_
  refine ARun.qv (q_subw rfl rfl) rfl ?_
  refine ARun.qv (q_mulw rfl rfl) rfl ?_
  refine ARun.qv (q_addw rfl rfl) rfl ?_
  refine ARun.qv (q_assign rfl) rfl ?_
  refine ARun.nil ?_
  refine ATodo.ret ?_
  obtain rfl := h
  exact ImpX.here ⟨_, .cons (.tmp _ _ rfl) .nil, rfl⟩

set_option maxHeartbeats 4000000 in
theorem base_Gcd_c {p0x0 : Int} {p1x0 : Int} {r : Int} (h : base_Gcd p0x0 p1x0 = some r) : Pu Try.prog 204 [I p0x0, I p1x0] (I r) := by
  unfold base_Gcd at h
  refine ACall.bodyN Try.func204 rfl Try.ntmps204 Try.results204 rfl rfl ?_
  refine ATodo.seq ?_
  refine ATodo.region ?_
  refine ARun.qv (q_assign rfl) rfl ?_
  refine ARun.nil ?_
  refine ATodo.seq ?_
  refine ATodo.block ?_
  refine ATodo.loopI (fun x : Int × Int => base_Gcd_b1 x.1 x.2) (fun x σ' => σ' = ⟨12, [(0, I x.1), (1, I x.2)], []⟩) h ?_ ?_
  · exact ImpX.lessP (by exact ⟨rfl, rfl, True.intro⟩) (.nil) (ImpX.here rfl)
  · intro x z1 σ' J1 hmk h hJ1 hA1
    obtain ⟨n3, n4⟩ := x
    obtain rfl := hmk
    replace h : base_Gcd_b1 n3 n4 = some z1 := h
    unfold base_Gcd_b1 at h
    refine ATodo.seq ?_
    refine ATodo.seq ?_
    refine ATodo.region ?_
    refine ARun.qv (q_move rfl) rfl ?_
    refine ARun.qv (q_neq rfl rfl) rfl ?_
    refine ARun.nil ?_
    refine ATodo.cond_d rfl (fun hc => ?_) (fun hc => ?_)
    · replace h := iteT hc h
      refine ATodo.skip ?_
      refine ATodo.block ?_
      refine ATodo.regionM (id := 2) (A := [0, 0, 0, 6, 3, 31]) 6 mixed rfl (by kernel_rfl) (by kernel_rfl) ?_
      refine AM.qv (q_move rfl) rfl ?_
      refine AM.qv (q_move rfl) rfl ?_
      refine AM.qv (q_move rfl) rfl ?_
      obtain ⟨n5, e1, h⟩ := bnd h
      refine AM.qv (t_remS rfl rfl e1) rfl ?_
      refine AM.qv (q_assign rfl) rfl ?_
      refine AM.qv (q_assign rfl) rfl ?_
      refine AM.nil ?_
      refine ARun.nil ?_
      refine ATodo.blk ?_
      refine ATodo.stop ?_
      obtain rfl := Option.some.inj h
      refine hJ1 _ _ rfl ?_
      exact ImpX.lessP (by exact ⟨rfl, rfl, True.intro⟩) (.nil) (ImpX.here rfl)
    · replace h := iteF hc h
      refine ATodo.exit rfl ?_
      replace h := outL h hA1
      refine ATodo.seq ?_
      refine ATodo.region ?_
      refine ARun.qv (q_move rfl) rfl ?_
      refine ARun.qv (q_assign rfl) rfl ?_
      refine ARun.nil ?_
      refine ATodo.ret ?_
      obtain rfl := Option.some.inj h
      exact ImpX.here ⟨_, .cons (.tmp _ _ rfl) .nil, rfl⟩

set_option maxHeartbeats 4000000 in
theorem base_Fraction_c {p0x0 : Int} {p1x0 : Int} {r : Fraction} (h : base_Fraction p0x0 p1x0 = some r) : Pu Try.prog 139 [I p0x0, I p1x0] (.agg [I r.Num, I r.Den]) := by
  unfold base_Fraction at h
  refine ACall.bodyN Try.func139 rfl Try.ntmps139 Try.results139 rfl rfl ?_
  refine ATodo.seq ?_
  refine ATodo.region ?_
  refine n_alloc rfl rfl rfl rfl (fun b1 => ?_)
  refine ARun.nil ?_
  refine ATodo.seq ?_
  refine ATodo.region ?_
  refine ARun.qv (q_move rfl) rfl ?_
  refine ARun.qv (q_move rfl) rfl ?_
  refine ARun.qv (t_negw rfl) rfl ?_
  refine ARun.qv (q_max rfl rfl) rfl ?_
  refine ARun.qv (q_move rfl) rfl ?_
  obtain ⟨v2, e1, h⟩ := bnd h
  refine r_callp rfl (base_Gcd_c e1) (CoL.refl _) rfl ?_
  refine ARun.qv (q_assign rfl) rfl ?_
  refine ARun.nil ?_
  refine ATodo.seq ?_
  refine ATodo.regionM (id := 2) (A := [0, 0, 3, 0, 0, 24, 63, 127]) 7 mixed rfl (by kernel_rfl) (by kernel_rfl) ?_
  refine AM.qv (q_move rfl) rfl ?_
  refine AM.qv (q_move rfl) rfl ?_
  obtain ⟨n3, e2, h⟩ := bnd h
  refine AM.qv (t_quoS rfl rfl e2) rfl ?_
  refine AM.qv (q_move rfl) rfl ?_
  refine AM.qv (q_move rfl) rfl ?_
  obtain ⟨n4, e3, h⟩ := bnd h
  refine AM.qv (t_quoS rfl rfl e3) rfl ?_
  refine AM.qv (n_build rfl rfl rfl rfl rfl) rfl ?_
  refine AM.nil ?_
  refine n_store_ptr rfl rfl rfl rfl .here rfl rfl ?_
  refine ARun.nil ?_
  refine ATodo.ret ?_
  obtain rfl := Option.some.inj h
  exact ImpX.here ⟨_, .cons (.all _ _ _ _ _ _ rfl .here TUnder.h TInfo.h rfl rfl) .nil, rfl⟩

set_option maxHeartbeats 4000000 in
theorem place_far_c {p0x0 : Spot} {p1x0 : Spot} {p2x0 : Spot} {r : Fraction} (h : place_far p0x0 p1x0 p2x0 = some r) : Pu Try.prog 133 [.agg [I p0x0.X, I p0x0.Y], .agg [I p1x0.X, I p1x0.Y], .agg [I p2x0.X, I p2x0.Y]] (.agg [I r.Num, I r.Den]) := by
  unfold place_far at h
  refine ACall.bodyN Try.func133 rfl Try.ntmps133 Try.results133 rfl rfl ?_
  refine ATodo.seq ?_
  refine ATodo.region ?_
  refine n_box rfl rfl rfl rfl (fun b1 => ?_)
  refine n_box rfl rfl rfl rfl (fun b2 => ?_)
  refine n_box rfl rfl rfl rfl (fun b3 => ?_)
  refine n_alloc rfl rfl rfl rfl (fun b4 => ?_)
  refine ARun.nil ?_
  refine ATodo.seq ?_
  refine ATodo.region ?_
  refine ARun.qv (q_load_ptr_all rfl rfl (.next (.next (.next .here))) rfl) rfl ?_
  refine ARun.qv (q_load_ptr_all rfl rfl (.next (.next .here)) rfl) rfl ?_
  refine r_callp rfl (place_square_c rfl) (CoL.refl _) rfl ?_
  refine ARun.qv (q_assign rfl) rfl ?_
  refine ARun.nil ?_
  refine ATodo.seq ?_
  refine ATodo.region ?_
  refine ARun.qv (n_field_ptr rfl rfl) rfl ?_
  refine ARun.qv (q_load_ptr rfl rfl (.next .here) rfl) rfl ?_
  refine ARun.qv (n_field_ptr rfl rfl) rfl ?_
  refine ARun.qv (q_load_ptr rfl rfl (.next (.next (.next .here))) rfl) rfl ?_
  refine ARun.qv (q_subw rfl rfl) rfl ?_
  refine ARun.qv (n_field_ptr rfl rfl) rfl ?_
  refine ARun.qv (q_load_ptr rfl rfl (.next (.next .here)) rfl) rfl ?_
  refine ARun.qv (n_field_ptr rfl rfl) rfl ?_
  refine ARun.qv (q_load_ptr rfl rfl (.next (.next (.next .here))) rfl) rfl ?_
  refine ARun.qv (q_subw rfl rfl) rfl ?_
  refine ARun.qv (q_mulw rfl rfl) rfl ?_
  refine ARun.qv (n_field_ptr rfl rfl) rfl ?_
  refine ARun.qv (q_load_ptr rfl rfl (.next .here) rfl) rfl ?_
  refine ARun.qv (n_field_ptr rfl rfl) rfl ?_
  refine ARun.qv (q_load_ptr rfl rfl (.next (.next (.next .here))) rfl) rfl ?_
  refine ARun.qv (q_subw rfl rfl) rfl ?_
  refine ARun.qv (n_field_ptr rfl rfl) rfl ?_
  refine ARun.qv (q_load_ptr rfl rfl (.next (.next .here)) rfl) rfl ?_
  refine ARun.qv (n_field_ptr rfl rfl) rfl ?_
  refine ARun.qv (q_load_ptr rfl rfl (.next (.next (.next .here))) rfl) rfl ?_
  refine ARun.qv (q_subw rfl rfl) rfl ?_
  refine ARun.qv (q_mulw rfl rfl) rfl ?_
  refine ARun.qv (q_addw rfl rfl) rfl ?_
  refine ARun.qv (q_assign rfl) rfl ?_
  refine ARun.nil ?_
  refine ATodo.seq ?_
  refine ATodo.block ?_
  refine ATodo.seq ?_
  refine ATodo.region ?_
  refine ARun.qv (q_move rfl) rfl ?_
  refine ARun.qv (q_leq rfl rfl) rfl ?_
  refine ARun.qv (q_assign rfl) rfl ?_
  refine ARun.nil ?_
  refine ATodo.cond_d rfl (fun hc => ?_) (fun hc => ?_)
  · replace h := iteT hc h
    refine ATodo.seq ?_
    refine ATodo.region ?_
    refine ARun.qv (q_load_ptr_all rfl rfl (.next (.next (.next .here))) rfl) rfl ?_
    refine ARun.qv (q_load_ptr_all rfl rfl (.next .here) rfl) rfl ?_
    refine r_callp rfl (place_square_c rfl) (CoL.refl _) rfl ?_
    refine ARun.qv (n_build rfl rfl rfl rfl rfl) rfl ?_
    refine n_store_ptr rfl rfl rfl rfl .here rfl rfl ?_
    refine ARun.nil ?_
    refine ATodo.ret ?_
    obtain rfl := Option.some.inj h
    exact ImpX.here ⟨_, .cons (.all _ _ _ _ _ _ rfl .here TUnder.h TInfo.h rfl rfl) .nil, rfl⟩
  · replace h := iteF hc h
    refine ATodo.seq ?_
    refine ATodo.region ?_
    refine ARun.qv (q_move rfl) rfl ?_
    refine ARun.qv (q_move rfl) rfl ?_
    refine ARun.qv (q_geq rfl rfl) rfl ?_
    refine ARun.qv (q_assign rfl) rfl ?_
    refine ARun.nil ?_
    refine ATodo.cond_d rfl (fun hc => ?_) (fun hc => ?_)
    · replace h := iteT hc h
      refine ATodo.seq ?_
      refine ATodo.region ?_
      refine ARun.qv (q_load_ptr_all rfl rfl (.next (.next .here)) rfl) rfl ?_
      refine ARun.qv (q_load_ptr_all rfl rfl (.next .here) rfl) rfl ?_
      refine r_callp rfl (place_square_c rfl) (CoL.refl _) rfl ?_
      refine ARun.qv (n_build rfl rfl rfl rfl rfl) rfl ?_
      refine n_store_ptr rfl rfl rfl rfl .here rfl rfl ?_
      refine ARun.nil ?_
      refine ATodo.ret ?_
      obtain rfl := Option.some.inj h
      exact ImpX.here ⟨_, .cons (.all _ _ _ _ _ _ rfl .here TUnder.h TInfo.h rfl rfl) .nil, rfl⟩
    · replace h := iteF hc h
      refine ATodo.skip ?_
      refine ATodo.blk ?_
      refine ATodo.seq ?_
      refine ATodo.region ?_
      refine ARun.qv (q_load_ptr_all rfl rfl (.next (.next (.next .here))) rfl) rfl ?_
      refine ARun.qv (q_load_ptr_all rfl rfl (.next (.next .here)) rfl) rfl ?_
      refine ARun.qv (q_load_ptr_all rfl rfl (.next .here) rfl) rfl ?_
      refine r_callp rfl (place_side_c rfl) (CoL.refl _) rfl ?_
      refine ARun.qv (q_assign rfl) rfl ?_
      refine ARun.nil ?_
      refine ATodo.seq ?_
      refine ATodo.region ?_
      refine ARun.qv (q_move rfl) rfl ?_
      refine ARun.qv (q_move rfl) rfl ?_
      refine ARun.qv (q_mulw rfl rfl) rfl ?_
      refine ARun.qv (q_move rfl) rfl ?_
      obtain ⟨v5, e1, h⟩ := bnd h
      refine r_callp rfl (base_Fraction_c e1) (CoL.refl _) rfl ?_
      refine n_store_ptr rfl rfl rfl rfl .here rfl rfl ?_
      refine ARun.nil ?_
      refine ATodo.ret ?_
      obtain rfl := Option.some.inj h
      exact ImpX.here ⟨_, .cons (.all _ _ _ _ _ _ rfl .here TUnder.h TInfo.h rfl rfl) .nil, rfl⟩

end Go.Proofs.Ytkmbppeelkbjoaa
