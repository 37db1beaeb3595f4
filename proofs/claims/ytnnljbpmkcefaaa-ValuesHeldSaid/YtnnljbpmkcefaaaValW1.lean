/- The code computes the plain functions: proofs written by shal.py. -/
import Derived.Test.YtnnljbpmkcefaaaValP
import Derived.Test.YtnnljbpmkcefaaaLib
set_option maxRecDepth 100000
set_option linter.unusedVariables false
set_option linter.unusedSimpArgs false
namespace Go.Proofs.Ytnnljbpmkcefaaa
open Go Go.Eng Go.Proofs Go.Beacon
attribute [local irreducible] ARun ATodo AQ QV ACall ImpX AWp AM
instance eqg39 : EqGd Try.prog 39 := ⟨by kernel_rfl⟩
instance eqt39 : EqTy Try.prog 39 2 Fraction.av := ⟨fun x y w S v u hv hu => by
  obtain ⟨vs, rfl, hl, ha⟩ := At.agg_inv hv
  obtain ⟨us, rfl, hl', ha'⟩ := At.agg_inv hu
  obtain ⟨v0, p0, q0⟩ := AtA.get hl ha (off := 0) rfl
  obtain ⟨u0, p0', q0'⟩ := AtA.get hl' ha' (off := 0) rfl
  obtain ⟨v1, p1, q1⟩ := AtA.get hl ha (off := 1) rfl
  obtain ⟨u1, p1', q1'⟩ := AtA.get hl' ha' (off := 1) rfl
  refine EqR.cast (EqR.struct Try.underlying39 (by kernel_rfl) (.cons (by decide) (part_one rfl p0) (part_one rfl p0') (EqR.up (EqTy.h (g := I) x.Num y.Num w S _ _ q0 q0') 0)  (.cons (by decide) (part_one rfl p1) (part_one rfl p1') (EqR.up (EqTy.h (g := I) x.Den y.Den w S _ _ q1 q1') 0) .nil))) ?_
  obtain ⟨_, _⟩ := x
  obtain ⟨_, _⟩ := y
  rw [Bool.eq_iff_iff]; simp [and_assoc]⟩
instance eqg88 : EqGd Try.prog 88 := ⟨by kernel_rfl⟩
instance eqt88 : EqTy Try.prog 88 2 Window.av := ⟨fun x y w S v u hv hu => by
  obtain ⟨vs, rfl, hl, ha⟩ := At.agg_inv hv
  obtain ⟨us, rfl, hl', ha'⟩ := At.agg_inv hu
  obtain ⟨v0, p0, q0⟩ := AtA.get hl ha (off := 0) rfl
  obtain ⟨u0, p0', q0'⟩ := AtA.get hl' ha' (off := 0) rfl
  obtain ⟨v1, p1, q1⟩ := AtA.get hl ha (off := 1) rfl
  obtain ⟨u1, p1', q1'⟩ := AtA.get hl' ha' (off := 1) rfl
  refine EqR.cast (EqR.struct Try.underlying88 (by kernel_rfl) (.cons (by decide) (part_one rfl p0) (part_one rfl p0') (EqR.up (EqTy.h (g := I) x.From y.From w S _ _ q0 q0') 0)  (.cons (by decide) (part_one rfl p1) (part_one rfl p1') (EqR.up (EqTy.h (g := I) x.To y.To w S _ _ q1 q1') 0) .nil))) ?_
  obtain ⟨_, _⟩ := x
  obtain ⟨_, _⟩ := y
  rw [Bool.eq_iff_iff]; simp [and_assoc]⟩
set_option maxHeartbeats 4000000 in
theorem Below_c {p0x0 : Int} {p1x0 : Int} {r : Int} (h : Below p0x0 p1x0 = some r) : Pu Try.prog 122 [I p0x0, I p1x0] (I r) := by
  unfold Below at h
  refine ACall.bodyN Try.func122 rfl Try.ntmps122 Try.results122 rfl rfl ?_
  refine ATodo.seq ?_
  refine ATodo.region ?_
  refine ARun.qv (q_assign rfl) rfl ?_
  refine ARun.nil ?_
  refine ATodo.seq ?_
  refine ATodo.seq ?_
  refine ATodo.region ?_
  refine ARun.qv (q_move rfl) rfl ?_
  refine ARun.qv (q_lss rfl rfl) rfl ?_
  refine ARun.nil ?_
  refine ATodo.cond_d rfl (fun hc => ?_) (fun hc => ?_)
  · replace h := iteT hc h
    refine ATodo.seq ?_
    refine ATodo.region ?_
    refine ARun.qv (q_assign rfl) rfl ?_
    refine ARun.nil ?_
    refine ATodo.ret ?_
    obtain rfl := Option.some.inj h
    exact ImpX.here ⟨_, .cons (.tmp _ _ rfl) .nil, rfl⟩
  · replace h := iteF hc h
    refine ATodo.skip ?_
    refine ATodo.seq ?_
    refine ATodo.region ?_
    refine ARun.qv (q_move rfl) rfl ?_
    refine ARun.qv (q_move rfl) rfl ?_
    obtain ⟨n1, e1, h⟩ := bnd h
    refine ARun.qv (t_remS rfl rfl e1) rfl ?_
    refine ARun.qv (q_assign rfl) rfl ?_
    refine ARun.nil ?_
    refine ATodo.seq ?_
    refine ATodo.seq ?_
    refine ATodo.region ?_
    refine ARun.qv (q_move rfl) rfl ?_
    refine ARun.qv (q_lss rfl rfl) rfl ?_
    refine ARun.nil ?_
    refine ATodo.cut (fun σ' => ∃ (n2 : Int), Below_j1 n2 = some r ∧ σ' = ⟨16, [(0, I n2)], []⟩) ?_ ?_
    · refine ATodo.cond_d rfl (fun hc => ?_) (fun hc => ?_)
      · replace h := iteT hc h
        refine ATodo.region ?_
        refine ARun.qv (q_move rfl) rfl ?_
        refine ARun.qv (q_move rfl) rfl ?_
        refine ARun.qv (q_addw rfl rfl) rfl ?_
        refine ARun.qv (q_assign rfl) rfl ?_
        refine ARun.nil ?_
        refine ATodo.stop ?_
        exact ImpX.lessP (by exact ⟨rfl, True.intro⟩) (.nil) (ImpX.here ⟨w64 (n1 + p1x0), h, rfl⟩)
      · replace h := iteF hc h
        refine ATodo.skip ?_
        refine ATodo.stop ?_
        exact ImpX.lessP (by exact ⟨rfl, True.intro⟩) (.nil) (ImpX.here ⟨n1, h, rfl⟩)
    · rintro σ' ⟨n2, h, rfl⟩
      unfold Below_j1 at h
      refine ATodo.seq ?_
      refine ATodo.region ?_
      refine ARun.qv (q_move rfl) rfl ?_
      refine ARun.qv (q_assign rfl) rfl ?_
      refine ARun.nil ?_
      refine ATodo.ret ?_
      obtain rfl := Option.some.inj h
      exact ImpX.here ⟨_, .cons (.tmp _ _ rfl) .nil, rfl⟩

set_option maxHeartbeats 4000000 in
theorem Stream_Next_c {b_0 : Bk} {p0x0 : Fleetmake_Stream} {p1x0 : Int} {r : Int × Fleetmake_Stream} (h : Stream_Next p0x0 p1x0 = some r) : ACall Try.prog 40 [.ptr b_0 0, I p1x0] [(b_0, .cells [.list 1 (p0x0.L.map I), I p0x0.at_])] (T0 ([(b_0, .cells [.list 1 (r.2.L.map I), I r.2.at_])]) (I r.1)) := by
  unfold Stream_Next at h
  refine ACall.lessH ?_
  refine ACall.bodyN Try.func40 rfl Try.ntmps40 Try.results40 rfl rfl ?_
  refine ATodo.seq ?_
  refine ATodo.region ?_
  refine ARun.qv (q_assign rfl) rfl ?_
  refine ARun.nil ?_
  refine ATodo.seq ?_
  refine ATodo.region ?_
  refine ARun.qv (q_move rfl) rfl ?_
  refine ARun.qv (q_nilCheck_ptr rfl) rfl ?_
  refine ARun.qv (n_field_ptr rfl rfl) rfl ?_
  refine ARun.qv (q_load_ptr rfl rfl .here rfl) rfl ?_
  refine ARun.qv (q_addw rfl rfl) rfl ?_
  refine ARun.qv (q_nilCheck_ptr rfl) rfl ?_
  refine ARun.qv (n_field_ptr rfl rfl) rfl ?_
  refine n_store_ptr rfl rfl rfl rfl .here rfl rfl ?_
  refine ARun.nil ?_
  refine ATodo.seq ?_
  refine ATodo.seq ?_
  refine ATodo.region ?_
  refine ARun.qv (q_move rfl) rfl ?_
  refine ARun.qv (q_nilCheck_ptr rfl) rfl ?_
  refine ARun.qv (n_field_ptr rfl rfl) rfl ?_
  refine ARun.qv (q_load_ptr rfl rfl .here rfl) rfl ?_
  refine ARun.qv (t_len rfl) rfl ?_
  refine ARun.qv (q_eql rfl rfl) rfl ?_
  refine ARun.nil ?_
  refine ATodo.cond_d rfl (fun hc => ?_) (fun hc => ?_)
  · replace h := iteT hc h
    refine ATodo.seq ?_
    refine ATodo.region ?_
    refine ARun.qv (q_move rfl) rfl ?_
    refine ARun.qv (q_nilCheck_ptr rfl) rfl ?_
    refine ARun.qv (n_field_ptr rfl rfl) rfl ?_
    refine ARun.qv (q_load_ptr rfl rfl .here rfl) rfl ?_
    refine ARun.qv (q_mulw rfl rfl) rfl ?_
    refine ARun.qv (q_move rfl) rfl ?_
    obtain ⟨v1, e1, h⟩ := bnd h
    refine r_callp rfl (Below_c e1) (CoL.refl _) rfl ?_
    refine ARun.qv (q_assign rfl) rfl ?_
    refine ARun.nil ?_
    refine ATodo.ret ?_
    obtain rfl := Option.some.inj h
    exact ImpX.here ⟨_, .cons (.tmp _ _ rfl) .nil, _, .cons .here .nil, ⟨rfl, rfl⟩⟩
  · replace h := iteF hc h
    refine ATodo.skip ?_
    refine ATodo.seq ?_
    refine ATodo.regionM (id := 4) (A := [0, 1, 3, 7, 15, 0, 32, 96, 224, 480, 1023, 2047]) 12 mixed rfl (by kernel_rfl) (by kernel_rfl) ?_
    refine AM.qv (q_move rfl) rfl ?_
    refine AM.qv (q_nilCheck_ptr rfl) rfl ?_
    refine AM.qv (n_field_ptr rfl rfl) rfl ?_
    refine AM.qv (q_load_ptr rfl rfl .here rfl) rfl ?_
    refine AM.qv (q_subw rfl rfl) rfl ?_
    refine AM.qv (q_move rfl) rfl ?_
    refine AM.qv (q_nilCheck_ptr rfl) rfl ?_
    refine AM.qv (n_field_ptr rfl rfl) rfl ?_
    refine AM.qv (q_load_ptr rfl rfl .here rfl) rfl ?_
    refine AM.qv (t_len rfl) rfl ?_
    obtain ⟨n2, e2, h⟩ := bnd h
    refine AM.qv (t_remS rfl rfl e2) rfl ?_
    refine AM.qv (q_assign rfl) rfl ?_
    refine AM.nil ?_
    refine ARun.nil ?_
    refine ATodo.seq ?_
    refine ATodo.regionM (id := 5) (A := [0, 1, 3, 7, 15, 0, 32, 96, 224, 480, 1023, 2047]) 12 mixed rfl (by kernel_rfl) (by kernel_rfl) ?_
    refine AM.qv (q_move rfl) rfl ?_
    refine AM.qv (q_nilCheck_ptr rfl) rfl ?_
    refine AM.qv (n_field_ptr rfl rfl) rfl ?_
    refine AM.qv (q_load_ptr rfl rfl .here rfl) rfl ?_
    refine AM.qv (q_subw rfl rfl) rfl ?_
    refine AM.qv (q_move rfl) rfl ?_
    refine AM.qv (q_nilCheck_ptr rfl) rfl ?_
    refine AM.qv (n_field_ptr rfl rfl) rfl ?_
    refine AM.qv (q_load_ptr rfl rfl .here rfl) rfl ?_
    refine AM.qv (t_len rfl) rfl ?_
    obtain ⟨n3, e3, h⟩ := bnd h
    refine AM.qv (t_quoS rfl rfl e3) rfl ?_
    refine AM.qv (q_assign rfl) rfl ?_
    refine AM.nil ?_
    refine ARun.nil ?_
    refine ATodo.seq ?_
    refine ATodo.region ?_
    refine ARun.qv (q_move rfl) rfl ?_
    refine ARun.qv (q_nilCheck_ptr rfl) rfl ?_
    refine ARun.qv (n_field_ptr rfl rfl) rfl ?_
    refine ARun.qv (q_load_ptr rfl rfl .here rfl) rfl ?_
    refine ARun.qv (q_move rfl) rfl ?_
    obtain ⟨v4, e4, h⟩ := bnd h
    refine ARun.qv (t_index rfl rfl rfl e4 rfl rfl) rfl ?_
    refine ARun.qv (q_load_rptr rfl rfl rfl) rfl ?_
    obtain ⟨v5, e5, h⟩ := bnd h
    refine r_callp rfl (Below_c e5) (CoL.refl _) rfl ?_
    refine ARun.qv (q_move rfl) rfl ?_
    refine ARun.qv (q_move rfl) rfl ?_
    refine ARun.qv (q_addw rfl rfl) rfl ?_
    refine ARun.qv (q_mulw rfl rfl) rfl ?_
    refine ARun.qv (q_addw rfl rfl) rfl ?_
    refine ARun.qv (q_move rfl) rfl ?_
    obtain ⟨v6, e6, h⟩ := bnd h
    refine r_callp rfl (Below_c e6) (CoL.refl _) rfl ?_
    refine ARun.qv (q_assign rfl) rfl ?_
    refine ARun.nil ?_
    refine ATodo.ret ?_
    obtain rfl := Option.some.inj h
    exact ImpX.here ⟨_, .cons (.tmp _ _ rfl) .nil, _, .cons .here .nil, ⟨rfl, rfl⟩⟩

set_option maxHeartbeats 4000000 in
theorem Stream_Pick_c {b_0 : Bk} {p0x0 : Fleetmake_Stream} {p1x0 : List Int} {r : Int × Fleetmake_Stream} (h : Stream_Pick p0x0 p1x0 = some r) : ACall Try.prog 15 [.ptr b_0 0, .list 1 (p1x0.map I)] [(b_0, .cells [.list 1 (p0x0.L.map I), I p0x0.at_])] (T0 ([(b_0, .cells [.list 1 (r.2.L.map I), I r.2.at_])]) (I r.1)) := by
  unfold Stream_Pick at h
  refine ACall.lessH ?_
  refine ACall.bodyN Try.func15 rfl Try.ntmps15 Try.results15 rfl rfl ?_
  refine ATodo.seq ?_
  refine ATodo.region ?_
  refine ARun.qv (q_assign rfl) rfl ?_
  refine ARun.nil ?_
  refine ATodo.seq ?_
  refine ATodo.region ?_
  refine ARun.qv (q_move rfl) rfl ?_
  refine ARun.qv (q_move rfl) rfl ?_
  refine ARun.qv (q_move rfl) rfl ?_
  refine ARun.qv (t_len rfl) rfl ?_
  obtain ⟨v1, e1, h⟩ := bnd h
  refine t_call0 rfl (Stream_Next_c e1) (CoL.refl _) (.cons .here .nil) rfl rfl ?_
  obtain ⟨v2, e2, h⟩ := bnd h
  refine ARun.qv (t_index rfl rfl rfl e2 rfl rfl) rfl ?_
  refine ARun.qv (q_load_rptr rfl rfl rfl) rfl ?_
  refine ARun.qv (q_assign rfl) rfl ?_
  refine ARun.nil ?_
  refine ATodo.ret ?_
  obtain rfl := Option.some.inj h
  exact ImpX.here ⟨_, .cons (.tmp _ _ rfl) .nil, _, .cons .here .nil, ⟨rfl, rfl⟩⟩

set_option maxHeartbeats 4000000 in
theorem Stream_Range_c {b_0 : Bk} {p0x0 : Fleetmake_Stream} {p1x0 : Int} {p2x0 : Int} {r : Int × Fleetmake_Stream} (h : Stream_Range p0x0 p1x0 p2x0 = some r) : ACall Try.prog 37 [.ptr b_0 0, I p1x0, I p2x0] [(b_0, .cells [.list 1 (p0x0.L.map I), I p0x0.at_])] (T0 ([(b_0, .cells [.list 1 (r.2.L.map I), I r.2.at_])]) (I r.1)) := by
  unfold Stream_Range at h
  refine ACall.lessH ?_
  refine ACall.bodyN Try.func37 rfl Try.ntmps37 Try.results37 rfl rfl ?_
  refine ATodo.seq ?_
  refine ATodo.region ?_
  refine ARun.qv (q_assign rfl) rfl ?_
  refine ARun.nil ?_
  refine ATodo.seq ?_
  refine ATodo.seq ?_
  refine ATodo.region ?_
  refine ARun.qv (q_move rfl) rfl ?_
  refine ARun.qv (q_move rfl) rfl ?_
  refine ARun.qv (q_lss rfl rfl) rfl ?_
  refine ARun.nil ?_
  refine ATodo.cond_d rfl (fun hc => ?_) (fun hc => ?_)
  · replace h := iteT hc h
    refine ATodo.seq ?_
    refine ATodo.region ?_
    refine ARun.qv (q_move rfl) rfl ?_
    refine ARun.qv (q_assign rfl) rfl ?_
    refine ARun.nil ?_
    refine ATodo.ret ?_
    obtain rfl := Option.some.inj h
    exact ImpX.here ⟨_, .cons (.tmp _ _ rfl) .nil, _, .cons .here .nil, ⟨rfl, rfl⟩⟩
  · replace h := iteF hc h
    refine ATodo.skip ?_
    refine ATodo.seq ?_
    refine ATodo.region ?_
    refine ARun.qv (q_move rfl) rfl ?_
    refine ARun.qv (q_move rfl) rfl ?_
    refine ARun.qv (q_move rfl) rfl ?_
    refine ARun.qv (q_move rfl) rfl ?_
    refine ARun.qv (q_subw rfl rfl) rfl ?_
    refine ARun.qv (q_addw rfl rfl) rfl ?_
    obtain ⟨v1, e1, h⟩ := bnd h
    refine t_call0 rfl (Stream_Next_c e1) (CoL.refl _) (.cons .here .nil) rfl rfl ?_
    refine ARun.qv (q_addw rfl rfl) rfl ?_
    refine ARun.qv (q_assign rfl) rfl ?_
    refine ARun.nil ?_
    refine ATodo.ret ?_
    obtain rfl := Option.some.inj h
    exact ImpX.here ⟨_, .cons (.tmp _ _ rfl) .nil, _, .cons .here .nil, ⟨rfl, rfl⟩⟩

set_option maxHeartbeats 4000000 in
theorem Stream_RightSeries_c {b_0 : Bk} {p0x0 : Fleetmake_Stream} {p1x0 : Int} {p2x0 : Int} {r : (List Sample) × Fleetmake_Stream} (h : Stream_RightSeries p0x0 p1x0 p2x0 = some r) : ACall Try.prog 136 [.ptr b_0 0, I p1x0, I p2x0] [(b_0, .cells [.list 1 (p0x0.L.map I), I p0x0.at_])] (T1 (fun d_0 => [(b_0, .cells [.list 1 (r.2.L.map I), I r.2.at_]), (d_0, .arr 4 (r.1.map Sample.av))]) (fun d_0 => .sl 4 d_0 0 r.1.length)) := by
  unfold Stream_RightSeries at h
  refine ACall.lessH ?_
  refine ACall.bodyN Try.func136 rfl Try.ntmps136 Try.results136 rfl rfl ?_
  refine ATodo.seq ?_
  refine ATodo.region ?_
  refine ARun.qv (q_assign rfl) rfl ?_
  refine ARun.nil ?_
  refine ATodo.seq ?_
  refine ATodo.region ?_
  refine ARun.qv (q_assign rfl) rfl ?_
  refine ARun.nil ?_
  refine ATodo.seq ?_
  refine ATodo.region ?_
  refine ARun.qv (q_assign rfl) rfl ?_
  refine ARun.nil ?_
  refine ATodo.seq ?_
  refine ATodo.seq ?_
  refine ATodo.region ?_
  refine ARun.qv (q_move rfl) rfl ?_
  refine ARun.qv (q_move rfl) rfl ?_
  obtain ⟨v1, e1, h⟩ := bnd h
  refine t_call0 rfl (Stream_Range_c e1) (CoL.refl _) (.cons .here .nil) rfl rfl ?_
  refine ARun.qv (q_move rfl) rfl ?_
  refine ARun.nil ?_
  refine ATodo.block ?_
  refine ATodo.loopI (fun x : (List Int) × Int × (List Sample) × Int × Int => Stream_RightSeries_b1 p2x0 v1 x.1 x.2.1 x.2.2.1 x.2.2.2.1 x.2.2.2.2) (fun x σ' => ∃ (b10 : Bk), σ' = ⟨31, [(0, .ptr b_0 0), (2, I p2x0), (7, .sl 4 b10 0 x.2.2.1.length), (8, I x.2.2.2.1), (11, I v1.1), (12, I x.2.2.2.2)], [(b_0, .cells [.list 1 (x.1.map I), I x.2.1]), (b10, .arr 4 (x.2.2.1.map Sample.av))]⟩) h ?_ ?_
  · refine ImpX.arr (s := 7) 4 rfl (fun b14 => ?_)
    exact ImpX.lessP (by exact ⟨rfl, rfl, rfl, rfl, rfl, rfl, True.intro⟩) (.cons (.next .here) (.cons .here .nil)) (ImpX.here ⟨b14, rfl⟩)
  · intro x z1 σ' J1 hmk h hJ1 hA1
    obtain ⟨l8, n9, l11, n12, n13⟩ := x
    obtain ⟨b10, rfl⟩ := hmk
    replace h : Stream_RightSeries_b1 p2x0 v1 l8 n9 l11 n12 n13 = some z1 := h
    unfold Stream_RightSeries_b1 at h
    refine ATodo.seq ?_
    refine ATodo.region ?_
    refine ARun.qv (q_lss rfl rfl) rfl ?_
    refine ARun.nil ?_
    refine ATodo.seq ?_
    refine ATodo.cond_d rfl (fun hc => ?_) (fun hc => ?_)
    · replace h := iteT hc h
      refine ATodo.skip ?_
      refine ATodo.seq ?_
      refine ATodo.block ?_
      refine ATodo.seq ?_
      refine ATodo.region ?_
      refine ARun.qv (q_move rfl) rfl ?_
      refine ARun.qv (q_move rfl) rfl ?_
      refine n_buildSliceL (xs := ([(1 : Int), (1 : Int), (2 : Int), (5 : Int), (10 : Int), (10 : Int), (40 : Int), (127 : Int), (1000 : Int)]).map I) rfl rfl rfl rfl rfl rfl ?_
      obtain ⟨v15, e2, h⟩ := bnd h
      refine t_call0 rfl (Stream_Pick_c e2) (CoL.refl _) (.cons .here .nil) rfl rfl ?_
      refine ARun.qv (q_addw rfl rfl) rfl ?_
      refine ARun.qv (q_assign rfl) rfl ?_
      refine ARun.nil ?_
      refine ATodo.region ?_
      refine ARun.qv (q_move rfl) rfl ?_
      refine ARun.qv (q_move rfl) rfl ?_
      refine ARun.qv (q_move rfl) rfl ?_
      refine ARun.qv (q_move rfl) rfl ?_
      refine n_buildSliceL (xs := ([(0 : Int), (1 : Int), (2 : Int), (5 : Int), (7 : Int), (9 : Int), (-3 : Int), (-70 : Int), (100 : Int), (1000 : Int), (5 : Int)]).map I) rfl rfl rfl rfl rfl rfl ?_
      obtain ⟨v16, e3, h⟩ := bnd h
      refine t_call0 rfl (Stream_Pick_c e3) (CoL.refl _) (.cons .here .nil) rfl rfl ?_
      refine ARun.qv (q_max rfl rfl) rfl ?_
      refine ARun.qv (n_build rfl rfl rfl rfl rfl) rfl ?_
      refine n_buildSliceL (xs := ([(⟨([100] : Str), ([109] : Str), w64 (n12 + v15.1), max p2x0 v16.1⟩ : Sample)]).map Sample.av) rfl rfl rfl rfl rfl rfl ?_
      obtain ⟨l17, e4, h⟩ := bnd h
      refine t_append (g := Sample.av) rfl rfl rfl rfl rfl rfl rfl rfl (.list _) e4 (fun _ => (.next .here)) rfl (fun b18 => ?_)
      refine ARun.qv (q_assign rfl) rfl ?_
      refine ARun.nil ?_
      refine ATodo.blk ?_
      refine ATodo.region ?_
      refine ARun.qv (q_addw rfl rfl) rfl ?_
      refine ARun.qv (q_move rfl) rfl ?_
      refine ARun.nil ?_
      refine ATodo.stop ?_
      obtain rfl := Option.some.inj h
      refine hJ1 _ _ rfl ?_
      exact ImpX.lessP (by exact ⟨rfl, rfl, rfl, rfl, rfl, rfl, True.intro⟩) (.cons .here (.cons .here .nil)) (ImpX.here ⟨b18, rfl⟩)
    · replace h := iteF hc h
      refine ATodo.exit rfl ?_
      replace h := outL h hA1
      refine ATodo.seq ?_
      refine ATodo.region ?_
      refine ARun.qv (q_move rfl) rfl ?_
      refine ARun.qv (q_assign rfl) rfl ?_
      refine ARun.nil ?_
      refine ATodo.ret ?_
      obtain rfl := Option.some.inj h
      exact ImpX.here ⟨_, .cons (.tmp _ _ rfl) .nil, _, .cons .here (.cons .here .nil), ⟨b10, rfl, rfl⟩⟩

set_option maxHeartbeats 4000000 in
theorem Stream_Flip_c {b_0 : Bk} {p0x0 : Fleetmake_Stream} {p1x0 : Int} {r : Bool × Fleetmake_Stream} (h : Stream_Flip p0x0 p1x0 = some r) : ACall Try.prog 38 [.ptr b_0 0, I p1x0] [(b_0, .cells [.list 1 (p0x0.L.map I), I p0x0.at_])] (T0 ([(b_0, .cells [.list 1 (r.2.L.map I), I r.2.at_])]) (.bool r.1)) := by
  unfold Stream_Flip at h
  refine ACall.lessH ?_
  refine ACall.bodyN Try.func38 rfl Try.ntmps38 Try.results38 rfl rfl ?_
  refine ATodo.seq ?_
  refine ATodo.region ?_
  refine ARun.qv (q_assign rfl) rfl ?_
  refine ARun.nil ?_
  refine ATodo.seq ?_
  refine ATodo.region ?_
  refine ARun.qv (q_move rfl) rfl ?_
  refine ARun.qv (q_move rfl) rfl ?_
  obtain ⟨v1, e1, h⟩ := bnd h
  refine t_call0 rfl (Stream_Next_c e1) (CoL.refl _) (.cons .here .nil) rfl rfl ?_
  refine ARun.qv (q_eql rfl rfl) rfl ?_
  refine ARun.qv (q_assign rfl) rfl ?_
  refine ARun.nil ?_
  refine ATodo.ret ?_
  obtain rfl := Option.some.inj h
  exact ImpX.here ⟨_, .cons (.tmp _ _ rfl) .nil, _, .cons .here .nil, ⟨rfl, rfl⟩⟩

set_option maxHeartbeats 4000000 in
theorem Stream_Some_c {b_0 : Bk} {p0x0 : Fleetmake_Stream} {p1x0 : List Str} {r : Str × Fleetmake_Stream} (h : Stream_Some p0x0 p1x0 = some r) : ACall Try.prog 13 [.ptr b_0 0, .list 1 (p1x0.map AV.str)] [(b_0, .cells [.list 1 (p0x0.L.map I), I p0x0.at_])] (T0 ([(b_0, .cells [.list 1 (r.2.L.map I), I r.2.at_])]) (.str r.1)) := by
  unfold Stream_Some at h
  refine ACall.lessH ?_
  refine ACall.bodyN Try.func13 rfl Try.ntmps13 Try.results13 rfl rfl ?_
  refine ATodo.seq ?_
  refine ATodo.region ?_
  refine ARun.qv (q_assign rfl) rfl ?_
  refine ARun.nil ?_
  refine ATodo.seq ?_
  refine ATodo.region ?_
  refine ARun.qv (q_move rfl) rfl ?_
  refine ARun.qv (q_move rfl) rfl ?_
  refine ARun.qv (q_move rfl) rfl ?_
  refine ARun.qv (t_len rfl) rfl ?_
  obtain ⟨v1, e1, h⟩ := bnd h
  refine t_call0 rfl (Stream_Next_c e1) (CoL.refl _) (.cons .here .nil) rfl rfl ?_
  obtain ⟨v2, e2, h⟩ := bnd h
  refine ARun.qv (t_index rfl rfl rfl e2 rfl rfl) rfl ?_
  refine ARun.qv (q_load_rptr rfl rfl rfl) rfl ?_
  refine ARun.qv (q_assign rfl) rfl ?_
  refine ARun.nil ?_
  refine ATodo.ret ?_
  obtain rfl := Option.some.inj h
  exact ImpX.here ⟨_, .cons (.tmp _ _ rfl) .nil, _, .cons .here .nil, ⟨rfl, rfl⟩⟩

set_option maxHeartbeats 4000000 in
theorem Stream_Odd_c {b_0 : Bk} {p0x0 : Fleetmake_Stream} {p1x0 : Int} {p2x0 : Int} {r : Int × Fleetmake_Stream} (h : Stream_Odd p0x0 p1x0 p2x0 = some r) : ACall Try.prog 14 [.ptr b_0 0, I p1x0, I p2x0] [(b_0, .cells [.list 1 (p0x0.L.map I), I p0x0.at_])] (T0 ([(b_0, .cells [.list 1 (r.2.L.map I), I r.2.at_])]) (I r.1)) := by
  unfold Stream_Odd at h
  refine ACall.lessH ?_
  refine ACall.bodyN Try.func14 rfl Try.ntmps14 Try.results14 rfl rfl ?_
  refine ATodo.seq ?_
  refine ATodo.region ?_
  refine ARun.qv (q_assign rfl) rfl ?_
  refine ARun.nil ?_
  refine ATodo.seq ?_
  refine ATodo.seq ?_
  refine ATodo.region ?_
  refine ARun.qv (q_move rfl) rfl ?_
  obtain ⟨v1, e1, h⟩ := bnd h
  refine t_call0 rfl (Stream_Flip_c e1) (CoL.refl _) (.cons .here .nil) rfl rfl ?_
  refine ARun.nil ?_
  refine ATodo.cond rfl (fun hc => ?_) (fun hc => ?_)
  · replace h := iteT hc h
    refine ATodo.seq ?_
    refine ATodo.region ?_
    refine ARun.qv (q_move rfl) rfl ?_
    refine ARun.qv (q_move rfl) rfl ?_
    refine ARun.qv (q_subw rfl rfl) rfl ?_
    refine ARun.qv (q_move rfl) rfl ?_
    refine ARun.qv (q_addw rfl rfl) rfl ?_
    refine ARun.qv (q_move rfl) rfl ?_
    refine ARun.qv (q_move rfl) rfl ?_
    refine n_buildSliceL (xs := ([w64 (p1x0 - (1 : Int)), w64 (p2x0 + (1 : Int)), p1x0, p2x0, (-1099511627776 : Int), (1099511627776 : Int)]).map I) rfl rfl rfl rfl rfl rfl ?_
    obtain ⟨v2, e2, h⟩ := bnd h
    refine t_call0 rfl (Stream_Pick_c e2) (CoL.refl _) (.cons .here .nil) rfl rfl ?_
    refine ARun.qv (q_assign rfl) rfl ?_
    refine ARun.nil ?_
    refine ATodo.ret ?_
    obtain rfl := Option.some.inj h
    exact ImpX.here ⟨_, .cons (.tmp _ _ rfl) .nil, _, .cons .here .nil, ⟨rfl, rfl⟩⟩
  · replace h := iteFb hc h
    refine ATodo.skip ?_
    refine ATodo.seq ?_
    refine ATodo.region ?_
    refine ARun.qv (q_move rfl) rfl ?_
    refine ARun.qv (q_move rfl) rfl ?_
    refine ARun.qv (q_move rfl) rfl ?_
    obtain ⟨v3, e3, h⟩ := bnd h
    refine t_call0 rfl (Stream_Range_c e3) (CoL.refl _) (.cons .here .nil) rfl rfl ?_
    refine ARun.qv (q_assign rfl) rfl ?_
    refine ARun.nil ?_
    refine ATodo.ret ?_
    obtain rfl := Option.some.inj h
    exact ImpX.here ⟨_, .cons (.tmp _ _ rfl) .nil, _, .cons .here .nil, ⟨rfl, rfl⟩⟩

set_option maxHeartbeats 4000000 in
theorem Stream_Series_c {b_0 : Bk} {p0x0 : Fleetmake_Stream} {p1x0 : Int} {r : (List Sample) × Fleetmake_Stream} (h : Stream_Series p0x0 p1x0 = some r) : ACall Try.prog 54 [.ptr b_0 0, I p1x0] [(b_0, .cells [.list 1 (p0x0.L.map I), I p0x0.at_])] (T1 (fun d_0 => [(b_0, .cells [.list 1 (r.2.L.map I), I r.2.at_]), (d_0, .arr 4 (r.1.map Sample.av))]) (fun d_0 => .sl 4 d_0 0 r.1.length)) := by
  unfold Stream_Series at h
  refine ACall.lessH ?_
  refine ACall.bodyN Try.func54 rfl Try.ntmps54 Try.results54 rfl rfl ?_
  refine ATodo.seq ?_
  refine ATodo.region ?_
  refine ARun.qv (q_assign rfl) rfl ?_
  refine ARun.nil ?_
  refine ATodo.seq ?_
  refine ATodo.region ?_
  refine ARun.qv (q_move rfl) rfl ?_
  refine ARun.qv (q_move rfl) rfl ?_
  refine ARun.qv (q_move rfl) rfl ?_
  refine n_buildSliceL (xs := ([(0 : Int), (-100 : Int)]).map I) rfl rfl rfl rfl rfl rfl ?_
  obtain ⟨v1, e1, h⟩ := bnd h
  refine t_call0 rfl (Stream_Pick_c e1) (CoL.refl _) (.cons .here .nil) rfl rfl ?_
  obtain ⟨v2, e2, h⟩ := bnd h
  refine t_call1 rfl (Stream_RightSeries_c e2) (CoL.refl _) (.cons .here .nil) (fun _ => rfl) rfl (fun b3 => ?_)
  refine ARun.qv (q_assign rfl) rfl ?_
  refine ARun.nil ?_
  refine ATodo.seq ?_
  refine ATodo.seq ?_
  refine ATodo.cut (fun σ' => ∃ (l4 : List Int) (n5 : Int) (c6 : Bool), Stream_Series_j1 v2 l4 n5 c6 = some r ∧ σ' = ⟨82, [(0, .ptr b_0 0), (5, .sl 4 b3 0 v2.1.length), (20, .bool c6)], [(b_0, .cells [.list 1 (l4.map I), I n5]), (b3, .arr 4 (v2.1.map Sample.av))]⟩) ?_ ?_
  · refine ATodo.region ?_
    refine ARun.qv (q_move rfl) rfl ?_
    refine ARun.qv (t_len_sl rfl) rfl ?_
    refine ARun.qv (q_gtr rfl rfl) rfl ?_
    refine ARun.qv (q_move rfl) rfl ?_
    refine ARun.guard_dt rfl rfl rfl (fun hc => ?_) (fun hc => ?_)
    · replace h := iteT hc h
      refine ARun.qv (q_move rfl) rfl ?_
      refine ARun.guard_yes rfl rfl rfl ?_
      obtain ⟨v7, e3, h⟩ := bnd h
      refine t_call0 rfl (Stream_Flip_c e3) (CoL.refl _) (.cons .here .nil) rfl rfl ?_
      refine ARun.qv (q_pick_t rfl rfl) rfl ?_
      refine ARun.nil ?_
      refine ATodo.stop ?_
      exact ImpX.lessP (by exact ⟨rfl, rfl, rfl, True.intro⟩) (.cons .here (.cons .here .nil)) (ImpX.here ⟨v7.2.L, v7.2.at_, v7.1, h, rfl⟩)
    · replace h := iteF hc h
      refine ARun.guard_no rfl rfl rfl rfl ?_
      refine ARun.qv (q_pick_f rfl rfl) rfl ?_
      refine ARun.nil ?_
      refine ATodo.stop ?_
      exact ImpX.lessP (by exact ⟨rfl, rfl, rfl, True.intro⟩) (.cons .here (.cons .here .nil)) (ImpX.here ⟨v2.2.L, v2.2.at_, false, h, rfl⟩)
  · rintro σ' ⟨l4, n5, c6, h, rfl⟩
    unfold Stream_Series_j1 at h
    refine ATodo.cut (fun σ' => ∃ (l8 : List Int) (n9 : Int) (l10 : List Sample), Stream_Series_j2 l8 n9 l10 = some r ∧ σ' = ⟨82, [(0, .ptr b_0 0), (5, .sl 4 b3 0 l10.length)], [(b_0, .cells [.list 1 (l8.map I), I n9]), (b3, .arr 4 (l10.map Sample.av))]⟩) ?_ ?_
    · refine ATodo.cond rfl (fun hc => ?_) (fun hc => ?_)
      · replace h := iteT hc h
        refine ATodo.seq ?_
        refine ATodo.region ?_
        refine ARun.qv (q_move rfl) rfl ?_
        refine ARun.qv (q_move rfl) rfl ?_
        refine ARun.qv (q_move rfl) rfl ?_
        refine ARun.qv (t_len_sl rfl) rfl ?_
        obtain ⟨v11, e4, h⟩ := bnd h
        refine t_call0 rfl (Stream_Next_c e4) (CoL.refl _) (.cons .here .nil) rfl rfl ?_
        obtain ⟨v12, e5, h⟩ := bnd h
        refine ARun.qv (t_index_sl rfl rfl rfl e5) rfl ?_
        refine ARun.qv (q_assign rfl) rfl ?_
        refine ARun.nil ?_
        refine ATodo.seq ?_
        refine ATodo.region ?_
        refine ARun.qv (q_move rfl) rfl ?_
        obtain ⟨v13, e6, h⟩ := bnd h
        refine t_call0 rfl (Stream_Next_c e6) (CoL.refl _) (.cons .here .nil) rfl rfl ?_
        refine ARun.nil ?_
        refine ATodo.block ?_
        refine ATodo.seq ?_
        refine ATodo.region ?_
        refine ARun.qv (q_eql rfl rfl) rfl ?_
        refine ARun.qv (q_assign rfl) rfl ?_
        refine ARun.nil ?_
        refine ATodo.cut (fun σ' => ∃ (l14 : List Int) (n15 : Int) (l16 : List Sample), Stream_Series_j3 l14 n15 l16 = some r ∧ σ' = ⟨82, [(0, .ptr b_0 0), (5, .sl 4 b3 0 l16.length)], [(b_0, .cells [.list 1 (l14.map I), I n15]), (b3, .arr 4 (l16.map Sample.av))]⟩) ?_ ?_
        · refine ATodo.cond_d rfl (fun hc => ?_) (fun hc => ?_)
          · replace h := iteT hc h
            refine ATodo.region ?_
            refine ARun.qv (q_move rfl) rfl ?_
            refine ARun.qv (q_move rfl) rfl ?_
            refine n_buildSliceL (xs := ([([] : Str), ([101] : Str), ([65] : Str)]).map AV.str) rfl rfl rfl rfl rfl rfl ?_
            obtain ⟨v17, e7, h⟩ := bnd h
            refine t_call0 rfl (Stream_Some_c e7) (CoL.refl _) (.cons .here .nil) rfl rfl ?_
            refine ARun.qv (q_nilCheck_aptr rfl) rfl ?_
            refine ARun.qv (t_field_aptr rfl rfl) rfl ?_
            refine t_store_aptr1 (g := Sample.av) (el' := (⟨v17.1, v12.Metric, v12.At, v12.Value⟩ : Sample)) rfl rfl rfl rfl e5 rfl (.next .here) rfl ?_
            refine ARun.ghost (ImpX.eqs (s := 5) (av' := .sl 4 b3 0 (v2.1.set v11.1.toNat (⟨v17.1, v12.Metric, v12.At, v12.Value⟩ : Sample)).length) rfl (by rw [List.length_set]) (ImpX.here ?_))
            refine ARun.ghost (ImpX.eqs (s := 21) (av' := .sl 4 b3 0 (v2.1.set v11.1.toNat (⟨v17.1, v12.Metric, v12.At, v12.Value⟩ : Sample)).length) rfl (by rw [List.length_set]) (ImpX.here ?_))
            refine ARun.ghost (ImpX.eqs (s := 23) (av' := .sl 4 b3 0 (v2.1.set v11.1.toNat (⟨v17.1, v12.Metric, v12.At, v12.Value⟩ : Sample)).length) rfl (by rw [List.length_set]) (ImpX.here ?_))
            refine ARun.nil ?_
            refine ATodo.stop ?_
            exact ImpX.lessP (by exact ⟨rfl, rfl, True.intro⟩) (.cons .here (.cons .here .nil)) (ImpX.here ⟨v17.2.L, v17.2.at_, v2.1.set v11.1.toNat (⟨v17.1, v12.Metric, v12.At, v12.Value⟩ : Sample), h, rfl⟩)
          · replace h := iteF hc h
            refine ATodo.seq ?_
            refine ATodo.region ?_
            refine ARun.qv (q_eql rfl rfl) rfl ?_
            refine ARun.qv (q_assign rfl) rfl ?_
            refine ARun.nil ?_
            refine ATodo.cut (fun σ' => ∃ (l18 : List Int) (n19 : Int) (l20 : List Sample), Stream_Series_j4 l18 n19 l20 = some r ∧ σ' = ⟨82, [(0, .ptr b_0 0), (5, .sl 4 b3 0 l20.length)], [(b_0, .cells [.list 1 (l18.map I), I n19]), (b3, .arr 4 (l20.map Sample.av))]⟩) ?_ ?_
            · refine ATodo.cond_d rfl (fun hc => ?_) (fun hc => ?_)
              · replace h := iteT hc h
                refine ATodo.region ?_
                refine ARun.qv (q_move rfl) rfl ?_
                refine ARun.qv (q_move rfl) rfl ?_
                refine n_buildSliceL (xs := ([([] : Str), ([110] : Str)]).map AV.str) rfl rfl rfl rfl rfl rfl ?_
                obtain ⟨v21, e8, h⟩ := bnd h
                refine t_call0 rfl (Stream_Some_c e8) (CoL.refl _) (.cons .here .nil) rfl rfl ?_
                refine ARun.qv (q_nilCheck_aptr rfl) rfl ?_
                refine ARun.qv (t_field_aptr rfl rfl) rfl ?_
                refine t_store_aptr1 (g := Sample.av) (el' := (⟨v12.Device, v21.1, v12.At, v12.Value⟩ : Sample)) rfl rfl rfl rfl e5 rfl (.next .here) rfl ?_
                refine ARun.ghost (ImpX.eqs (s := 5) (av' := .sl 4 b3 0 (v2.1.set v11.1.toNat (⟨v12.Device, v21.1, v12.At, v12.Value⟩ : Sample)).length) rfl (by rw [List.length_set]) (ImpX.here ?_))
                refine ARun.ghost (ImpX.eqs (s := 21) (av' := .sl 4 b3 0 (v2.1.set v11.1.toNat (⟨v12.Device, v21.1, v12.At, v12.Value⟩ : Sample)).length) rfl (by rw [List.length_set]) (ImpX.here ?_))
                refine ARun.ghost (ImpX.eqs (s := 23) (av' := .sl 4 b3 0 (v2.1.set v11.1.toNat (⟨v12.Device, v21.1, v12.At, v12.Value⟩ : Sample)).length) rfl (by rw [List.length_set]) (ImpX.here ?_))
                refine ARun.nil ?_
                refine ATodo.stop ?_
                exact ImpX.lessP (by exact ⟨rfl, rfl, True.intro⟩) (.cons .here (.cons .here .nil)) (ImpX.here ⟨v21.2.L, v21.2.at_, v2.1.set v11.1.toNat (⟨v12.Device, v21.1, v12.At, v12.Value⟩ : Sample), h, rfl⟩)
              · replace h := iteF hc h
                refine ATodo.seq ?_
                refine ATodo.region ?_
                refine ARun.qv (q_eql rfl rfl) rfl ?_
                refine ARun.qv (q_assign rfl) rfl ?_
                refine ARun.nil ?_
                refine ATodo.cut (fun σ' => ∃ (l22 : List Int) (n23 : Int) (l24 : List Sample), Stream_Series_j5 l22 n23 l24 = some r ∧ σ' = ⟨82, [(0, .ptr b_0 0), (5, .sl 4 b3 0 l24.length)], [(b_0, .cells [.list 1 (l22.map I), I n23]), (b3, .arr 4 (l24.map Sample.av))]⟩) ?_ ?_
                · refine ATodo.cond_d rfl (fun hc => ?_) (fun hc => ?_)
                  · replace h := iteT hc h
                    refine ATodo.region ?_
                    refine ARun.qv (q_move rfl) rfl ?_
                    refine ARun.qv (q_move rfl) rfl ?_
                    obtain ⟨v25, e9, h⟩ := bnd h
                    refine t_call0 rfl (Stream_Odd_c e9) (CoL.refl _) (.cons .here .nil) rfl rfl ?_
                    refine ARun.qv (q_nilCheck_aptr rfl) rfl ?_
                    refine ARun.qv (t_field_aptr rfl rfl) rfl ?_
                    refine t_store_aptr1 (g := Sample.av) (el' := (⟨v12.Device, v12.Metric, v25.1, v12.Value⟩ : Sample)) rfl rfl rfl rfl e5 rfl (.next .here) rfl ?_
                    refine ARun.ghost (ImpX.eqs (s := 5) (av' := .sl 4 b3 0 (v2.1.set v11.1.toNat (⟨v12.Device, v12.Metric, v25.1, v12.Value⟩ : Sample)).length) rfl (by rw [List.length_set]) (ImpX.here ?_))
                    refine ARun.ghost (ImpX.eqs (s := 21) (av' := .sl 4 b3 0 (v2.1.set v11.1.toNat (⟨v12.Device, v12.Metric, v25.1, v12.Value⟩ : Sample)).length) rfl (by rw [List.length_set]) (ImpX.here ?_))
                    refine ARun.ghost (ImpX.eqs (s := 23) (av' := .sl 4 b3 0 (v2.1.set v11.1.toNat (⟨v12.Device, v12.Metric, v25.1, v12.Value⟩ : Sample)).length) rfl (by rw [List.length_set]) (ImpX.here ?_))
                    refine ARun.nil ?_
                    refine ATodo.stop ?_
                    exact ImpX.lessP (by exact ⟨rfl, rfl, True.intro⟩) (.cons .here (.cons .here .nil)) (ImpX.here ⟨v25.2.L, v25.2.at_, v2.1.set v11.1.toNat (⟨v12.Device, v12.Metric, v25.1, v12.Value⟩ : Sample), h, rfl⟩)
                  · replace h := iteF hc h
                    refine ATodo.region ?_
                    refine ARun.qv (q_move rfl) rfl ?_
                    refine ARun.qv (q_move rfl) rfl ?_
                    obtain ⟨v26, e10, h⟩ := bnd h
                    refine t_call0 rfl (Stream_Odd_c e10) (CoL.refl _) (.cons .here .nil) rfl rfl ?_
                    refine ARun.qv (q_nilCheck_aptr rfl) rfl ?_
                    refine ARun.qv (t_field_aptr rfl rfl) rfl ?_
                    refine t_store_aptr1 (g := Sample.av) (el' := (⟨v12.Device, v12.Metric, v12.At, v26.1⟩ : Sample)) rfl rfl rfl rfl e5 rfl (.next .here) rfl ?_
                    refine ARun.ghost (ImpX.eqs (s := 5) (av' := .sl 4 b3 0 (v2.1.set v11.1.toNat (⟨v12.Device, v12.Metric, v12.At, v26.1⟩ : Sample)).length) rfl (by rw [List.length_set]) (ImpX.here ?_))
                    refine ARun.ghost (ImpX.eqs (s := 21) (av' := .sl 4 b3 0 (v2.1.set v11.1.toNat (⟨v12.Device, v12.Metric, v12.At, v26.1⟩ : Sample)).length) rfl (by rw [List.length_set]) (ImpX.here ?_))
                    refine ARun.ghost (ImpX.eqs (s := 23) (av' := .sl 4 b3 0 (v2.1.set v11.1.toNat (⟨v12.Device, v12.Metric, v12.At, v26.1⟩ : Sample)).length) rfl (by rw [List.length_set]) (ImpX.here ?_))
                    refine ARun.nil ?_
                    refine ATodo.stop ?_
                    exact ImpX.lessP (by exact ⟨rfl, rfl, True.intro⟩) (.cons .here (.cons .here .nil)) (ImpX.here ⟨v26.2.L, v26.2.at_, v2.1.set v11.1.toNat (⟨v12.Device, v12.Metric, v12.At, v26.1⟩ : Sample), h, rfl⟩)
                · rintro σ' ⟨l22, n23, l24, h, rfl⟩
                  unfold Stream_Series_j5 at h
                  refine ATodo.stop ?_
                  exact ImpX.lessP (by exact ⟨rfl, rfl, True.intro⟩) (.cons .here (.cons .here .nil)) (ImpX.here ⟨l22, n23, l24, h, rfl⟩)
            · rintro σ' ⟨l18, n19, l20, h, rfl⟩
              unfold Stream_Series_j4 at h
              refine ATodo.stop ?_
              exact ImpX.lessP (by exact ⟨rfl, rfl, True.intro⟩) (.cons .here (.cons .here .nil)) (ImpX.here ⟨l18, n19, l20, h, rfl⟩)
        · rintro σ' ⟨l14, n15, l16, h, rfl⟩
          unfold Stream_Series_j3 at h
          refine ATodo.blk ?_
          refine ATodo.stop ?_
          exact ImpX.lessP (by exact ⟨rfl, rfl, True.intro⟩) (.cons .here (.cons .here .nil)) (ImpX.here ⟨l14, n15, l16, h, rfl⟩)
      · replace h := iteFb hc h
        refine ATodo.skip ?_
        refine ATodo.stop ?_
        exact ImpX.lessP (by exact ⟨rfl, rfl, True.intro⟩) (.cons .here (.cons .here .nil)) (ImpX.here ⟨l4, n5, v2.1, h, rfl⟩)
    · rintro σ' ⟨l8, n9, l10, h, rfl⟩
      unfold Stream_Series_j2 at h
      refine ATodo.seq ?_
      refine ATodo.seq ?_
      refine ATodo.cut (fun σ' => ∃ (l27 : List Int) (n28 : Int) (c29 : Bool), Stream_Series_j6 l10 l27 n28 c29 = some r ∧ σ' = ⟨82, [(0, .ptr b_0 0), (5, .sl 4 b3 0 l10.length), (63, .bool c29)], [(b_0, .cells [.list 1 (l27.map I), I n28]), (b3, .arr 4 (l10.map Sample.av))]⟩) ?_ ?_
      · refine ATodo.region ?_
        refine ARun.qv (q_move rfl) rfl ?_
        refine ARun.qv (t_len_sl rfl) rfl ?_
        refine ARun.qv (q_gtr rfl rfl) rfl ?_
        refine ARun.qv (q_move rfl) rfl ?_
        refine ARun.guard_dt rfl rfl rfl (fun hc => ?_) (fun hc => ?_)
        · replace h := iteT hc h
          refine ARun.qv (q_move rfl) rfl ?_
          refine ARun.guard_yes rfl rfl rfl ?_
          obtain ⟨v30, e11, h⟩ := bnd h
          refine t_call0 rfl (Stream_Flip_c e11) (CoL.refl _) (.cons .here .nil) rfl rfl ?_
          refine ARun.qv (q_pick_t rfl rfl) rfl ?_
          refine ARun.nil ?_
          refine ATodo.stop ?_
          exact ImpX.lessP (by exact ⟨rfl, rfl, rfl, True.intro⟩) (.cons .here (.cons .here .nil)) (ImpX.here ⟨v30.2.L, v30.2.at_, v30.1, h, rfl⟩)
        · replace h := iteF hc h
          refine ARun.guard_no rfl rfl rfl rfl ?_
          refine ARun.qv (q_pick_f rfl rfl) rfl ?_
          refine ARun.nil ?_
          refine ATodo.stop ?_
          exact ImpX.lessP (by exact ⟨rfl, rfl, rfl, True.intro⟩) (.cons .here (.cons .here .nil)) (ImpX.here ⟨l8, n9, false, h, rfl⟩)
      · rintro σ' ⟨l27, n28, c29, h, rfl⟩
        unfold Stream_Series_j6 at h
        refine ATodo.cut (fun σ' => ∃ (l31 : List Int) (n32 : Int) (l33 : List Sample), Stream_Series_j7 l31 n32 l33 = some r ∧ σ' = ⟨82, [(5, .sl 4 b3 0 l33.length)], [(b_0, .cells [.list 1 (l31.map I), I n32]), (b3, .arr 4 (l33.map Sample.av))]⟩) ?_ ?_
        · refine ATodo.cond rfl (fun hc => ?_) (fun hc => ?_)
          · replace h := iteT hc h
            refine ATodo.seq ?_
            refine ATodo.region ?_
            refine ARun.qv (q_move rfl) rfl ?_
            refine ARun.qv (q_move rfl) rfl ?_
            refine ARun.qv (t_len_sl rfl) rfl ?_
            refine ARun.qv (q_subw rfl rfl) rfl ?_
            obtain ⟨v34, e12, h⟩ := bnd h
            refine ARun.qv (t_index_sl rfl rfl rfl e12) rfl ?_
            refine ARun.qv (q_assign rfl) rfl ?_
            refine ARun.nil ?_
            refine ATodo.region ?_
            refine ARun.qv (q_move rfl) rfl ?_
            refine ARun.qv (q_move rfl) rfl ?_
            refine ARun.qv (q_move rfl) rfl ?_
            refine n_buildSliceL (xs := ([(345686399999 : Int), (3456000000 : Int), (950400000 : Int)]).map I) rfl rfl rfl rfl rfl rfl ?_
            obtain ⟨v35, e13, h⟩ := bnd h
            refine t_call0 rfl (Stream_Pick_c e13) (CoL.refl _) (.cons .here .nil) rfl rfl ?_
            refine ARun.qv (q_move rfl) rfl ?_
            refine n_buildSliceL (xs := ([(1000000000 : Int), (-1000000000 : Int)]).map I) rfl rfl rfl rfl rfl rfl ?_
            obtain ⟨v36, e14, h⟩ := bnd h
            refine t_call0 rfl (Stream_Pick_c e14) (CoL.refl _) (.cons .here .nil) rfl rfl ?_
            refine ARun.qv (q_nilCheck_aptr rfl) rfl ?_
            refine ARun.qv (t_field_aptr rfl rfl) rfl ?_
            refine t_store_aptr1 (g := Sample.av) (el' := (⟨v34.Device, v34.Metric, v35.1, v34.Value⟩ : Sample)) rfl rfl rfl rfl e12 rfl (.next .here) rfl ?_
            refine ARun.ghost (ImpX.eqs (s := 5) (av' := .sl 4 b3 0 (l10.set (w64 ((l10.length : Int) - (1 : Int))).toNat (⟨v34.Device, v34.Metric, v35.1, v34.Value⟩ : Sample)).length) rfl (by rw [List.length_set]) (ImpX.here ?_))
            refine ARun.ghost (ImpX.eqs (s := 64) (av' := .sl 4 b3 0 (l10.set (w64 ((l10.length : Int) - (1 : Int))).toNat (⟨v34.Device, v34.Metric, v35.1, v34.Value⟩ : Sample)).length) rfl (by rw [List.length_set]) (ImpX.here ?_))
            refine ARun.ghost (ImpX.eqs (s := 65) (av' := .sl 4 b3 0 (l10.set (w64 ((l10.length : Int) - (1 : Int))).toNat (⟨v34.Device, v34.Metric, v35.1, v34.Value⟩ : Sample)).length) rfl (by rw [List.length_set]) (ImpX.here ?_))
            refine ARun.qv (q_nilCheck_aptr rfl) rfl ?_
            refine ARun.qv (t_field_aptr rfl rfl) rfl ?_
            refine t_store_aptr1 (g := Sample.av) (el' := (⟨v34.Device, v34.Metric, v35.1, v36.1⟩ : Sample)) rfl rfl rfl rfl (idx_set_self (v := (⟨v34.Device, v34.Metric, v35.1, v34.Value⟩ : Sample)) e12) rfl (.next .here) rfl ?_
            refine ARun.ghost (ImpX.eqs (s := 5) (av' := .sl 4 b3 0 ((l10.set (w64 ((l10.length : Int) - (1 : Int))).toNat (⟨v34.Device, v34.Metric, v35.1, v34.Value⟩ : Sample)).set (w64 ((l10.length : Int) - (1 : Int))).toNat (⟨v34.Device, v34.Metric, v35.1, v36.1⟩ : Sample)).length) rfl (by rw [List.length_set]) (ImpX.here ?_))
            refine ARun.ghost (ImpX.eqs (s := 64) (av' := .sl 4 b3 0 ((l10.set (w64 ((l10.length : Int) - (1 : Int))).toNat (⟨v34.Device, v34.Metric, v35.1, v34.Value⟩ : Sample)).set (w64 ((l10.length : Int) - (1 : Int))).toNat (⟨v34.Device, v34.Metric, v35.1, v36.1⟩ : Sample)).length) rfl (by rw [List.length_set]) (ImpX.here ?_))
            refine ARun.ghost (ImpX.eqs (s := 65) (av' := .sl 4 b3 0 ((l10.set (w64 ((l10.length : Int) - (1 : Int))).toNat (⟨v34.Device, v34.Metric, v35.1, v34.Value⟩ : Sample)).set (w64 ((l10.length : Int) - (1 : Int))).toNat (⟨v34.Device, v34.Metric, v35.1, v36.1⟩ : Sample)).length) rfl (by rw [List.length_set]) (ImpX.here ?_))
            refine ARun.nil ?_
            refine ATodo.stop ?_
            exact ImpX.lessP (by exact ⟨rfl, True.intro⟩) (.cons .here (.cons .here .nil)) (ImpX.here ⟨v36.2.L, v36.2.at_, (l10.set (w64 ((l10.length : Int) - (1 : Int))).toNat (⟨v34.Device, v34.Metric, v35.1, v34.Value⟩ : Sample)).set (w64 ((l10.length : Int) - (1 : Int))).toNat (⟨v34.Device, v34.Metric, v35.1, v36.1⟩ : Sample), h, rfl⟩)
          · replace h := iteFb hc h
            refine ATodo.skip ?_
            refine ATodo.stop ?_
            exact ImpX.lessP (by exact ⟨rfl, True.intro⟩) (.cons .here (.cons .here .nil)) (ImpX.here ⟨l27, n28, l10, h, rfl⟩)
        · rintro σ' ⟨l31, n32, l33, h, rfl⟩
          unfold Stream_Series_j7 at h
          refine ATodo.seq ?_
          refine ATodo.region ?_
          refine ARun.qv (q_move rfl) rfl ?_
          refine ARun.qv (q_assign rfl) rfl ?_
          refine ARun.nil ?_
          refine ATodo.ret ?_
          obtain rfl := Option.some.inj h
          exact ImpX.here ⟨_, .cons (.tmp _ _ rfl) .nil, _, .cons .here (.cons .here .nil), ⟨b3, rfl, rfl⟩⟩

set_option maxHeartbeats 4000000 in
theorem Stream_Frame_c {b_0 : Bk} {p0x0 : Fleetmake_Stream} {r : Window × Fleetmake_Stream} (h : Stream_Frame p0x0 = some r) : ACall Try.prog 55 [.ptr b_0 0] [(b_0, .cells [.list 1 (p0x0.L.map I), I p0x0.at_])] (T0 ([(b_0, .cells [.list 1 (r.2.L.map I), I r.2.at_])]) (.agg [I r.1.From, I r.1.To])) := by
  unfold Stream_Frame at h
  refine ACall.lessH ?_
  refine ACall.bodyN Try.func55 rfl Try.ntmps55 Try.results55 rfl rfl ?_
  refine ATodo.seq ?_
  refine ATodo.region ?_
  refine n_alloc rfl rfl rfl rfl (fun b1 => ?_)
  refine ARun.nil ?_
  refine ATodo.seq ?_
  refine ATodo.region ?_
  refine ARun.qv (q_move rfl) rfl ?_
  refine n_buildSliceL (xs := ([(0 : Int), (0 : Int), (1 : Int), (5 : Int), (10 : Int), (50 : Int)]).map I) rfl rfl rfl rfl rfl rfl ?_
  obtain ⟨v2, e1, h⟩ := bnd h
  refine t_call0 rfl (Stream_Pick_c e1) (CoL.refl _) (.cons (.next .here) .nil) rfl rfl ?_
  refine ARun.qv (q_move rfl) rfl ?_
  refine n_buildSliceL (xs := ([(10 : Int), (50 : Int), (100 : Int), (300 : Int), (3000 : Int)]).map I) rfl rfl rfl rfl rfl rfl ?_
  obtain ⟨v3, e2, h⟩ := bnd h
  refine t_call0 rfl (Stream_Pick_c e2) (CoL.refl _) (.cons .here .nil) rfl rfl ?_
  refine ARun.qv (n_build rfl rfl rfl rfl rfl) rfl ?_
  refine n_alloc rfl rfl rfl rfl (fun b4 => ?_)
  refine n_store_ptr rfl rfl rfl rfl .here rfl rfl ?_
  refine ARun.nil ?_
  refine ATodo.seq ?_
  refine ATodo.seq ?_
  refine ATodo.cut (fun σ' => ∃ (l5 : List Int) (n6 : Int) (c7 : Bool), Stream_Frame_j1 v2 v3 l5 n6 c7 = some r ∧ σ' = ⟨39, [(0, .ptr b_0 0), (2, .ptr b1 0), (3, .ptr b4 0), (20, .bool c7)], [(b_0, .cells [.list 1 (l5.map I), I n6]), (b1, .cells [I (0 : Int), I (0 : Int)]), (b4, .cells [I v2.1, I v3.1])]⟩) ?_ ?_
  · refine ATodo.region ?_
    refine ARun.qv (n_field_ptr rfl rfl) rfl ?_
    refine ARun.qv (q_load_ptr rfl rfl .here rfl) rfl ?_
    refine ARun.qv (n_field_ptr rfl rfl) rfl ?_
    refine ARun.qv (q_load_ptr rfl rfl .here rfl) rfl ?_
    refine ARun.qv (q_gtr rfl rfl) rfl ?_
    refine ARun.qv (q_move rfl) rfl ?_
    refine ARun.guard_dt rfl rfl rfl (fun hc => ?_) (fun hc => ?_)
    · replace h := iteT hc h
      refine ARun.qv (q_move rfl) rfl ?_
      refine ARun.guard_yes rfl rfl rfl ?_
      obtain ⟨v8, e3, h⟩ := bnd h
      refine t_call0 rfl (Stream_Flip_c e3) (CoL.refl _) (.cons (.next .here) .nil) rfl rfl ?_
      refine ARun.guard_yes rfl rfl rfl ?_
      refine ARun.qv (q_not rfl) rfl ?_
      refine ARun.qv (q_pick_t rfl rfl) rfl ?_
      refine ARun.nil ?_
      refine ATodo.stop ?_
      exact ImpX.lessP (by exact ⟨rfl, rfl, rfl, rfl, True.intro⟩) (.cons .here (.cons (.next .here) (.cons .here .nil))) (ImpX.here ⟨v8.2.L, v8.2.at_, !v8.1, h, rfl⟩)
    · replace h := iteF hc h
      refine ARun.guard_no rfl rfl rfl rfl ?_
      refine ARun.guard_no rfl rfl rfl rfl ?_
      refine ARun.qv (q_pick_f rfl rfl) rfl ?_
      refine ARun.nil ?_
      refine ATodo.stop ?_
      exact ImpX.lessP (by exact ⟨rfl, rfl, rfl, rfl, True.intro⟩) (.cons (.next .here) (.cons (.next .here) (.cons .here .nil))) (ImpX.here ⟨v3.2.L, v3.2.at_, false, h, rfl⟩)
  · rintro σ' ⟨l5, n6, c7, h, rfl⟩
    unfold Stream_Frame_j1 at h
    refine ATodo.cut (fun σ' => ∃ (n9 : Int), Stream_Frame_j2 v3 l5 n6 n9 = some r ∧ σ' = ⟨39, [(0, .ptr b_0 0), (2, .ptr b1 0), (3, .ptr b4 0)], [(b_0, .cells [.list 1 (l5.map I), I n6]), (b1, .cells [I (0 : Int), I (0 : Int)]), (b4, .cells [I n9, I v3.1])]⟩) ?_ ?_
    · refine ATodo.cond rfl (fun hc => ?_) (fun hc => ?_)
      · replace h := iteT hc h
        refine ATodo.region ?_
        refine ARun.qv (n_field_ptr rfl rfl) rfl ?_
        refine n_store_ptr rfl rfl rfl rfl (.next (.next .here)) rfl rfl ?_
        refine ARun.nil ?_
        refine ATodo.stop ?_
        exact ImpX.lessP (by exact ⟨rfl, rfl, rfl, True.intro⟩) (.cons .here (.cons .here (.cons .here .nil))) (ImpX.here ⟨(0 : Int), h, rfl⟩)
      · replace h := iteFb hc h
        refine ATodo.skip ?_
        refine ATodo.stop ?_
        exact ImpX.lessP (by exact ⟨rfl, rfl, rfl, True.intro⟩) (.cons .here (.cons .here (.cons .here .nil))) (ImpX.here ⟨v2.1, h, rfl⟩)
    · rintro σ' ⟨n9, h, rfl⟩
      unfold Stream_Frame_j2 at h
      refine ATodo.seq ?_
      refine ATodo.seq ?_
      refine ATodo.region ?_
      refine ARun.qv (q_move rfl) rfl ?_
      obtain ⟨v10, e4, h⟩ := bnd h
      refine t_call0 rfl (Stream_Flip_c e4) (CoL.refl _) (.cons .here .nil) rfl rfl ?_
      refine ARun.nil ?_
      refine ATodo.cut (fun σ' => ∃ (l11 : List Int) (n12 : Int) (n13 : Int) (n14 : Int), Stream_Frame_j3 l11 n12 n13 n14 = some r ∧ σ' = ⟨39, [(0, .ptr b_0 0), (2, .ptr b1 0), (3, .ptr b4 0)], [(b_0, .cells [.list 1 (l11.map I), I n12]), (b1, .cells [I (0 : Int), I (0 : Int)]), (b4, .cells [I n13, I n14])]⟩) ?_ ?_
      · refine ATodo.cond rfl (fun hc => ?_) (fun hc => ?_)
        · replace h := iteT hc h
          refine ATodo.region ?_
          refine ARun.qv (q_move rfl) rfl ?_
          obtain ⟨v15, e5, h⟩ := bnd h
          refine t_call0 rfl (Stream_Odd_c e5) (CoL.refl _) (.cons .here .nil) rfl rfl ?_
          refine ARun.qv (q_move rfl) rfl ?_
          obtain ⟨v16, e6, h⟩ := bnd h
          refine t_call0 rfl (Stream_Odd_c e6) (CoL.refl _) (.cons .here .nil) rfl rfl ?_
          refine ARun.qv (n_build rfl rfl rfl rfl rfl) rfl ?_
          refine n_store_ptr rfl rfl rfl rfl (.next (.next .here)) rfl rfl ?_
          refine ARun.nil ?_
          refine ATodo.stop ?_
          exact ImpX.lessP (by exact ⟨rfl, rfl, rfl, True.intro⟩) (.cons .here (.cons .here (.cons .here .nil))) (ImpX.here ⟨v16.2.L, v16.2.at_, v15.1, v16.1, h, rfl⟩)
        · replace h := iteFb hc h
          refine ATodo.skip ?_
          refine ATodo.stop ?_
          exact ImpX.lessP (by exact ⟨rfl, rfl, rfl, True.intro⟩) (.cons .here (.cons .here (.cons .here .nil))) (ImpX.here ⟨v10.2.L, v10.2.at_, n9, v3.1, h, rfl⟩)
      · rintro σ' ⟨l11, n12, n13, n14, h, rfl⟩
        unfold Stream_Frame_j3 at h
        refine ATodo.seq ?_
        refine ATodo.seq ?_
        refine ATodo.region ?_
        refine ARun.qv (q_move rfl) rfl ?_
        obtain ⟨v17, e7, h⟩ := bnd h
        refine t_call0 rfl (Stream_Flip_c e7) (CoL.refl _) (.cons .here .nil) rfl rfl ?_
        refine ARun.nil ?_
        refine ATodo.cut (fun σ' => ∃ (l18 : List Int) (n19 : Int) (n20 : Int) (n21 : Int), Stream_Frame_j4 l18 n19 n20 n21 = some r ∧ σ' = ⟨39, [(2, .ptr b1 0), (3, .ptr b4 0)], [(b_0, .cells [.list 1 (l18.map I), I n19]), (b1, .cells [I (0 : Int), I (0 : Int)]), (b4, .cells [I n20, I n21])]⟩) ?_ ?_
        · refine ATodo.cond rfl (fun hc => ?_) (fun hc => ?_)
          · replace h := iteT hc h
            refine ATodo.region ?_
            refine ARun.qv (q_move rfl) rfl ?_
            refine n_buildSliceL (xs := ([(0 : Int), (5 : Int)]).map I) rfl rfl rfl rfl rfl rfl ?_
            obtain ⟨v22, e8, h⟩ := bnd h
            refine t_call0 rfl (Stream_Pick_c e8) (CoL.refl _) (.cons .here .nil) rfl rfl ?_
            refine ARun.qv (q_move rfl) rfl ?_
            refine n_buildSliceL (xs := ([(345686400000 : Int), (345686400001 : Int), (7776000000 : Int), (7862400000 : Int)]).map I) rfl rfl rfl rfl rfl rfl ?_
            obtain ⟨v23, e9, h⟩ := bnd h
            refine t_call0 rfl (Stream_Pick_c e9) (CoL.refl _) (.cons .here .nil) rfl rfl ?_
            refine ARun.qv (n_build rfl rfl rfl rfl rfl) rfl ?_
            refine n_store_ptr rfl rfl rfl rfl (.next (.next .here)) rfl rfl ?_
            refine ARun.nil ?_
            refine ATodo.stop ?_
            exact ImpX.lessP (by exact ⟨rfl, rfl, True.intro⟩) (.cons .here (.cons .here (.cons .here .nil))) (ImpX.here ⟨v23.2.L, v23.2.at_, v22.1, v23.1, h, rfl⟩)
          · replace h := iteFb hc h
            refine ATodo.skip ?_
            refine ATodo.stop ?_
            exact ImpX.lessP (by exact ⟨rfl, rfl, True.intro⟩) (.cons .here (.cons .here (.cons .here .nil))) (ImpX.here ⟨v17.2.L, v17.2.at_, n13, n14, h, rfl⟩)
        · rintro σ' ⟨l18, n19, n20, n21, h, rfl⟩
          unfold Stream_Frame_j4 at h
          refine ATodo.seq ?_
          refine ATodo.region ?_
          refine ARun.qv (q_load_ptr_all rfl rfl (.next (.next .here)) rfl) rfl ?_
          refine n_store_ptr rfl rfl rfl rfl (.next .here) rfl rfl ?_
          refine ARun.nil ?_
          refine ATodo.ret ?_
          obtain rfl := Option.some.inj h
          exact ImpX.here ⟨_, .cons (.all _ _ _ _ _ _ rfl (.next .here) TUnder.h TInfo.h rfl rfl) .nil, _, .cons .here .nil, ⟨rfl, rfl⟩⟩

set_option maxHeartbeats 4000000 in
theorem base_Key_c {p0x0 : Str} {r : Bool} (h : base_Key p0x0 = some r) : Pu Try.prog 126 [.str p0x0] (.bool r) := by
  unfold base_Key at h
  refine ACall.bodyN Try.func126 rfl Try.ntmps126 Try.results126 rfl rfl ?_
  refine ATodo.seq ?_
  refine ATodo.region ?_
  refine ARun.qv (q_assign rfl) rfl ?_
  refine ARun.nil ?_
  refine ATodo.seq ?_
  refine ATodo.seq ?_
  refine ATodo.cut (fun σ' => ∃ (c1 : Bool), base_Key_j1 p0x0 c1 = some r ∧ σ' = ⟨54, [(0, .str p0x0), (21, .bool c1)], []⟩) ?_ ?_
  · refine ATodo.region ?_
    refine ARun.qv (q_move rfl) rfl ?_
    refine ARun.qv (q_seq rfl rfl) rfl ?_
    refine ARun.qv (q_move rfl) rfl ?_
    refine ARun.guard_df rfl rfl rfl (fun hc => ?_) (fun hc => ?_)
    · replace h := iteF hc h
      refine ARun.qv (q_move rfl) rfl ?_
      refine ARun.guard_yes rfl rfl rfl ?_
      refine ARun.qv (q_len_str rfl) rfl ?_
      refine ARun.guard_yes rfl rfl rfl ?_
      refine ARun.qv (q_gtr rfl rfl) rfl ?_
      refine ARun.qv (q_pick_f rfl rfl) rfl ?_
      refine ARun.qv (q_move rfl) rfl ?_
      refine ARun.guard_df rfl rfl rfl (fun hc => ?_) (fun hc => ?_)
      · replace h := iteF hc h
        refine ARun.qv (q_move rfl) rfl ?_
        refine ARun.guard_yes rfl rfl rfl ?_
        obtain ⟨c2, e1, h⟩ := bnd h
        refine ARun.qv (t_index_str rfl rfl e1) rfl ?_
        refine ARun.guard_yes rfl rfl rfl ?_
        refine ARun.qv (q_lss rfl rfl) rfl ?_
        refine ARun.qv (q_pick_f rfl rfl) rfl ?_
        refine ARun.qv (q_move rfl) rfl ?_
        refine ARun.guard_df rfl rfl rfl (fun hc => ?_) (fun hc => ?_)
        · replace h := iteF hc h
          refine ARun.qv (q_move rfl) rfl ?_
          refine ARun.guard_yes rfl rfl rfl ?_
          obtain ⟨c3, e2, h⟩ := bnd h
          refine ARun.qv (t_index_str rfl rfl e2) rfl ?_
          refine ARun.guard_yes rfl rfl rfl ?_
          refine ARun.qv (q_gtr rfl rfl) rfl ?_
          refine ARun.qv (q_pick_f rfl rfl) rfl ?_
          refine ARun.nil ?_
          refine ATodo.stop ?_
          exact ImpX.lessP (by exact ⟨rfl, rfl, True.intro⟩) (.nil) (ImpX.here ⟨decide ((122 : Int) < (c3.toNat : Int)), h, rfl⟩)
        · replace h := iteT hc h
          refine ARun.guard_no rfl rfl rfl rfl ?_
          refine ARun.guard_no rfl rfl rfl rfl ?_
          refine ARun.qv (q_pick_t rfl rfl) rfl ?_
          refine ARun.nil ?_
          refine ATodo.stop ?_
          exact ImpX.lessP (by exact ⟨rfl, rfl, True.intro⟩) (.nil) (ImpX.here ⟨true, h, rfl⟩)
      · replace h := iteT hc h
        refine ARun.guard_no rfl rfl rfl rfl ?_
        refine ARun.guard_no rfl rfl rfl rfl ?_
        refine ARun.qv (q_pick_t rfl rfl) rfl ?_
        refine ARun.qv (q_move rfl) rfl ?_
        refine ARun.guard_no rfl rfl rfl rfl ?_
        refine ARun.guard_no rfl rfl rfl rfl ?_
        refine ARun.guard_no rfl rfl rfl rfl ?_
        refine ARun.qv (q_pick_t rfl rfl) rfl ?_
        refine ARun.nil ?_
        refine ATodo.stop ?_
        exact ImpX.lessP (by exact ⟨rfl, rfl, True.intro⟩) (.nil) (ImpX.here ⟨true, h, rfl⟩)
    · replace h := iteT hc h
      refine ARun.guard_no rfl rfl rfl rfl ?_
      refine ARun.guard_no rfl rfl rfl rfl ?_
      refine ARun.qv (q_pick_t rfl rfl) rfl ?_
      refine ARun.qv (q_move rfl) rfl ?_
      refine ARun.guard_no rfl rfl rfl rfl ?_
      refine ARun.guard_no rfl rfl rfl rfl ?_
      refine ARun.guard_no rfl rfl rfl rfl ?_
      refine ARun.qv (q_pick_t rfl rfl) rfl ?_
      refine ARun.qv (q_move rfl) rfl ?_
      refine ARun.guard_no rfl rfl rfl rfl ?_
      refine ARun.guard_no rfl rfl rfl rfl ?_
      refine ARun.guard_no rfl rfl rfl rfl ?_
      refine ARun.qv (q_pick_t rfl rfl) rfl ?_
      refine ARun.nil ?_
      refine ATodo.stop ?_
      exact ImpX.lessP (by exact ⟨rfl, rfl, True.intro⟩) (.nil) (ImpX.here ⟨true, h, rfl⟩)
  · rintro σ' ⟨c1, h, rfl⟩
    unfold base_Key_j1 at h
    refine ATodo.cond rfl (fun hc => ?_) (fun hc => ?_)
    · replace h := iteT hc h
      refine ATodo.seq ?_
      refine ATodo.region ?_
      refine ARun.qv (q_assign rfl) rfl ?_
      refine ARun.nil ?_
      refine ATodo.ret ?_
      obtain rfl := Option.some.inj h
      exact ImpX.here ⟨_, .cons (.tmp _ _ rfl) .nil, rfl⟩
    · replace h := iteFb hc h
      refine ATodo.skip ?_
      refine ATodo.seq ?_
      refine ATodo.seq ?_
      refine ATodo.region ?_
      refine ARun.qv (q_move rfl) rfl ?_
      refine ARun.qv (q_len_str rfl) rfl ?_
      refine ARun.qv (q_move rfl) rfl ?_
      refine ARun.nil ?_
      refine ATodo.block ?_
      refine ATodo.loopI (fun x : Int => base_Key_b1 p0x0 x) (fun x σ' => σ' = ⟨54, [(0, .str p0x0), (23, I (p0x0.length : Int)), (24, I x)], []⟩) h ?_ ?_
      · exact ImpX.lessP (by exact ⟨rfl, rfl, rfl, True.intro⟩) (.nil) (ImpX.here rfl)
      · intro n5 z1 σ' J1 hmk h hJ1 hA1
        obtain rfl := hmk
        replace h : base_Key_b1 p0x0 n5 = some z1 := h
        unfold base_Key_b1 at h
        refine ATodo.seq ?_
        refine ATodo.region ?_
        refine ARun.qv (q_lss rfl rfl) rfl ?_
        refine ARun.nil ?_
        refine ATodo.seq ?_
        refine ATodo.cond_d rfl (fun hc => ?_) (fun hc => ?_)
        · replace h := iteT hc h
          refine ATodo.skip ?_
          refine ATodo.seq ?_
          refine ATodo.block ?_
          refine ATodo.seq ?_
          refine ATodo.region ?_
          refine ARun.qv (q_move rfl) rfl ?_
          refine ARun.qv (q_assign rfl) rfl ?_
          refine ARun.nil ?_
          refine ATodo.seq ?_
          refine ATodo.region ?_
          refine ARun.qv (q_move rfl) rfl ?_
          refine ARun.qv (q_move rfl) rfl ?_
          obtain ⟨c6, e3, h⟩ := bnd h
          refine ARun.qv (t_index_str rfl rfl e3) rfl ?_
          refine ARun.qv (q_assign rfl) rfl ?_
          refine ARun.nil ?_
          refine ATodo.seq ?_
          refine ATodo.cut (fun σ' => ∃ (c7 : Bool), base_Key_j2 n5 c7 = some z1 ∧ σ' = ⟨54, [(0, .str p0x0), (23, I (p0x0.length : Int)), (24, I n5), (52, .bool c7)], []⟩) ?_ ?_
          · refine ATodo.region ?_
            refine ARun.qv (q_move rfl) rfl ?_
            refine ARun.qv (q_geq rfl rfl) rfl ?_
            refine ARun.qv (q_move rfl) rfl ?_
            refine ARun.guard_dt rfl rfl rfl (fun hc => ?_) (fun hc => ?_)
            · rw [if_pos hc] at h
              refine ARun.qv (q_move rfl) rfl ?_
              refine ARun.guard_yes rfl rfl rfl ?_
              refine ARun.qv (q_leq rfl rfl) rfl ?_
              refine ARun.qv (q_pick_t rfl rfl) rfl ?_
              refine ARun.qv (q_move rfl) rfl ?_
              refine ARun.guard_df rfl rfl rfl (fun hc => ?_) (fun hc => ?_)
              · rw [if_neg hc] at h
                refine ARun.qv (q_move rfl) rfl ?_
                refine ARun.guard_yes rfl rfl rfl ?_
                refine ARun.qv (q_geq rfl rfl) rfl ?_
                refine ARun.guard_yes rfl rfl rfl ?_
                refine ARun.qv (q_move rfl) rfl ?_
                refine ARun.guard_dt rfl rfl rfl (fun hc => ?_) (fun hc => ?_)
                · rw [if_pos hc] at h
                  refine ARun.qv (q_move rfl) rfl ?_
                  refine ARun.guard_yes rfl rfl rfl ?_
                  refine ARun.qv (q_leq rfl rfl) rfl ?_
                  refine ARun.guard_yes rfl rfl rfl ?_
                  refine ARun.qv (q_pick_t rfl rfl) rfl ?_
                  refine ARun.qv (q_pick_f rfl rfl) rfl ?_
                  refine ARun.qv (q_move rfl) rfl ?_
                  refine ARun.guard_df rfl rfl rfl (fun hc => ?_) (fun hc => ?_)
                  · rw [if_neg hc] at h
                    refine ARun.qv (q_move rfl) rfl ?_
                    refine ARun.guard_yes rfl rfl rfl ?_
                    refine ARun.qv (q_eql rfl rfl) rfl ?_
                    refine ARun.qv (q_pick_f rfl rfl) rfl ?_
                    refine ARun.qv (q_move rfl) rfl ?_
                    refine ARun.guard_df rfl rfl rfl (fun hc => ?_) (fun hc => ?_)
                    · rw [if_neg hc] at h
                      refine ARun.qv (q_move rfl) rfl ?_
                      refine ARun.guard_yes rfl rfl rfl ?_
                      refine ARun.qv (q_eql rfl rfl) rfl ?_
                      refine ARun.qv (q_pick_f rfl rfl) rfl ?_
                      refine ARun.qv (q_not_d rfl) rfl ?_
                      refine ARun.nil ?_
                      refine ATodo.stop ?_
                      exact ImpX.lessP (by exact ⟨rfl, rfl, rfl, rfl, True.intro⟩) (.nil) (ImpX.here ⟨decide (¬ ((c6.toNat : Int) = (95 : Int))), h, rfl⟩)
                    · rw [if_pos hc] at h
                      refine ARun.guard_no rfl rfl rfl rfl ?_
                      refine ARun.qv (q_pick_t rfl rfl) rfl ?_
                      refine ARun.qv (q_not rfl) rfl ?_
                      refine ARun.nil ?_
                      refine ATodo.stop ?_
                      exact ImpX.lessP (by exact ⟨rfl, rfl, rfl, rfl, True.intro⟩) (.nil) (ImpX.here ⟨!true, h, rfl⟩)
                  · rw [if_pos hc] at h
                    refine ARun.guard_no rfl rfl rfl rfl ?_
                    refine ARun.qv (q_pick_t rfl rfl) rfl ?_
                    refine ARun.qv (q_move rfl) rfl ?_
                    refine ARun.guard_no rfl rfl rfl rfl ?_
                    refine ARun.guard_no rfl rfl rfl rfl ?_
                    refine ARun.qv (q_pick_t rfl rfl) rfl ?_
                    refine ARun.qv (q_not rfl) rfl ?_
                    refine ARun.nil ?_
                    refine ATodo.stop ?_
                    exact ImpX.lessP (by exact ⟨rfl, rfl, rfl, rfl, True.intro⟩) (.nil) (ImpX.here ⟨!true, h, rfl⟩)
                · rw [if_neg hc] at h
                  refine ARun.guard_no rfl rfl rfl rfl ?_
                  refine ARun.guard_yes rfl rfl rfl ?_
                  refine ARun.qv (q_pick_f rfl rfl) rfl ?_
                  refine ARun.qv (q_pick_f rfl rfl) rfl ?_
                  refine ARun.qv (q_move rfl) rfl ?_
                  refine ARun.guard_yes rfl rfl rfl ?_
                  refine ARun.qv (q_move rfl) rfl ?_
                  refine ARun.guard_yes rfl rfl rfl ?_
                  refine ARun.qv (q_eql rfl rfl) rfl ?_
                  refine ARun.qv (q_pick_f rfl rfl) rfl ?_
                  refine ARun.qv (q_move rfl) rfl ?_
                  refine ARun.guard_df rfl rfl rfl (fun hc => ?_) (fun hc => ?_)
                  · rw [if_neg hc] at h
                    refine ARun.qv (q_move rfl) rfl ?_
                    refine ARun.guard_yes rfl rfl rfl ?_
                    refine ARun.qv (q_eql rfl rfl) rfl ?_
                    refine ARun.qv (q_pick_f rfl rfl) rfl ?_
                    refine ARun.qv (q_not_d rfl) rfl ?_
                    refine ARun.nil ?_
                    refine ATodo.stop ?_
                    exact ImpX.lessP (by exact ⟨rfl, rfl, rfl, rfl, True.intro⟩) (.nil) (ImpX.here ⟨decide (¬ ((c6.toNat : Int) = (95 : Int))), h, rfl⟩)
                  · rw [if_pos hc] at h
                    refine ARun.guard_no rfl rfl rfl rfl ?_
                    refine ARun.qv (q_pick_t rfl rfl) rfl ?_
                    refine ARun.qv (q_not rfl) rfl ?_
                    refine ARun.nil ?_
                    refine ATodo.stop ?_
                    exact ImpX.lessP (by exact ⟨rfl, rfl, rfl, rfl, True.intro⟩) (.nil) (ImpX.here ⟨!true, h, rfl⟩)
              · rw [if_pos hc] at h
                refine ARun.guard_no rfl rfl rfl rfl ?_
                refine ARun.guard_no rfl rfl rfl rfl ?_
                refine ARun.guard_und rfl rfl rfl ?_
                refine ARun.guard_und rfl rfl rfl ?_
                refine ARun.guard_no rfl rfl rfl rfl ?_
                refine ARun.qv (q_pick_t rfl rfl) rfl ?_
                refine ARun.qv (q_move rfl) rfl ?_
                refine ARun.guard_no rfl rfl rfl rfl ?_
                refine ARun.guard_no rfl rfl rfl rfl ?_
                refine ARun.qv (q_pick_t rfl rfl) rfl ?_
                refine ARun.qv (q_move rfl) rfl ?_
                refine ARun.guard_no rfl rfl rfl rfl ?_
                refine ARun.guard_no rfl rfl rfl rfl ?_
                refine ARun.qv (q_pick_t rfl rfl) rfl ?_
                refine ARun.qv (q_not rfl) rfl ?_
                refine ARun.nil ?_
                refine ATodo.stop ?_
                exact ImpX.lessP (by exact ⟨rfl, rfl, rfl, rfl, True.intro⟩) (.nil) (ImpX.here ⟨!true, h, rfl⟩)
            · rw [if_neg hc] at h
              refine ARun.guard_no rfl rfl rfl rfl ?_
              refine ARun.qv (q_pick_f rfl rfl) rfl ?_
              refine ARun.qv (q_move rfl) rfl ?_
              refine ARun.guard_yes rfl rfl rfl ?_
              refine ARun.qv (q_move rfl) rfl ?_
              refine ARun.guard_yes rfl rfl rfl ?_
              refine ARun.qv (q_geq rfl rfl) rfl ?_
              refine ARun.guard_yes rfl rfl rfl ?_
              refine ARun.qv (q_move rfl) rfl ?_
              refine ARun.guard_dt rfl rfl rfl (fun hc => ?_) (fun hc => ?_)
              · rw [if_pos hc] at h
                refine ARun.qv (q_move rfl) rfl ?_
                refine ARun.guard_yes rfl rfl rfl ?_
                refine ARun.qv (q_leq rfl rfl) rfl ?_
                refine ARun.guard_yes rfl rfl rfl ?_
                refine ARun.qv (q_pick_t rfl rfl) rfl ?_
                refine ARun.qv (q_pick_f rfl rfl) rfl ?_
                refine ARun.qv (q_move rfl) rfl ?_
                refine ARun.guard_df rfl rfl rfl (fun hc => ?_) (fun hc => ?_)
                · rw [if_neg hc] at h
                  refine ARun.qv (q_move rfl) rfl ?_
                  refine ARun.guard_yes rfl rfl rfl ?_
                  refine ARun.qv (q_eql rfl rfl) rfl ?_
                  refine ARun.qv (q_pick_f rfl rfl) rfl ?_
                  refine ARun.qv (q_move rfl) rfl ?_
                  refine ARun.guard_df rfl rfl rfl (fun hc => ?_) (fun hc => ?_)
                  · rw [if_neg hc] at h
                    refine ARun.qv (q_move rfl) rfl ?_
                    refine ARun.guard_yes rfl rfl rfl ?_
                    refine ARun.qv (q_eql rfl rfl) rfl ?_
                    refine ARun.qv (q_pick_f rfl rfl) rfl ?_
                    refine ARun.qv (q_not_d rfl) rfl ?_
                    refine ARun.nil ?_
                    refine ATodo.stop ?_
                    exact ImpX.lessP (by exact ⟨rfl, rfl, rfl, rfl, True.intro⟩) (.nil) (ImpX.here ⟨decide (¬ ((c6.toNat : Int) = (95 : Int))), h, rfl⟩)
                  · rw [if_pos hc] at h
                    refine ARun.guard_no rfl rfl rfl rfl ?_
                    refine ARun.qv (q_pick_t rfl rfl) rfl ?_
                    refine ARun.qv (q_not rfl) rfl ?_
                    refine ARun.nil ?_
                    refine ATodo.stop ?_
                    exact ImpX.lessP (by exact ⟨rfl, rfl, rfl, rfl, True.intro⟩) (.nil) (ImpX.here ⟨!true, h, rfl⟩)
                · rw [if_pos hc] at h
                  refine ARun.guard_no rfl rfl rfl rfl ?_
                  refine ARun.qv (q_pick_t rfl rfl) rfl ?_
                  refine ARun.qv (q_move rfl) rfl ?_
                  refine ARun.guard_no rfl rfl rfl rfl ?_
                  refine ARun.guard_no rfl rfl rfl rfl ?_
                  refine ARun.qv (q_pick_t rfl rfl) rfl ?_
                  refine ARun.qv (q_not rfl) rfl ?_
                  refine ARun.nil ?_
                  refine ATodo.stop ?_
                  exact ImpX.lessP (by exact ⟨rfl, rfl, rfl, rfl, True.intro⟩) (.nil) (ImpX.here ⟨!true, h, rfl⟩)
              · rw [if_neg hc] at h
                refine ARun.guard_no rfl rfl rfl rfl ?_
                refine ARun.guard_yes rfl rfl rfl ?_
                refine ARun.qv (q_pick_f rfl rfl) rfl ?_
                refine ARun.qv (q_pick_f rfl rfl) rfl ?_
                refine ARun.qv (q_move rfl) rfl ?_
                refine ARun.guard_yes rfl rfl rfl ?_
                refine ARun.qv (q_move rfl) rfl ?_
                refine ARun.guard_yes rfl rfl rfl ?_
                refine ARun.qv (q_eql rfl rfl) rfl ?_
                refine ARun.qv (q_pick_f rfl rfl) rfl ?_
                refine ARun.qv (q_move rfl) rfl ?_
                refine ARun.guard_df rfl rfl rfl (fun hc => ?_) (fun hc => ?_)
                · rw [if_neg hc] at h
                  refine ARun.qv (q_move rfl) rfl ?_
                  refine ARun.guard_yes rfl rfl rfl ?_
                  refine ARun.qv (q_eql rfl rfl) rfl ?_
                  refine ARun.qv (q_pick_f rfl rfl) rfl ?_
                  refine ARun.qv (q_not_d rfl) rfl ?_
                  refine ARun.nil ?_
                  refine ATodo.stop ?_
                  exact ImpX.lessP (by exact ⟨rfl, rfl, rfl, rfl, True.intro⟩) (.nil) (ImpX.here ⟨decide (¬ ((c6.toNat : Int) = (95 : Int))), h, rfl⟩)
                · rw [if_pos hc] at h
                  refine ARun.guard_no rfl rfl rfl rfl ?_
                  refine ARun.qv (q_pick_t rfl rfl) rfl ?_
                  refine ARun.qv (q_not rfl) rfl ?_
                  refine ARun.nil ?_
                  refine ATodo.stop ?_
                  exact ImpX.lessP (by exact ⟨rfl, rfl, rfl, rfl, True.intro⟩) (.nil) (ImpX.here ⟨!true, h, rfl⟩)
          · rintro σ' ⟨c7, h, rfl⟩
            unfold base_Key_j2 at h
            refine ATodo.cond rfl (fun hc => ?_) (fun hc => ?_)
            · replace h := iteT hc h
              refine ATodo.seq ?_
              refine ATodo.region ?_
              refine ARun.qv (q_assign rfl) rfl ?_
              refine ARun.nil ?_
              refine ATodo.ret ?_
              replace h := outL h hA1
              obtain rfl := Option.some.inj h
              exact ImpX.here ⟨_, .cons (.tmp _ _ rfl) .nil, rfl⟩
            · replace h := iteFb hc h
              refine ATodo.skip ?_
              refine ATodo.blk ?_
              refine ATodo.region ?_
              refine ARun.qv (q_addw rfl rfl) rfl ?_
              refine ARun.qv (q_move rfl) rfl ?_
              refine ARun.nil ?_
              refine ATodo.stop ?_
              obtain rfl := Option.some.inj h
              refine hJ1 _ _ rfl ?_
              exact ImpX.lessP (by exact ⟨rfl, rfl, rfl, True.intro⟩) (.nil) (ImpX.here rfl)
        · replace h := iteF hc h
          refine ATodo.exit rfl ?_
          replace h := outL h hA1
          refine ATodo.seq ?_
          refine ATodo.region ?_
          refine ARun.qv (q_assign rfl) rfl ?_
          refine ARun.nil ?_
          refine ATodo.ret ?_
          obtain rfl := Option.some.inj h
          exact ImpX.here ⟨_, .cons (.tmp _ _ rfl) .nil, rfl⟩

set_option maxHeartbeats 4000000 in
theorem base_Out_c {p0x0 : Int} {p1x0 : Int} {p2x0 : Int} {r : Bool} (h : base_Out p0x0 p1x0 p2x0 = r) : Pu Try.prog 109 [I p0x0, I p1x0, I p2x0] (.bool r) := by
  unfold base_Out at h
  refine ACall.bodyN Try.func109 rfl Try.ntmps109 Try.results109 rfl rfl ?_
  refine ATodo.seq ?_
  refine ATodo.region ?_
  refine ARun.qv (q_assign rfl) rfl ?_
  refine ARun.nil ?_
  refine ATodo.seq ?_
  refine ATodo.cut (fun σ' => ∃ (c1 : Bool), base_Out_j1 c1 = r ∧ σ' = ⟨15, [(6, .bool c1)], []⟩) ?_ ?_
  · refine ATodo.region ?_
    refine ARun.qv (q_move rfl) rfl ?_
    refine ARun.qv (q_move rfl) rfl ?_
    refine ARun.qv (q_lss rfl rfl) rfl ?_
    refine ARun.qv (q_move rfl) rfl ?_
    refine ARun.guard_df rfl rfl rfl (fun hc => ?_) (fun hc => ?_)
    · rw [orFd hc] at h
      refine ARun.qv (q_move rfl) rfl ?_
      refine ARun.guard_yes rfl rfl rfl ?_
      refine ARun.qv (q_move rfl) rfl ?_
      refine ARun.guard_yes rfl rfl rfl ?_
      refine ARun.qv (q_gtr rfl rfl) rfl ?_
      refine ARun.qv (q_pick_f rfl rfl) rfl ?_
      refine ARun.qv (q_assign rfl) rfl ?_
      refine ARun.nil ?_
      refine ATodo.stop ?_
      exact ImpX.lessP (by exact ⟨rfl, True.intro⟩) (.nil) (ImpX.here ⟨decide (p2x0 < p0x0), h, rfl⟩)
    · rw [orTd hc] at h
      refine ARun.guard_no rfl rfl rfl rfl ?_
      refine ARun.guard_no rfl rfl rfl rfl ?_
      refine ARun.qv (q_pick_t rfl rfl) rfl ?_
      refine ARun.qv (q_assign rfl) rfl ?_
      refine ARun.nil ?_
      refine ATodo.stop ?_
      exact ImpX.lessP (by exact ⟨rfl, True.intro⟩) (.nil) (ImpX.here ⟨true, h, rfl⟩)
  · rintro σ' ⟨c1, h, rfl⟩
    unfold base_Out_j1 at h
    refine ATodo.ret ?_
    obtain rfl := h
    exact ImpX.here ⟨_, .cons (.tmp _ _ rfl) .nil, rfl⟩

set_option maxHeartbeats 4000000 in
theorem base_Moment_c {p0x0 : Int} {r : Bool} (h : base_Moment p0x0 = r) : Pu Try.prog 127 [I p0x0] (.bool r) := by
  unfold base_Moment at h
  refine ACall.bodyN Try.func127 rfl Try.ntmps127 Try.results127 rfl rfl ?_
  refine ATodo.seq ?_
  refine ATodo.region ?_
  refine ARun.qv (q_assign rfl) rfl ?_
  refine ARun.nil ?_
  refine ATodo.seq ?_
  refine ATodo.region ?_
  refine ARun.qv (q_move rfl) rfl ?_
  refine r_callp rfl (base_Out_c rfl) (CoL.refl _) rfl ?_
  refine ARun.qv (q_not rfl) rfl ?_
  refine ARun.qv (q_assign rfl) rfl ?_
  refine ARun.nil ?_
  refine ATodo.ret ?_
  obtain rfl := h
  exact ImpX.here ⟨_, .cons (.tmp _ _ rfl) .nil, rfl⟩

set_option maxHeartbeats 4000000 in
theorem cmp_isNaN_int_c {p0x0 : Int} {r : Bool} (h : cmp_isNaN_int p0x0 = r) : Pu Try.prog 232 [I p0x0] (.bool r) := by
  unfold cmp_isNaN_int at h
  refine ACall.bodyN Try.func232 rfl Try.ntmps232 Try.results232 rfl rfl ?_
  refine ATodo.seq ?_
  refine ATodo.region ?_
  refine ARun.qv (q_assign rfl) rfl ?_
  refine ARun.nil ?_
  refine ATodo.seq ?_
  refine ATodo.region ?_
  refine ARun.qv (q_move rfl) rfl ?_
  refine ARun.qv (q_move rfl) rfl ?_
  refine ARun.qv (q_neq rfl rfl) rfl ?_
  refine ARun.qv (q_assign rfl) rfl ?_
  refine ARun.nil ?_
  refine ATodo.ret ?_
  obtain rfl := h
  exact ImpX.here ⟨_, .cons (.tmp _ _ rfl) .nil, rfl⟩

set_option maxHeartbeats 4000000 in
theorem cmp_Compare_int_c {p0x0 : Int} {p1x0 : Int} {r : Int} (h : cmp_Compare_int p0x0 p1x0 = r) : Pu Try.prog 197 [I p0x0, I p1x0] (I r) := by
  unfold cmp_Compare_int at h
  refine ACall.bodyN Try.func197 rfl Try.ntmps197 Try.results197 rfl rfl ?_
  refine ATodo.seq ?_
  refine ATodo.region ?_
  refine ARun.qv (q_assign rfl) rfl ?_
  refine ARun.nil ?_
  refine ATodo.seq ?_
  refine ATodo.region ?_
  refine ARun.qv (q_move rfl) rfl ?_
  refine r_callp rfl (cmp_isNaN_int_c rfl) (CoL.refl _) rfl ?_
  refine ARun.qv (q_assign rfl) rfl ?_
  refine ARun.nil ?_
  refine ATodo.seq ?_
  refine ATodo.region ?_
  refine ARun.qv (q_move rfl) rfl ?_
  refine r_callp rfl (cmp_isNaN_int_c rfl) (CoL.refl _) rfl ?_
  refine ARun.qv (q_assign rfl) rfl ?_
  refine ARun.nil ?_
  refine ATodo.seq ?_
  refine ATodo.seq ?_
  refine ATodo.region ?_
  refine ARun.qv (q_move rfl) rfl ?_
  refine ARun.nil ?_
  refine ATodo.cond rfl (fun hc => ?_) (fun hc => ?_)
  · replace h := iteT hc h
    refine ATodo.seq ?_
    refine ATodo.seq ?_
    refine ATodo.region ?_
    refine ARun.qv (q_move rfl) rfl ?_
    refine ARun.nil ?_
    refine ATodo.cond rfl (fun hc => ?_) (fun hc => ?_)
    · replace h := iteT hc h
      refine ATodo.seq ?_
      refine ATodo.region ?_
      refine ARun.qv (q_assign rfl) rfl ?_
      refine ARun.nil ?_
      refine ATodo.ret ?_
      obtain rfl := h
      exact ImpX.here ⟨_, .cons (.tmp _ _ rfl) .nil, rfl⟩
    · replace h := iteFb hc h
      refine ATodo.skip ?_
      refine ATodo.seq ?_
      refine ATodo.region ?_
      refine ARun.qv (q_assign rfl) rfl ?_
      refine ARun.nil ?_
      refine ATodo.ret ?_
      obtain rfl := h
      exact ImpX.here ⟨_, .cons (.tmp _ _ rfl) .nil, rfl⟩
  · replace h := iteFb hc h
    refine ATodo.skip ?_
    refine ATodo.seq ?_
    refine ATodo.seq ?_
    refine ATodo.region ?_
    refine ARun.qv (q_move rfl) rfl ?_
    refine ARun.nil ?_
    refine ATodo.cond rfl (fun hc => ?_) (fun hc => ?_)
    · replace h := iteT hc h
      refine ATodo.seq ?_
      refine ATodo.region ?_
      refine ARun.qv (q_assign rfl) rfl ?_
      refine ARun.nil ?_
      refine ATodo.ret ?_
      obtain rfl := h
      exact ImpX.here ⟨_, .cons (.tmp _ _ rfl) .nil, rfl⟩
    · replace h := iteFb hc h
      refine ATodo.skip ?_
      refine ATodo.seq ?_
      refine ATodo.seq ?_
      refine ATodo.region ?_
      refine ARun.qv (q_move rfl) rfl ?_
      refine ARun.qv (q_move rfl) rfl ?_
      refine ARun.qv (q_lss rfl rfl) rfl ?_
      refine ARun.nil ?_
      refine ATodo.cond_d rfl (fun hc => ?_) (fun hc => ?_)
      · replace h := iteT hc h
        refine ATodo.seq ?_
        refine ATodo.region ?_
        refine ARun.qv (q_assign rfl) rfl ?_
        refine ARun.nil ?_
        refine ATodo.ret ?_
        obtain rfl := h
        exact ImpX.here ⟨_, .cons (.tmp _ _ rfl) .nil, rfl⟩
      · replace h := iteF hc h
        refine ATodo.skip ?_
        refine ATodo.seq ?_
        refine ATodo.seq ?_
        refine ATodo.region ?_
        refine ARun.qv (q_move rfl) rfl ?_
        refine ARun.qv (q_move rfl) rfl ?_
        refine ARun.qv (q_gtr rfl rfl) rfl ?_
        refine ARun.nil ?_
        refine ATodo.cond_d rfl (fun hc => ?_) (fun hc => ?_)
        · replace h := iteT hc h
          refine ATodo.seq ?_
          refine ATodo.region ?_
          refine ARun.qv (q_assign rfl) rfl ?_
          refine ARun.nil ?_
          refine ATodo.ret ?_
          obtain rfl := h
          exact ImpX.here ⟨_, .cons (.tmp _ _ rfl) .nil, rfl⟩
        · replace h := iteF hc h
          refine ATodo.skip ?_
          refine ATodo.seq ?_
          refine ATodo.region ?_
          refine ARun.qv (q_assign rfl) rfl ?_
          refine ARun.nil ?_
          refine ATodo.ret ?_
          obtain rfl := h
          exact ImpX.here ⟨_, .cons (.tmp _ _ rfl) .nil, rfl⟩

set_option maxHeartbeats 4000000 in
theorem cmp_Or_int_c {p0x0 : List Int} {r : Int} (h : cmp_Or_int p0x0 = some r) : Pu Try.prog 196 [.list 1 (p0x0.map I)] (I r) := by
  unfold cmp_Or_int at h
  refine ACall.bodyN Try.func196 rfl Try.ntmps196 Try.results196 rfl rfl ?_
  refine ATodo.seq ?_
  refine ATodo.region ?_
  refine ARun.qv (q_assign rfl) rfl ?_
  refine ARun.nil ?_
  refine ATodo.seq ?_
  refine ATodo.region ?_
  refine ARun.qv (q_assign rfl) rfl ?_
  refine ARun.nil ?_
  refine ATodo.seq ?_
  refine ATodo.seq ?_
  refine ATodo.region ?_
  refine ARun.qv (q_move rfl) rfl ?_
  refine ARun.qv (t_len rfl) rfl ?_
  refine ARun.qv (q_move rfl) rfl ?_
  refine ARun.nil ?_
  refine ATodo.block ?_
  refine ATodo.loopI (fun x : Int => cmp_Or_int_b1 p0x0 x) (fun x σ' => σ' = ⟨18, [(3, I (0 : Int)), (6, .list 1 (p0x0.map I)), (7, I (p0x0.length : Int)), (8, I x)], []⟩) h ?_ ?_
  · exact ImpX.lessP (by exact ⟨rfl, rfl, rfl, rfl, True.intro⟩) (.nil) (ImpX.here rfl)
  · intro n2 z1 σ' J1 hmk h hJ1 hA1
    obtain rfl := hmk
    replace h : cmp_Or_int_b1 p0x0 n2 = some z1 := h
    unfold cmp_Or_int_b1 at h
    refine ATodo.seq ?_
    refine ATodo.region ?_
    refine ARun.qv (q_lss rfl rfl) rfl ?_
    refine ARun.nil ?_
    refine ATodo.seq ?_
    refine ATodo.cond_d rfl (fun hc => ?_) (fun hc => ?_)
    · replace h := iteT hc h
      refine ATodo.skip ?_
      refine ATodo.seq ?_
      refine ATodo.block ?_
      refine ATodo.seq ?_
      refine ATodo.region ?_
      obtain ⟨v3, e1, h⟩ := bnd h
      refine ARun.qv (t_index rfl rfl rfl e1 rfl rfl) rfl ?_
      refine ARun.qv (q_load_rptr rfl rfl rfl) rfl ?_
      refine ARun.qv (q_assign rfl) rfl ?_
      refine ARun.nil ?_
      refine ATodo.seq ?_
      refine ATodo.region ?_
      refine ARun.qv (q_move rfl) rfl ?_
      refine ARun.qv (q_move rfl) rfl ?_
      refine ARun.qv (q_neq rfl rfl) rfl ?_
      refine ARun.nil ?_
      refine ATodo.cond_d rfl (fun hc => ?_) (fun hc => ?_)
      · replace h := iteT hc h
        refine ATodo.seq ?_
        refine ATodo.region ?_
        refine ARun.qv (q_move rfl) rfl ?_
        refine ARun.qv (q_assign rfl) rfl ?_
        refine ARun.nil ?_
        refine ATodo.ret ?_
        replace h := outL h hA1
        obtain rfl := Option.some.inj h
        exact ImpX.here ⟨_, .cons (.tmp _ _ rfl) .nil, rfl⟩
      · replace h := iteF hc h
        refine ATodo.skip ?_
        refine ATodo.blk ?_
        refine ATodo.region ?_
        refine ARun.qv (q_addw rfl rfl) rfl ?_
        refine ARun.qv (q_move rfl) rfl ?_
        refine ARun.nil ?_
        refine ATodo.stop ?_
        obtain rfl := Option.some.inj h
        refine hJ1 _ _ rfl ?_
        exact ImpX.lessP (by exact ⟨rfl, rfl, rfl, rfl, True.intro⟩) (.nil) (ImpX.here rfl)
    · replace h := iteF hc h
      refine ATodo.exit rfl ?_
      replace h := outL h hA1
      refine ATodo.seq ?_
      refine ATodo.region ?_
      refine ARun.qv (q_move rfl) rfl ?_
      refine ARun.qv (q_assign rfl) rfl ?_
      refine ARun.nil ?_
      refine ATodo.ret ?_
      obtain rfl := Option.some.inj h
      exact ImpX.here ⟨_, .cons (.tmp _ _ rfl) .nil, rfl⟩

set_option maxHeartbeats 4000000 in
theorem series_byDevice_c {p0x0 : Sample} {p1x0 : Sample} {r : Int} (h : series_byDevice p0x0 p1x0 = some r) : Pu Try.prog 175 [.agg [.str p0x0.Device, .str p0x0.Metric, I p0x0.At, I p0x0.Value], .agg [.str p1x0.Device, .str p1x0.Metric, I p1x0.At, I p1x0.Value]] (I r) := by
  unfold series_byDevice at h
  refine ACall.bodyN Try.func175 rfl Try.ntmps175 Try.results175 rfl rfl ?_
  refine ATodo.seq ?_
  refine ATodo.region ?_
  refine n_box rfl rfl rfl rfl (fun b1 => ?_)
  refine n_box rfl rfl rfl rfl (fun b2 => ?_)
  refine ARun.qv (q_assign rfl) rfl ?_
  refine ARun.nil ?_
  refine ATodo.seq ?_
  refine ATodo.regionM (id := 1) (A := [0, 1, 0, 4, 15, 0, 32, 0, 128, 511, 0, 1024, 0, 4096, 16383, 32767, 65535, 131071]) 18 mixed rfl (by kernel_rfl) (by kernel_rfl) ?_
  refine AM.qv (n_field_ptr rfl rfl) rfl ?_
  refine AM.qv (q_load_ptr rfl rfl (.next .here) rfl) rfl ?_
  refine AM.qv (n_field_ptr rfl rfl) rfl ?_
  refine AM.qv (q_load_ptr rfl rfl .here rfl) rfl ?_
  refine AM.callp rfl (strings_Compare_c rfl) (CoL.refl _) rfl ?_
  refine AM.qv (n_field_ptr rfl rfl) rfl ?_
  refine AM.qv (q_load_ptr rfl rfl (.next .here) rfl) rfl ?_
  refine AM.qv (n_field_ptr rfl rfl) rfl ?_
  refine AM.qv (q_load_ptr rfl rfl .here rfl) rfl ?_
  refine AM.callp rfl (strings_Compare_c rfl) (CoL.refl _) rfl ?_
  refine AM.qv (n_field_ptr rfl rfl) rfl ?_
  refine AM.qv (q_load_ptr rfl rfl (.next .here) rfl) rfl ?_
  refine AM.qv (n_field_ptr rfl rfl) rfl ?_
  refine AM.qv (q_load_ptr rfl rfl .here rfl) rfl ?_
  refine AM.callp rfl (cmp_Compare_int_c rfl) (CoL.refl _) rfl ?_
  refine AM.buildSliceL (xs := ([(Lib.compareBytes p0x0.Device p1x0.Device), (Lib.compareBytes p0x0.Metric p1x0.Metric), (cmp_Compare_int p0x0.At p1x0.At)] : List Int).map I) rfl rfl rfl rfl rfl rfl ?_
  obtain ⟨v3, e1, h⟩ := bnd h
  refine AM.callp rfl (cmp_Or_int_c e1) (CoL.refl _) rfl ?_
  refine AM.qv (q_assign rfl) rfl ?_
  refine AM.nil ?_
  refine ARun.nil ?_
  refine ATodo.ret ?_
  obtain rfl := Option.some.inj h
  exact ImpX.here ⟨_, .cons (.tmp _ _ rfl) .nil, rfl⟩

set_option maxHeartbeats 4000000 in
theorem series_Check_c {p0x0 : List Sample} {r : Int} (h : series_Check p0x0 = some r) : Pu Try.prog 85 [.list 4 (p0x0.map Sample.av)] (I r) := by
  unfold series_Check at h
  refine ACall.bodyN Try.func85 rfl Try.ntmps85 Try.results85 rfl rfl ?_
  refine ATodo.seq ?_
  refine ATodo.region ?_
  refine ARun.qv (q_assign rfl) rfl ?_
  refine ARun.nil ?_
  refine ATodo.seq ?_
  refine ATodo.seq ?_
  refine ATodo.region ?_
  refine ARun.qv (q_move rfl) rfl ?_
  refine ARun.qv (t_len rfl) rfl ?_
  refine ARun.qv (q_gtr rfl rfl) rfl ?_
  refine ARun.nil ?_
  refine ATodo.cond_d rfl (fun hc => ?_) (fun hc => ?_)
  · replace h := iteT hc h
    refine ATodo.seq ?_
    refine ATodo.region ?_
    refine ARun.qv (q_assign rfl) rfl ?_
    refine ARun.nil ?_
    refine ATodo.ret ?_
    obtain rfl := Option.some.inj h
    exact ImpX.here ⟨_, .cons (.tmp _ _ rfl) .nil, rfl⟩
  · replace h := iteF hc h
    refine ATodo.skip ?_
    refine ATodo.seq ?_
    refine ATodo.seq ?_
    refine ATodo.region ?_
    refine ARun.qv (q_move rfl) rfl ?_
    refine ARun.qv (t_len rfl) rfl ?_
    refine ARun.qv (q_move rfl) rfl ?_
    refine ARun.nil ?_
    refine ATodo.block ?_
    refine ATodo.loopI (fun x : Int => series_Check_b1 p0x0 x) (fun x σ' => σ' = ⟨50, [(0, .list 4 (p0x0.map Sample.av)), (8, .list 4 (p0x0.map Sample.av)), (9, I (p0x0.length : Int)), (10, I x)], []⟩) h ?_ ?_
    · exact ImpX.lessP (by exact ⟨rfl, rfl, rfl, rfl, True.intro⟩) (.nil) (ImpX.here rfl)
    · intro n2 z1 σ' J1 hmk h hJ1 hA1
      obtain rfl := hmk
      replace h : series_Check_b1 p0x0 n2 = some z1 := h
      unfold series_Check_b1 at h
      refine ATodo.seq ?_
      refine ATodo.region ?_
      refine ARun.qv (q_lss rfl rfl) rfl ?_
      refine ARun.nil ?_
      refine ATodo.seq ?_
      refine ATodo.cond_d rfl (fun hc => ?_) (fun hc => ?_)
      · replace h := iteT hc h
        refine ATodo.skip ?_
        refine ATodo.seq ?_
        refine ATodo.block ?_
        refine ATodo.seq ?_
        refine ATodo.region ?_
        refine ARun.qv (q_move rfl) rfl ?_
        obtain ⟨v3, e1, h⟩ := bnd h
        refine ARun.qv (t_index rfl rfl rfl e1 rfl rfl) rfl ?_
        refine ARun.qv (q_load_rptr_agg rfl rfl rfl) rfl ?_
        refine n_alloc rfl rfl rfl rfl (fun b4 => ?_)
        refine ARun.qv (q_assign rfl) rfl ?_
        refine n_store_ptr rfl rfl rfl rfl .here rfl rfl ?_
        refine ARun.nil ?_
        refine ATodo.block ?_
        refine ATodo.seq ?_
        refine ATodo.cut (fun σ' => ∃ (c5 : Bool), series_Check_j1 p0x0 n2 v3 c5 = some z1 ∧ σ' = ⟨50, [(0, .list 4 (p0x0.map Sample.av)), (3, I n2), (4, .ptr b4 0), (8, .list 4 (p0x0.map Sample.av)), (9, I (p0x0.length : Int)), (10, I n2), (15, .bool c5)], [(b4, .cells [.str v3.Device, .str v3.Metric, I v3.At, I v3.Value])]⟩) ?_ ?_
        · refine ATodo.region ?_
          refine ARun.qv (n_field_ptr rfl rfl) rfl ?_
          refine ARun.qv (q_load_ptr rfl rfl .here rfl) rfl ?_
          obtain ⟨v6, e2, h⟩ := bnd h
          refine r_callp rfl (base_Key_c e2) (CoL.refl _) rfl ?_
          refine ARun.qv (q_not rfl) rfl ?_
          refine ARun.qv (q_move rfl) rfl ?_
          refine ARun.guard rfl rfl rfl (fun hc => ?_) (fun hc => ?_)
          · replace h := iteFb hc h
            refine ARun.qv (n_field_ptr rfl rfl) rfl ?_
            refine ARun.guard_yes rfl rfl rfl ?_
            refine ARun.qv (q_load_ptr rfl rfl .here rfl) rfl ?_
            refine ARun.guard_yes rfl rfl rfl ?_
            obtain ⟨v7, e3, h⟩ := bnd h
            refine r_callp rfl (base_Key_c e3) (CoL.refl _) rfl ?_
            refine ARun.guard_yes rfl rfl rfl ?_
            refine ARun.qv (q_not rfl) rfl ?_
            refine ARun.qv (q_pick_f rfl rfl) rfl ?_
            refine ARun.qv (q_assign rfl) rfl ?_
            refine ARun.nil ?_
            refine ATodo.stop ?_
            exact ImpX.lessP (by exact ⟨rfl, rfl, rfl, rfl, rfl, rfl, rfl, True.intro⟩) (.cons .here .nil) (ImpX.here ⟨!v7, h, rfl⟩)
          · replace h := iteT hc h
            refine ARun.guard_no rfl rfl rfl rfl ?_
            refine ARun.guard_no rfl rfl rfl rfl ?_
            refine ARun.guard_no rfl rfl rfl rfl ?_
            refine ARun.qv (q_pick_t rfl rfl) rfl ?_
            refine ARun.qv (q_assign rfl) rfl ?_
            refine ARun.nil ?_
            refine ATodo.stop ?_
            exact ImpX.lessP (by exact ⟨rfl, rfl, rfl, rfl, rfl, rfl, rfl, True.intro⟩) (.cons .here .nil) (ImpX.here ⟨true, h, rfl⟩)
        · rintro σ' ⟨c5, h, rfl⟩
          unfold series_Check_j1 at h
          refine ATodo.cond rfl (fun hc => ?_) (fun hc => ?_)
          · replace h := iteT hc h
            refine ATodo.seq ?_
            refine ATodo.region ?_
            refine ARun.qv (q_assign rfl) rfl ?_
            refine ARun.nil ?_
            refine ATodo.ret ?_
            replace h := outL h hA1
            obtain rfl := Option.some.inj h
            exact ImpX.here ⟨_, .cons (.tmp _ _ rfl) .nil, rfl⟩
          · replace h := iteFb hc h
            refine ATodo.seq ?_
            refine ATodo.cut (fun σ' => ∃ (c8 : Bool), series_Check_j2 p0x0 n2 v3 c8 = some z1 ∧ σ' = ⟨50, [(0, .list 4 (p0x0.map Sample.av)), (3, I n2), (4, .ptr b4 0), (8, .list 4 (p0x0.map Sample.av)), (9, I (p0x0.length : Int)), (10, I n2), (26, .bool c8)], [(b4, .cells [.str v3.Device, .str v3.Metric, I v3.At, I v3.Value])]⟩) ?_ ?_
            · refine ATodo.region ?_
              refine ARun.qv (n_field_ptr rfl rfl) rfl ?_
              refine ARun.qv (q_load_ptr rfl rfl .here rfl) rfl ?_
              refine r_callp rfl (base_Moment_c rfl) (CoL.refl _) rfl ?_
              refine ARun.qv (q_not rfl) rfl ?_
              refine ARun.qv (q_move rfl) rfl ?_
              refine ARun.guard rfl rfl rfl (fun hc => ?_) (fun hc => ?_)
              · rw [orFb hc] at h
                refine ARun.qv (n_field_ptr rfl rfl) rfl ?_
                refine ARun.guard_yes rfl rfl rfl ?_
                refine ARun.qv (q_load_ptr rfl rfl .here rfl) rfl ?_
                refine ARun.guard_yes rfl rfl rfl ?_
                refine r_callp rfl (base_Out_c rfl) (CoL.refl _) rfl ?_
                refine ARun.qv (q_pick_f rfl rfl) rfl ?_
                refine ARun.qv (q_assign rfl) rfl ?_
                refine ARun.nil ?_
                refine ATodo.stop ?_
                exact ImpX.lessP (by exact ⟨rfl, rfl, rfl, rfl, rfl, rfl, rfl, True.intro⟩) (.cons .here .nil) (ImpX.here ⟨(base_Out v3.Value (-1000000000 : Int) (1000000000 : Int)), h, rfl⟩)
              · rw [orTb hc] at h
                refine ARun.guard_no rfl rfl rfl rfl ?_
                refine ARun.guard_no rfl rfl rfl rfl ?_
                refine ARun.qv (q_pick_t rfl rfl) rfl ?_
                refine ARun.qv (q_assign rfl) rfl ?_
                refine ARun.nil ?_
                refine ATodo.stop ?_
                exact ImpX.lessP (by exact ⟨rfl, rfl, rfl, rfl, rfl, rfl, rfl, True.intro⟩) (.cons .here .nil) (ImpX.here ⟨true, h, rfl⟩)
            · rintro σ' ⟨c8, h, rfl⟩
              unfold series_Check_j2 at h
              refine ATodo.cond rfl (fun hc => ?_) (fun hc => ?_)
              · replace h := iteT hc h
                refine ATodo.seq ?_
                refine ATodo.region ?_
                refine ARun.qv (q_assign rfl) rfl ?_
                refine ARun.nil ?_
                refine ATodo.ret ?_
                replace h := outL h hA1
                obtain rfl := Option.some.inj h
                exact ImpX.here ⟨_, .cons (.tmp _ _ rfl) .nil, rfl⟩
              · replace h := iteFb hc h
                refine ATodo.seq ?_
                refine ATodo.cut (fun σ' => ∃ (c9 : Bool), series_Check_j3 n2 c9 = some z1 ∧ σ' = ⟨50, [(0, .list 4 (p0x0.map Sample.av)), (8, .list 4 (p0x0.map Sample.av)), (9, I (p0x0.length : Int)), (10, I n2), (36, .bool c9)], []⟩) ?_ ?_
                · refine ATodo.regionM (id := 10) (A := [0, 1, 3, 7, 7, 7, 39, 119, 247, 511, 1023, 2047, 4095]) 13 mixed rfl (by kernel_rfl) (by kernel_rfl) ?_
                  refine AM.qv (q_move rfl) rfl ?_
                  refine AM.qv (q_gtr rfl rfl) rfl ?_
                  refine AM.qv (q_move rfl) rfl ?_
                  refine AM.guard_dt rfl rfl rfl (fun hc => ?_) (fun hc => ?_)
                  · replace h := iteT hc h
                    refine AM.qv (q_load_ptr_all rfl rfl .here rfl) rfl ?_
                    refine AM.guard_yes rfl rfl rfl ?_
                    refine AM.qv (q_move rfl) rfl ?_
                    refine AM.guard_yes rfl rfl rfl ?_
                    refine AM.qv (q_move rfl) rfl ?_
                    refine AM.guard_yes rfl rfl rfl ?_
                    refine AM.qv (q_subw rfl rfl) rfl ?_
                    refine AM.guard_yes rfl rfl rfl ?_
                    obtain ⟨v10, e4, h⟩ := bnd h
                    refine AM.qv (t_index rfl rfl rfl e4 rfl rfl) rfl ?_
                    refine AM.guard_yes rfl rfl rfl ?_
                    refine AM.qv (q_load_rptr_agg rfl rfl rfl) rfl ?_
                    refine AM.guard_yes rfl rfl rfl ?_
                    obtain ⟨v11, e5, h⟩ := bnd h
                    refine AM.callp rfl (series_byDevice_c e5) (CoL.refl _) rfl ?_
                    refine AM.guard_yes rfl rfl rfl ?_
                    refine AM.qv (q_leq rfl rfl) rfl ?_
                    refine AM.qv (q_pick_t rfl rfl) rfl ?_
                    refine AM.qv (q_assign rfl) rfl ?_
                    refine AM.nil ?_
                    refine ARun.nil ?_
                    refine ATodo.stop ?_
                    exact ImpX.lessP (by exact ⟨rfl, rfl, rfl, rfl, rfl, True.intro⟩) (.nil) (ImpX.here ⟨decide (v11 ≤ (0 : Int)), h, rfl⟩)
                  · replace h := iteF hc h
                    refine AM.guard_no rfl rfl rfl rfl ?_
                    refine AM.guard_no rfl rfl rfl rfl ?_
                    refine AM.guard_no rfl rfl rfl rfl ?_
                    refine AM.guard_no rfl rfl rfl rfl ?_
                    refine AM.guard_no rfl rfl rfl rfl ?_
                    refine AM.guard_no rfl rfl rfl rfl ?_
                    refine AM.guard_no rfl rfl rfl rfl ?_
                    refine AM.qv (q_pick_f rfl rfl) rfl ?_
                    refine AM.qv (q_assign rfl) rfl ?_
                    refine AM.nil ?_
                    refine ARun.nil ?_
                    refine ATodo.stop ?_
                    exact ImpX.lessP (by exact ⟨rfl, rfl, rfl, rfl, rfl, True.intro⟩) (.nil) (ImpX.here ⟨false, h, rfl⟩)
                · rintro σ' ⟨c9, h, rfl⟩
                  unfold series_Check_j3 at h
                  refine ATodo.cond rfl (fun hc => ?_) (fun hc => ?_)
                  · replace h := iteT hc h
                    refine ATodo.seq ?_
                    refine ATodo.region ?_
                    refine ARun.qv (q_assign rfl) rfl ?_
                    refine ARun.nil ?_
                    refine ATodo.ret ?_
                    replace h := outL h hA1
                    obtain rfl := Option.some.inj h
                    exact ImpX.here ⟨_, .cons (.tmp _ _ rfl) .nil, rfl⟩
                  · replace h := iteFb hc h
                    refine ATodo.skip ?_
                    refine ATodo.blk ?_
                    refine ATodo.blk ?_
                    refine ATodo.region ?_
                    refine ARun.qv (q_addw rfl rfl) rfl ?_
                    refine ARun.qv (q_move rfl) rfl ?_
                    refine ARun.nil ?_
                    refine ATodo.stop ?_
                    obtain rfl := Option.some.inj h
                    refine hJ1 _ _ rfl ?_
                    exact ImpX.lessP (by exact ⟨rfl, rfl, rfl, rfl, True.intro⟩) (.nil) (ImpX.here rfl)
      · replace h := iteF hc h
        refine ATodo.exit rfl ?_
        replace h := outL h hA1
        refine ATodo.seq ?_
        refine ATodo.region ?_
        refine ARun.qv (q_assign rfl) rfl ?_
        refine ARun.nil ?_
        refine ATodo.ret ?_
        obtain rfl := Option.some.inj h
        exact ImpX.here ⟨_, .cons (.tmp _ _ rfl) .nil, rfl⟩

set_option maxHeartbeats 4000000 in
theorem series_CheckSeries_1x_c {p0x0 : Sample} {p1x0 : List Sample} {r : Bool} (h : series_CheckSeries_1x p0x0 p1x0 = some r) : Pu Try.prog 179 [.agg [.str p0x0.Device, .str p0x0.Metric, I p0x0.At, I p0x0.Value], .rptr [.list 4 (p1x0.map Sample.av)]] (.bool r) := by
  unfold series_CheckSeries_1x at h
  refine ACall.bodyN Try.func179 rfl Try.ntmps179 Try.results179 rfl rfl ?_
  refine ATodo.seq ?_
  refine ATodo.region ?_
  refine n_box rfl rfl rfl rfl (fun b1 => ?_)
  refine ARun.qv (q_assign rfl) rfl ?_
  refine ARun.nil ?_
  refine ATodo.seq ?_
  refine ATodo.cut (fun σ' => ∃ (c2 : Bool), series_CheckSeries_1x_j1 c2 = some r ∧ σ' = ⟨20, [(3, .bool c2)], []⟩) ?_ ?_
  · refine ATodo.regionM (id := 1) (A := [0, 1, 0, 4, 12, 28, 63, 127, 255, 511, 255, 1279, 3327, 7423, 16383, 32767, 65535]) 17 mixed rfl (by kernel_rfl) (by kernel_rfl) ?_
    refine AM.qv (n_field_ptr rfl rfl) rfl ?_
    refine AM.qv (q_load_ptr rfl rfl .here rfl) rfl ?_
    refine AM.qv (q_load_rptr rfl rfl rfl) rfl ?_
    obtain ⟨v3, e1, h⟩ := bnd h
    refine AM.qv (t_index rfl rfl rfl e1 rfl rfl) rfl ?_
    refine AM.qv (n_field_rptr rfl rfl) rfl ?_
    refine AM.qv (q_load_rptr rfl rfl rfl) rfl ?_
    refine AM.qv (q_sne rfl rfl) rfl ?_
    refine AM.qv (q_move rfl) rfl ?_
    refine AM.guard_df rfl rfl rfl (fun hc => ?_) (fun hc => ?_)
    · replace h := iteF hc h
      refine AM.qv (n_field_ptr rfl rfl) rfl ?_
      refine AM.guard_yes rfl rfl rfl ?_
      refine AM.qv (q_load_ptr rfl rfl .here rfl) rfl ?_
      refine AM.guard_yes rfl rfl rfl ?_
      refine AM.qv (q_load_rptr rfl rfl rfl) rfl ?_
      refine AM.guard_yes rfl rfl rfl ?_
      obtain ⟨v4, e2, h⟩ := bnd h
      refine AM.qv (t_index rfl rfl rfl e2 rfl rfl) rfl ?_
      refine AM.guard_yes rfl rfl rfl ?_
      refine AM.qv (n_field_rptr rfl rfl) rfl ?_
      refine AM.guard_yes rfl rfl rfl ?_
      refine AM.qv (q_load_rptr rfl rfl rfl) rfl ?_
      refine AM.guard_yes rfl rfl rfl ?_
      refine AM.qv (q_sne rfl rfl) rfl ?_
      refine AM.qv (q_pick_f rfl rfl) rfl ?_
      refine AM.qv (q_assign rfl) rfl ?_
      refine AM.nil ?_
      refine ARun.nil ?_
      refine ATodo.stop ?_
      exact ImpX.lessP (by exact ⟨rfl, True.intro⟩) (.nil) (ImpX.here ⟨decide (p0x0.Metric ≠ v4.Metric), h, rfl⟩)
    · replace h := iteT hc h
      refine AM.guard_no rfl rfl rfl rfl ?_
      refine AM.guard_no rfl rfl rfl rfl ?_
      refine AM.guard_no rfl rfl rfl rfl ?_
      refine AM.guard_no rfl rfl rfl rfl ?_
      refine AM.guard_no rfl rfl rfl rfl ?_
      refine AM.guard_no rfl rfl rfl rfl ?_
      refine AM.qv (q_pick_t rfl rfl) rfl ?_
      refine AM.qv (q_assign rfl) rfl ?_
      refine AM.nil ?_
      refine ARun.nil ?_
      refine ATodo.stop ?_
      exact ImpX.lessP (by exact ⟨rfl, True.intro⟩) (.nil) (ImpX.here ⟨true, h, rfl⟩)
  · rintro σ' ⟨c2, h, rfl⟩
    unfold series_CheckSeries_1x_j1 at h
    refine ATodo.ret ?_
    obtain rfl := Option.some.inj h
    exact ImpX.here ⟨_, .cons (.tmp _ _ rfl) .nil, rfl⟩

set_option maxHeartbeats 4000000 in
theorem slices_IndexFunc_Sample_Sample_c {p0x0 : List Sample} {fnb : Sample → Option Bool} {fnb_F : FuncId} [IsFn Try.prog fnb_F] {fnb_C : List AV} (fnb_h : ∀ {y0 : _} {u : Bool}, fnb y0 = some u → Pu Try.prog fnb_F (.agg [.str y0.Device, .str y0.Metric, I y0.At, I y0.Value] ::  fnb_C) (.bool u)) {r : Int} (h : slices_IndexFunc_Sample_Sample p0x0 fnb = some r) : Pu Try.prog 205 [.list 4 (p0x0.map Sample.av), .func (.func fnb_F) fnb_C] (I r) := by
  unfold slices_IndexFunc_Sample_Sample at h
  refine ACall.bodyN Try.func205 rfl Try.ntmps205 Try.results205 rfl rfl ?_
  refine ATodo.seq ?_
  refine ATodo.region ?_
  refine ARun.qv (q_assign rfl) rfl ?_
  refine ARun.nil ?_
  refine ATodo.seq ?_
  refine ATodo.seq ?_
  refine ATodo.region ?_
  refine ARun.qv (q_move rfl) rfl ?_
  refine ARun.qv (t_len rfl) rfl ?_
  refine ARun.qv (q_move rfl) rfl ?_
  refine ARun.nil ?_
  refine ATodo.block ?_
  refine ATodo.loopI (fun x : Int => slices_IndexFunc_Sample_Sample_b1 p0x0 fnb x) (fun x σ' => σ' = ⟨19, [(0, .list 4 (p0x0.map Sample.av)), (1, .func (.func fnb_F) fnb_C), (7, I (p0x0.length : Int)), (8, I x)], []⟩) h ?_ ?_
  · exact ImpX.lessP (by exact ⟨rfl, rfl, rfl, rfl, True.intro⟩) (.nil) (ImpX.here rfl)
  · intro n2 z1 σ' J1 hmk h hJ1 hA1
    obtain rfl := hmk
    replace h : slices_IndexFunc_Sample_Sample_b1 p0x0 fnb n2 = some z1 := h
    unfold slices_IndexFunc_Sample_Sample_b1 at h
    refine ATodo.seq ?_
    refine ATodo.region ?_
    refine ARun.qv (q_lss rfl rfl) rfl ?_
    refine ARun.nil ?_
    refine ATodo.seq ?_
    refine ATodo.cond_d rfl (fun hc => ?_) (fun hc => ?_)
    · replace h := iteT hc h
      refine ATodo.skip ?_
      refine ATodo.seq ?_
      refine ATodo.block ?_
      refine ATodo.seq ?_
      refine ATodo.region ?_
      refine ARun.qv (q_move rfl) rfl ?_
      refine ARun.qv (q_assign rfl) rfl ?_
      refine ARun.nil ?_
      refine ATodo.seq ?_
      refine ATodo.region ?_
      refine ARun.qv (q_move rfl) rfl ?_
      refine ARun.qv (q_move rfl) rfl ?_
      refine ARun.qv (q_move rfl) rfl ?_
      obtain ⟨v3, e1, h⟩ := bnd h
      refine ARun.qv (t_index rfl rfl rfl e1 rfl rfl) rfl ?_
      refine ARun.qv (q_load_rptr_agg rfl rfl rfl) rfl ?_
      obtain ⟨v4, e2, h⟩ := bnd h
      refine r_callvp rfl rfl (fnb_h e2) (CoL.refl _) rfl ?_
      refine ARun.nil ?_
      refine ATodo.cond rfl (fun hc => ?_) (fun hc => ?_)
      · replace h := iteT hc h
        refine ATodo.seq ?_
        refine ATodo.region ?_
        refine ARun.qv (q_move rfl) rfl ?_
        refine ARun.qv (q_assign rfl) rfl ?_
        refine ARun.nil ?_
        refine ATodo.ret ?_
        replace h := outL h hA1
        obtain rfl := Option.some.inj h
        exact ImpX.here ⟨_, .cons (.tmp _ _ rfl) .nil, rfl⟩
      · replace h := iteFb hc h
        refine ATodo.skip ?_
        refine ATodo.blk ?_
        refine ATodo.region ?_
        refine ARun.qv (q_addw rfl rfl) rfl ?_
        refine ARun.qv (q_move rfl) rfl ?_
        refine ARun.nil ?_
        refine ATodo.stop ?_
        obtain rfl := Option.some.inj h
        refine hJ1 _ _ rfl ?_
        exact ImpX.lessP (by exact ⟨rfl, rfl, rfl, rfl, True.intro⟩) (.nil) (ImpX.here rfl)
    · replace h := iteF hc h
      refine ATodo.exit rfl ?_
      replace h := outL h hA1
      refine ATodo.seq ?_
      refine ATodo.region ?_
      refine ARun.qv (q_assign rfl) rfl ?_
      refine ARun.nil ?_
      refine ATodo.ret ?_
      obtain rfl := Option.some.inj h
      exact ImpX.here ⟨_, .cons (.tmp _ _ rfl) .nil, rfl⟩

set_option maxHeartbeats 4000000 in
theorem slices_ContainsFunc_Sample_Sample_c {p0x0 : List Sample} {fnb : Sample → Option Bool} {fnb_F : FuncId} [IsFn Try.prog fnb_F] {fnb_C : List AV} (fnb_h : ∀ {y0 : _} {u : Bool}, fnb y0 = some u → Pu Try.prog fnb_F (.agg [.str y0.Device, .str y0.Metric, I y0.At, I y0.Value] ::  fnb_C) (.bool u)) {r : Bool} (h : slices_ContainsFunc_Sample_Sample p0x0 fnb = some r) : Pu Try.prog 140 [.list 4 (p0x0.map Sample.av), .func (.func fnb_F) fnb_C] (.bool r) := by
  unfold slices_ContainsFunc_Sample_Sample at h
  refine ACall.bodyN Try.func140 rfl Try.ntmps140 Try.results140 rfl rfl ?_
  refine ATodo.seq ?_
  refine ATodo.region ?_
  refine ARun.qv (q_assign rfl) rfl ?_
  refine ARun.nil ?_
  refine ATodo.seq ?_
  refine ATodo.region ?_
  refine ARun.qv (q_move rfl) rfl ?_
  refine ARun.qv (q_move rfl) rfl ?_
  obtain ⟨v1, e1, h⟩ := bnd h
  refine r_callpB rfl (slices_IndexFunc_Sample_Sample_c fnb_h e1) (.cons (.co (.refl _)) (.cons (.co (.refl _)) .nil)) rfl rfl ?_
  refine ARun.qv (q_geq rfl rfl) rfl ?_
  refine ARun.qv (q_assign rfl) rfl ?_
  refine ARun.nil ?_
  refine ATodo.ret ?_
  obtain rfl := Option.some.inj h
  exact ImpX.here ⟨_, .cons (.tmp _ _ rfl) .nil, rfl⟩

set_option maxHeartbeats 4000000 in
theorem series_CheckSeries_c {p0x0 : List Sample} {r : Int} (h : series_CheckSeries p0x0 = some r) : Pu Try.prog 86 [.list 4 (p0x0.map Sample.av)] (I r) := by
  unfold series_CheckSeries at h
  refine ACall.bodyN Try.func86 rfl Try.ntmps86 Try.results86 rfl rfl ?_
  refine ATodo.seq ?_
  refine ATodo.region ?_
  refine n_box rfl rfl rfl rfl (fun b1 => ?_)
  refine ARun.qv (q_assign rfl) rfl ?_
  refine ARun.nil ?_
  refine ATodo.seq ?_
  refine ATodo.seq ?_
  refine ATodo.region ?_
  refine ARun.qv (q_load_ptr rfl rfl .here rfl) rfl ?_
  obtain ⟨v2, e1, h⟩ := bnd h
  refine r_callp rfl (series_Check_c e1) (CoL.refl _) rfl ?_
  refine ARun.qv (q_assign rfl) rfl ?_
  refine ARun.nil ?_
  refine ATodo.seq ?_
  refine ATodo.region ?_
  refine ARun.qv (q_move rfl) rfl ?_
  refine ARun.qv (q_neq rfl rfl) rfl ?_
  refine ARun.nil ?_
  refine ATodo.cond_d rfl (fun hc => ?_) (fun hc => ?_)
  · replace h := iteT hc h
    refine ATodo.seq ?_
    refine ATodo.region ?_
    refine ARun.qv (q_move rfl) rfl ?_
    refine ARun.qv (q_assign rfl) rfl ?_
    refine ARun.nil ?_
    refine ATodo.ret ?_
    obtain rfl := Option.some.inj h
    exact ImpX.here ⟨_, .cons (.tmp _ _ rfl) .nil, rfl⟩
  · replace h := iteF hc h
    refine ATodo.skip ?_
    refine ATodo.seq ?_
    refine ATodo.seq ?_
    refine ATodo.region ?_
    refine ARun.qv (q_load_ptr rfl rfl .here rfl) rfl ?_
    refine ARun.qv (q_makeFunc rfl) rfl ?_
    obtain ⟨v3, e2, h⟩ := bnd h
    refine r_callpB rfl (slices_ContainsFunc_Sample_Sample_c (fun e => series_CheckSeries_1x_c e) e2) (.cons (.co (.refl _)) (.cons (.funcL _ _ _ (.cons (.boxL _ _ _ .here (.cons (.co (.refl _)) .nil)) .nil)) .nil)) rfl rfl ?_
    refine ARun.nil ?_
    refine ATodo.cond rfl (fun hc => ?_) (fun hc => ?_)
    · replace h := iteT hc h
      refine ATodo.seq ?_
      refine ATodo.region ?_
      refine ARun.qv (q_assign rfl) rfl ?_
      refine ARun.nil ?_
      refine ATodo.ret ?_
      obtain rfl := Option.some.inj h
      exact ImpX.here ⟨_, .cons (.tmp _ _ rfl) .nil, rfl⟩
    · replace h := iteFb hc h
      refine ATodo.skip ?_
      refine ATodo.seq ?_
      refine ATodo.region ?_
      refine ARun.qv (q_assign rfl) rfl ?_
      refine ARun.nil ?_
      refine ATodo.ret ?_
      obtain rfl := Option.some.inj h
      exact ImpX.here ⟨_, .cons (.tmp _ _ rfl) .nil, rfl⟩

set_option maxHeartbeats 4000000 in
theorem base_Window_c {p0x0 : Window} {r : Bool} (h : base_Window p0x0 = r) : Pu Try.prog 177 [.agg [I p0x0.From, I p0x0.To]] (.bool r) := by
  unfold base_Window at h
  refine ACall.bodyN Try.func177 rfl Try.ntmps177 Try.results177 rfl rfl ?_
  refine ATodo.seq ?_
  refine ATodo.region ?_
  refine n_box rfl rfl rfl rfl (fun b1 => ?_)
  refine ARun.qv (q_assign rfl) rfl ?_
  refine ARun.nil ?_
  refine ATodo.seq ?_
  refine ATodo.cut (fun σ' => ∃ (c2 : Bool), base_Window_j1 c2 = r ∧ σ' = ⟨14, [(2, .bool c2)], []⟩) ?_ ?_
  · refine ATodo.region ?_
    refine ARun.qv (n_field_ptr rfl rfl) rfl ?_
    refine ARun.qv (q_load_ptr rfl rfl .here rfl) rfl ?_
    refine ARun.qv (n_field_ptr rfl rfl) rfl ?_
    refine ARun.qv (q_load_ptr rfl rfl .here rfl) rfl ?_
    refine r_callp rfl (base_Out_c rfl) (CoL.refl _) rfl ?_
    refine ARun.qv (q_not rfl) rfl ?_
    refine ARun.qv (q_move rfl) rfl ?_
    refine ARun.guard rfl rfl rfl (fun hc => ?_) (fun hc => ?_)
    · rw [andTb hc] at h
      refine ARun.qv (n_field_ptr rfl rfl) rfl ?_
      refine ARun.guard_yes rfl rfl rfl ?_
      refine ARun.qv (q_load_ptr rfl rfl .here rfl) rfl ?_
      refine ARun.guard_yes rfl rfl rfl ?_
      refine ARun.qv (q_leq rfl rfl) rfl ?_
      refine ARun.qv (q_pick_t rfl rfl) rfl ?_
      refine ARun.qv (q_assign rfl) rfl ?_
      refine ARun.nil ?_
      refine ATodo.stop ?_
      exact ImpX.lessP (by exact ⟨rfl, True.intro⟩) (.nil) (ImpX.here ⟨decide (p0x0.To ≤ (345686400000 : Int)), h, rfl⟩)
    · rw [andFb hc] at h
      refine ARun.guard_no rfl rfl rfl rfl ?_
      refine ARun.guard_no rfl rfl rfl rfl ?_
      refine ARun.qv (q_pick_f rfl rfl) rfl ?_
      refine ARun.qv (q_assign rfl) rfl ?_
      refine ARun.nil ?_
      refine ATodo.stop ?_
      exact ImpX.lessP (by exact ⟨rfl, True.intro⟩) (.nil) (ImpX.here ⟨false, h, rfl⟩)
  · rintro σ' ⟨c2, h, rfl⟩
    unfold base_Window_j1 at h
    refine ATodo.ret ?_
    obtain rfl := h
    exact ImpX.here ⟨_, .cons (.tmp _ _ rfl) .nil, rfl⟩

set_option maxHeartbeats 4000000 in
theorem series_fault_c {p0x0 : List Sample} {p1x0 : Window} {r : Int} (h : series_fault p0x0 p1x0 = some r) : Pu Try.prog 137 [.list 4 (p0x0.map Sample.av), .agg [I p1x0.From, I p1x0.To]] (I r) := by
  unfold series_fault at h
  refine ACall.bodyN Try.func137 rfl Try.ntmps137 Try.results137 rfl rfl ?_
  refine ATodo.seq ?_
  refine ATodo.region ?_
  refine n_box rfl rfl rfl rfl (fun b1 => ?_)
  refine ARun.qv (q_assign rfl) rfl ?_
  refine ARun.nil ?_
  refine ATodo.seq ?_
  refine ATodo.region ?_
  refine ARun.qv (q_move rfl) rfl ?_
  obtain ⟨v2, e1, h⟩ := bnd h
  refine r_callp rfl (series_CheckSeries_c e1) (CoL.refl _) rfl ?_
  refine ARun.qv (q_assign rfl) rfl ?_
  refine ARun.nil ?_
  refine ATodo.seq ?_
  refine ATodo.seq ?_
  refine ATodo.cut (fun σ' => ∃ (c3 : Bool), series_fault_j1 v2 c3 = some r ∧ σ' = ⟨16, [(5, I v2), (14, .bool c3)], []⟩) ?_ ?_
  · refine ATodo.region ?_
    refine ARun.qv (q_move rfl) rfl ?_
    refine ARun.qv (q_eql rfl rfl) rfl ?_
    refine ARun.qv (q_move rfl) rfl ?_
    refine ARun.guard_dt rfl rfl rfl (fun hc => ?_) (fun hc => ?_)
    · rw [andTd hc] at h
      refine ARun.qv (q_load_ptr_all rfl rfl .here rfl) rfl ?_
      refine ARun.guard_yes rfl rfl rfl ?_
      refine r_callp rfl (base_Window_c rfl) (CoL.refl _) rfl ?_
      refine ARun.guard_yes rfl rfl rfl ?_
      refine ARun.qv (q_not rfl) rfl ?_
      refine ARun.qv (q_pick_t rfl rfl) rfl ?_
      refine ARun.nil ?_
      refine ATodo.stop ?_
      exact ImpX.lessP (by exact ⟨rfl, rfl, True.intro⟩) (.nil) (ImpX.here ⟨!(base_Window p1x0), h, rfl⟩)
    · rw [andFd hc] at h
      refine ARun.guard_no rfl rfl rfl rfl ?_
      refine ARun.guard_no rfl rfl rfl rfl ?_
      refine ARun.qv (q_pick_f rfl rfl) rfl ?_
      refine ARun.nil ?_
      refine ATodo.stop ?_
      exact ImpX.lessP (by exact ⟨rfl, rfl, True.intro⟩) (.nil) (ImpX.here ⟨false, h, rfl⟩)
  · rintro σ' ⟨c3, h, rfl⟩
    unfold series_fault_j1 at h
    refine ATodo.cut (fun σ' => ∃ (n4 : Int), series_fault_j2 n4 = some r ∧ σ' = ⟨16, [(5, I n4)], []⟩) ?_ ?_
    · refine ATodo.cond rfl (fun hc => ?_) (fun hc => ?_)
      · replace h := iteT hc h
        refine ATodo.region ?_
        refine ARun.qv (q_assign rfl) rfl ?_
        refine ARun.nil ?_
        refine ATodo.stop ?_
        exact ImpX.lessP (by exact ⟨rfl, True.intro⟩) (.nil) (ImpX.here ⟨(1 : Int), h, rfl⟩)
      · replace h := iteFb hc h
        refine ATodo.skip ?_
        refine ATodo.stop ?_
        exact ImpX.lessP (by exact ⟨rfl, True.intro⟩) (.nil) (ImpX.here ⟨v2, h, rfl⟩)
    · rintro σ' ⟨n4, h, rfl⟩
      unfold series_fault_j2 at h
      refine ATodo.seq ?_
      refine ATodo.region ?_
      refine ARun.qv (q_move rfl) rfl ?_
      refine ARun.qv (q_assign rfl) rfl ?_
      refine ARun.nil ?_
      refine ATodo.ret ?_
      obtain rfl := Option.some.inj h
      exact ImpX.here ⟨_, .cons (.tmp _ _ rfl) .nil, rfl⟩

set_option maxHeartbeats 4000000 in
theorem series_spans_c {p0x0 : List Sample} {p1x0 : Window} {r : (List Series_span)} (h : series_spans p0x0 p1x0 = some r) : ACall Try.prog 138 [.list 4 (p0x0.map Sample.av), .agg [I p1x0.From, I p1x0.To]] [] (T1 (fun d_0 => [(d_0, .arr 3 (r.map Series_span.av))]) (fun d_0 => .sl 3 d_0 0 r.length)) := by
  unfold series_spans at h
  refine ACall.lessH ?_
  refine ACall.bodyN Try.func138 rfl Try.ntmps138 Try.results138 rfl rfl ?_
  refine ATodo.seq ?_
  refine ATodo.region ?_
  refine n_box rfl rfl rfl rfl (fun b1 => ?_)
  refine ARun.qv (q_assign rfl) rfl ?_
  refine ARun.nil ?_
  refine ATodo.seq ?_
  refine ATodo.region ?_
  refine ARun.qv (q_assign rfl) rfl ?_
  refine ARun.nil ?_
  refine ATodo.seq ?_
  refine ATodo.seq ?_
  refine ATodo.region ?_
  refine ARun.qv (q_move rfl) rfl ?_
  refine ARun.qv (t_len rfl) rfl ?_
  refine ARun.qv (q_move rfl) rfl ?_
  refine ARun.nil ?_
  refine ATodo.block ?_
  refine ATodo.loopI (fun x : (List Series_span) × Int => series_spans_b1 p0x0 p1x0 x.1 x.2) (fun x σ' => ∃ (b5 : Bk), σ' = ⟨50, [(0, .list 4 (p0x0.map Sample.av)), (3, .ptr b1 0), (5, .sl 3 b5 0 x.1.length), (10, .list 4 (p0x0.map Sample.av)), (11, I (p0x0.length : Int)), (12, I x.2)], [(b1, .cells [I p1x0.From, I p1x0.To]), (b5, .arr 3 (x.1.map Series_span.av))]⟩) h ?_ ?_
  · refine ImpX.arr (s := 5) 3 rfl (fun b8 => ?_)
    exact ImpX.lessP (by exact ⟨rfl, rfl, rfl, rfl, rfl, rfl, True.intro⟩) (.cons (.next .here) (.cons .here .nil)) (ImpX.here ⟨b8, rfl⟩)
  · intro x z1 σ' J1 hmk h hJ1 hA1
    obtain ⟨l6, n7⟩ := x
    obtain ⟨b5, rfl⟩ := hmk
    replace h : series_spans_b1 p0x0 p1x0 l6 n7 = some z1 := h
    unfold series_spans_b1 at h
    refine ATodo.seq ?_
    refine ATodo.region ?_
    refine ARun.qv (q_lss rfl rfl) rfl ?_
    refine ARun.nil ?_
    refine ATodo.seq ?_
    refine ATodo.cond_d rfl (fun hc => ?_) (fun hc => ?_)
    · replace h := iteT hc h
      refine ATodo.skip ?_
      refine ATodo.seq ?_
      refine ATodo.block ?_
      refine ATodo.seq ?_
      refine ATodo.region ?_
      refine ARun.qv (q_move rfl) rfl ?_
      obtain ⟨v9, e1, h⟩ := bnd h
      refine ARun.qv (t_index rfl rfl rfl e1 rfl rfl) rfl ?_
      refine ARun.qv (q_load_rptr_agg rfl rfl rfl) rfl ?_
      refine n_alloc rfl rfl rfl rfl (fun b10 => ?_)
      refine ARun.qv (q_assign rfl) rfl ?_
      refine n_store_ptr rfl rfl rfl rfl .here rfl rfl ?_
      refine ARun.nil ?_
      refine ATodo.seq ?_
      refine ATodo.region ?_
      refine ARun.qv (n_field_ptr rfl rfl) rfl ?_
      refine ARun.qv (q_load_ptr rfl rfl (.next .here) rfl) rfl ?_
      refine ARun.qv (q_assign rfl) rfl ?_
      refine ARun.nil ?_
      refine ATodo.seq ?_
      refine ATodo.seq ?_
      refine ATodo.region ?_
      refine ARun.qv (q_move rfl) rfl ?_
      refine ARun.qv (q_addw rfl rfl) rfl ?_
      refine ARun.qv (q_move rfl) rfl ?_
      refine ARun.qv (t_len rfl) rfl ?_
      refine ARun.qv (q_lss rfl rfl) rfl ?_
      refine ARun.nil ?_
      refine ATodo.cut (fun σ' => ∃ (n11 : Int), series_spans_j1 p1x0 l6 n7 v9 n11 = some z1 ∧ σ' = ⟨50, [(0, .list 4 (p0x0.map Sample.av)), (3, .ptr b1 0), (5, .sl 3 b5 0 l6.length), (7, .ptr b10 0), (8, I n11), (10, .list 4 (p0x0.map Sample.av)), (11, I (p0x0.length : Int)), (12, I n7)], [(b1, .cells [I p1x0.From, I p1x0.To]), (b5, .arr 3 (l6.map Series_span.av)), (b10, .cells [.str v9.Device, .str v9.Metric, I v9.At, I v9.Value])]⟩) ?_ ?_
      · refine ATodo.cond_d rfl (fun hc => ?_) (fun hc => ?_)
        · replace h := iteT hc h
          refine ATodo.region ?_
          refine ARun.qv (q_move rfl) rfl ?_
          refine ARun.qv (q_move rfl) rfl ?_
          refine ARun.qv (q_move rfl) rfl ?_
          refine ARun.qv (q_addw rfl rfl) rfl ?_
          obtain ⟨v12, e2, h⟩ := bnd h
          refine ARun.qv (t_index rfl rfl rfl e2 rfl rfl) rfl ?_
          refine ARun.qv (n_field_rptr rfl rfl) rfl ?_
          refine ARun.qv (q_load_rptr rfl rfl rfl) rfl ?_
          refine ARun.qv (q_min rfl rfl) rfl ?_
          refine ARun.qv (q_assign rfl) rfl ?_
          refine ARun.nil ?_
          refine ATodo.stop ?_
          exact ImpX.lessP (by exact ⟨rfl, rfl, rfl, rfl, rfl, rfl, rfl, rfl, True.intro⟩) (.cons (.next .here) (.cons (.next .here) (.cons .here .nil))) (ImpX.here ⟨min p1x0.To v12.At, h, rfl⟩)
        · replace h := iteF hc h
          refine ATodo.skip ?_
          refine ATodo.stop ?_
          exact ImpX.lessP (by exact ⟨rfl, rfl, rfl, rfl, rfl, rfl, rfl, rfl, True.intro⟩) (.cons (.next .here) (.cons (.next .here) (.cons .here .nil))) (ImpX.here ⟨p1x0.To, h, rfl⟩)
      · rintro σ' ⟨n11, h, rfl⟩
        unfold series_spans_j1 at h
        refine ATodo.seq ?_
        refine ATodo.region ?_
        refine ARun.qv (n_field_ptr rfl rfl) rfl ?_
        refine ARun.qv (q_load_ptr rfl rfl (.next (.next .here)) rfl) rfl ?_
        refine ARun.qv (n_field_ptr rfl rfl) rfl ?_
        refine ARun.qv (q_load_ptr rfl rfl .here rfl) rfl ?_
        refine ARun.qv (q_max rfl rfl) rfl ?_
        refine ARun.qv (q_assign rfl) rfl ?_
        refine ARun.nil ?_
        refine ATodo.seq ?_
        refine ATodo.region ?_
        refine ARun.qv (q_move rfl) rfl ?_
        refine ARun.qv (q_move rfl) rfl ?_
        refine ARun.qv (q_lss rfl rfl) rfl ?_
        refine ARun.nil ?_
        refine ATodo.cut (fun σ' => ∃ (b13 : Bk) (l14 : List Series_span), series_spans_j2 n7 l14 = some z1 ∧ σ' = ⟨50, [(0, .list 4 (p0x0.map Sample.av)), (3, .ptr b1 0), (5, .sl 3 b13 0 l14.length), (10, .list 4 (p0x0.map Sample.av)), (11, I (p0x0.length : Int)), (12, I n7)], [(b1, .cells [I p1x0.From, I p1x0.To]), (b13, .arr 3 (l14.map Series_span.av))]⟩) ?_ ?_
        · refine ATodo.cond_d rfl (fun hc => ?_) (fun hc => ?_)
          · replace h := iteT hc h
            refine ATodo.region ?_
            refine ARun.qv (q_move rfl) rfl ?_
            refine ARun.qv (q_move rfl) rfl ?_
            refine ARun.qv (q_move rfl) rfl ?_
            refine ARun.qv (n_field_ptr rfl rfl) rfl ?_
            refine ARun.qv (q_load_ptr rfl rfl (.next (.next .here)) rfl) rfl ?_
            refine ARun.qv (n_build rfl rfl rfl rfl rfl) rfl ?_
            refine n_buildSliceL (xs := ([(⟨max v9.At p1x0.From, n11, v9.Value⟩ : Series_span)]).map Series_span.av) rfl rfl rfl rfl rfl rfl ?_
            obtain ⟨l15, e3, h⟩ := bnd h
            refine t_append (g := Series_span.av) rfl rfl rfl rfl rfl rfl rfl rfl (.list _) e3 (fun _ => (.next .here)) rfl (fun b16 => ?_)
            refine ARun.qv (q_assign rfl) rfl ?_
            refine ARun.nil ?_
            refine ATodo.stop ?_
            exact ImpX.lessP (by exact ⟨rfl, rfl, rfl, rfl, rfl, rfl, True.intro⟩) (.cons .here (.cons .here .nil)) (ImpX.here ⟨b16, l15, h, rfl⟩)
          · replace h := iteF hc h
            refine ATodo.skip ?_
            refine ATodo.stop ?_
            exact ImpX.lessP (by exact ⟨rfl, rfl, rfl, rfl, rfl, rfl, True.intro⟩) (.cons .here (.cons .here .nil)) (ImpX.here ⟨b5, l6, h, rfl⟩)
        · rintro σ' ⟨b13, l14, h, rfl⟩
          unfold series_spans_j2 at h
          refine ATodo.blk ?_
          refine ATodo.region ?_
          refine ARun.qv (q_addw rfl rfl) rfl ?_
          refine ARun.qv (q_move rfl) rfl ?_
          refine ARun.nil ?_
          refine ATodo.stop ?_
          obtain rfl := Option.some.inj h
          refine hJ1 _ _ rfl ?_
          exact ImpX.lessP (by exact ⟨rfl, rfl, rfl, rfl, rfl, rfl, True.intro⟩) (.cons .here (.cons .here .nil)) (ImpX.here ⟨b13, rfl⟩)
    · replace h := iteF hc h
      refine ATodo.exit rfl ?_
      replace h := outL h hA1
      refine ATodo.seq ?_
      refine ATodo.region ?_
      refine ARun.qv (q_move rfl) rfl ?_
      refine ARun.qv (q_assign rfl) rfl ?_
      refine ARun.nil ?_
      refine ATodo.ret ?_
      obtain rfl := Option.some.inj h
      exact ImpX.here ⟨_, .cons (.tmp _ _ rfl) .nil, _, .cons (.next .here) .nil, ⟨b5, rfl, rfl⟩⟩

set_option maxHeartbeats 4000000 in
theorem base_Gcd_c {p0x0 : Int} {p1x0 : Int} {r : Int} (h : base_Gcd p0x0 p1x0 = some r) : Pu Try.prog 204 [I p0x0, I p1x0] (I r) := by
  unfold base_Gcd at h
  refine ACall.bodyN Try.func204 rfl Try.ntmps204 Try.results204 rfl rfl ?_
  refine ATodo.seq ?_
  refine ATodo.region ?_
  refine ARun.qv (q_assign rfl) rfl ?_
  refine ARun.nil ?_
  refine ATodo.seq ?_
  refine ATodo.block ?_
  refine ATodo.loopI (fun x : Int × Int => base_Gcd_b1 x.1 x.2) (fun x σ' => σ' = ⟨12, [(0, I x.1), (1, I x.2)], []⟩) h ?_ ?_
  · exact ImpX.lessP (by exact ⟨rfl, rfl, True.intro⟩) (.nil) (ImpX.here rfl)
  · intro x z1 σ' J1 hmk h hJ1 hA1
    obtain ⟨n3, n4⟩ := x
    obtain rfl := hmk
    replace h : base_Gcd_b1 n3 n4 = some z1 := h
    unfold base_Gcd_b1 at h
    refine ATodo.seq ?_
    refine ATodo.seq ?_
    refine ATodo.region ?_
    refine ARun.qv (q_move rfl) rfl ?_
    refine ARun.qv (q_neq rfl rfl) rfl ?_
    refine ARun.nil ?_
    refine ATodo.cond_d rfl (fun hc => ?_) (fun hc => ?_)
    · replace h := iteT hc h
      refine ATodo.skip ?_
      refine ATodo.block ?_
      refine ATodo.regionM (id := 2) (A := [0, 0, 0, 6, 3, 31]) 6 mixed rfl (by kernel_rfl) (by kernel_rfl) ?_
      refine AM.qv (q_move rfl) rfl ?_
      refine AM.qv (q_move rfl) rfl ?_
      refine AM.qv (q_move rfl) rfl ?_
      obtain ⟨n5, e1, h⟩ := bnd h
      refine AM.qv (t_remS rfl rfl e1) rfl ?_
      refine AM.qv (q_assign rfl) rfl ?_
      refine AM.qv (q_assign rfl) rfl ?_
      refine AM.nil ?_
      refine ARun.nil ?_
      refine ATodo.blk ?_
      refine ATodo.stop ?_
      obtain rfl := Option.some.inj h
      refine hJ1 _ _ rfl ?_
      exact ImpX.lessP (by exact ⟨rfl, rfl, True.intro⟩) (.nil) (ImpX.here rfl)
    · replace h := iteF hc h
      refine ATodo.exit rfl ?_
      replace h := outL h hA1
      refine ATodo.seq ?_
      refine ATodo.region ?_
      refine ARun.qv (q_move rfl) rfl ?_
      refine ARun.qv (q_assign rfl) rfl ?_
      refine ARun.nil ?_
      refine ATodo.ret ?_
      obtain rfl := Option.some.inj h
      exact ImpX.here ⟨_, .cons (.tmp _ _ rfl) .nil, rfl⟩

set_option maxHeartbeats 4000000 in
theorem base_Fraction_c {p0x0 : Int} {p1x0 : Int} {r : Fraction} (h : base_Fraction p0x0 p1x0 = some r) : Pu Try.prog 139 [I p0x0, I p1x0] (.agg [I r.Num, I r.Den]) := by
  unfold base_Fraction at h
  refine ACall.bodyN Try.func139 rfl Try.ntmps139 Try.results139 rfl rfl ?_
  refine ATodo.seq ?_
  refine ATodo.region ?_
  refine n_alloc rfl rfl rfl rfl (fun b1 => ?_)
  refine ARun.nil ?_
  refine ATodo.seq ?_
  refine ATodo.region ?_
  refine ARun.qv (q_move rfl) rfl ?_
  refine ARun.qv (q_move rfl) rfl ?_
  refine ARun.qv (t_negw rfl) rfl ?_
  refine ARun.qv (q_max rfl rfl) rfl ?_
  refine ARun.qv (q_move rfl) rfl ?_
  obtain ⟨v2, e1, h⟩ := bnd h
  refine r_callp rfl (base_Gcd_c e1) (CoL.refl _) rfl ?_
  refine ARun.qv (q_assign rfl) rfl ?_
  refine ARun.nil ?_
  refine ATodo.seq ?_
  refine ATodo.regionM (id := 2) (A := [0, 0, 3, 0, 0, 24, 63, 127]) 7 mixed rfl (by kernel_rfl) (by kernel_rfl) ?_
  refine AM.qv (q_move rfl) rfl ?_
  refine AM.qv (q_move rfl) rfl ?_
  obtain ⟨n3, e2, h⟩ := bnd h
  refine AM.qv (t_quoS rfl rfl e2) rfl ?_
  refine AM.qv (q_move rfl) rfl ?_
  refine AM.qv (q_move rfl) rfl ?_
  obtain ⟨n4, e3, h⟩ := bnd h
  refine AM.qv (t_quoS rfl rfl e3) rfl ?_
  refine AM.qv (n_build rfl rfl rfl rfl rfl) rfl ?_
  refine AM.nil ?_
  refine n_store_ptr rfl rfl rfl rfl .here rfl rfl ?_
  refine ARun.nil ?_
  refine ATodo.ret ?_
  obtain rfl := Option.some.inj h
  exact ImpX.here ⟨_, .cons (.all _ _ _ _ _ _ rfl .here TUnder.h TInfo.h rfl rfl) .nil, rfl⟩

set_option maxHeartbeats 4000000 in
theorem series_Held_c {p0x0 : List Sample} {p1x0 : Window} {r : Fraction × Int} (h : series_Held p0x0 p1x0 = some r) : Pu Try.prog 56 [.list 4 (p0x0.map Sample.av), .agg [I p1x0.From, I p1x0.To]] (.tup [.agg [I r.1.Num, I r.1.Den], I r.2]) := by
  unfold series_Held at h
  refine ACall.bodyN Try.func56 rfl Try.ntmps56 Try.results56 rfl rfl ?_
  refine ATodo.seq ?_
  refine ATodo.region ?_
  refine n_box rfl rfl rfl rfl (fun b1 => ?_)
  refine n_alloc rfl rfl rfl rfl (fun b2 => ?_)
  refine ARun.qv (q_assign rfl) rfl ?_
  refine ARun.nil ?_
  refine ATodo.seq ?_
  refine ATodo.seq ?_
  refine ATodo.region ?_
  refine ARun.qv (q_move rfl) rfl ?_
  refine ARun.qv (q_load_ptr_all rfl rfl (.next .here) rfl) rfl ?_
  obtain ⟨v3, e1, h⟩ := bnd h
  refine r_callp rfl (series_fault_c e1) (CoL.refl _) rfl ?_
  refine ARun.qv (q_assign rfl) rfl ?_
  refine ARun.nil ?_
  refine ATodo.seq ?_
  refine ATodo.region ?_
  refine ARun.qv (q_move rfl) rfl ?_
  refine ARun.qv (q_neq rfl rfl) rfl ?_
  refine ARun.nil ?_
  refine ATodo.cond_d rfl (fun hc => ?_) (fun hc => ?_)
  · replace h := iteT hc h
    refine ATodo.seq ?_
    refine ATodo.region ?_
    refine ARun.qv (n_build rfl rfl rfl rfl rfl) rfl ?_
    refine ARun.qv (q_move rfl) rfl ?_
    refine n_store_ptr rfl rfl rfl rfl .here rfl rfl ?_
    refine ARun.qv (q_assign rfl) rfl ?_
    refine ARun.nil ?_
    refine ATodo.ret ?_
    obtain rfl := Option.some.inj h
    exact ImpX.here ⟨_, .cons (.all _ _ _ _ _ _ rfl .here TUnder.h TInfo.h rfl rfl) (.cons (.tmp _ _ rfl) .nil), rfl⟩
  · replace h := iteF hc h
    refine ATodo.skip ?_
    refine ATodo.seq ?_
    refine ATodo.seq ?_
    refine ATodo.region ?_
    refine ARun.qv (n_field_ptr rfl rfl) rfl ?_
    refine ARun.qv (q_load_ptr rfl rfl (.next .here) rfl) rfl ?_
    refine ARun.qv (n_field_ptr rfl rfl) rfl ?_
    refine ARun.qv (q_load_ptr rfl rfl (.next .here) rfl) rfl ?_
    refine ARun.qv (q_subw rfl rfl) rfl ?_
    refine ARun.qv (q_gtr rfl rfl) rfl ?_
    refine ARun.nil ?_
    refine ATodo.cond_d rfl (fun hc => ?_) (fun hc => ?_)
    · replace h := iteT hc h
      refine ATodo.seq ?_
      refine ATodo.region ?_
      refine ARun.qv (n_build rfl rfl rfl rfl rfl) rfl ?_
      refine n_store_ptr rfl rfl rfl rfl .here rfl rfl ?_
      refine ARun.qv (q_assign rfl) rfl ?_
      refine ARun.nil ?_
      refine ATodo.ret ?_
      obtain rfl := Option.some.inj h
      exact ImpX.here ⟨_, .cons (.all _ _ _ _ _ _ rfl .here TUnder.h TInfo.h rfl rfl) (.cons (.tmp _ _ rfl) .nil), rfl⟩
    · replace h := iteF hc h
      refine ATodo.skip ?_
      refine ATodo.seq ?_
      refine ATodo.region ?_
      refine ARun.qv (q_assign rfl) rfl ?_
      refine ARun.qv (q_assign rfl) rfl ?_
      refine ARun.nil ?_
      refine ATodo.seq ?_
      refine ATodo.seq ?_
      refine ATodo.region ?_
      refine ARun.qv (q_move rfl) rfl ?_
      refine ARun.qv (q_load_ptr_all rfl rfl (.next .here) rfl) rfl ?_
      obtain ⟨v4, e2, h⟩ := bnd h
      refine t_call1 rfl (series_spans_c e2) (CoL.refl _) .nil (fun _ => rfl) rfl (fun b5 => ?_)
      refine ARun.qv (t_len_sl rfl) rfl ?_
      refine ARun.qv (q_move rfl) rfl ?_
      refine ARun.nil ?_
      refine ATodo.block ?_
      refine ATodo.loopI (fun x : Int × Int × Int => series_Held_b1 v4 x.1 x.2.1 x.2.2) (fun x σ' => σ' = ⟨57, [(4, .ptr b2 0), (7, I x.1), (8, I x.2.1), (27, .sl 3 b5 0 v4.length), (28, I (v4.length : Int)), (29, I x.2.2)], [(b2, .cells [I (0 : Int), I (0 : Int)]), (b5, .arr 3 (v4.map Series_span.av))]⟩) h ?_ ?_
      · exact ImpX.lessP (by exact ⟨rfl, rfl, rfl, rfl, rfl, rfl, True.intro⟩) (.cons (.next .here) (.cons .here .nil)) (ImpX.here rfl)
      · intro x z1 σ' J1 hmk h hJ1 hA1
        obtain ⟨n9, n10, n11⟩ := x
        obtain rfl := hmk
        replace h : series_Held_b1 v4 n9 n10 n11 = some z1 := h
        unfold series_Held_b1 at h
        refine ATodo.seq ?_
        refine ATodo.region ?_
        refine ARun.qv (q_lss rfl rfl) rfl ?_
        refine ARun.nil ?_
        refine ATodo.seq ?_
        refine ATodo.cond_d rfl (fun hc => ?_) (fun hc => ?_)
        · replace h := iteT hc h
          refine ATodo.skip ?_
          refine ATodo.seq ?_
          refine ATodo.block ?_
          refine ATodo.seq ?_
          refine ATodo.region ?_
          obtain ⟨v12, e3, h⟩ := bnd h
          refine ARun.qv (t_index_sl rfl rfl rfl e3) rfl ?_
          refine ARun.qv (t_load_aptr_agg (g := Series_span.av) rfl rfl (.inl (.next .here)) rfl e3 rfl) rfl ?_
          refine n_alloc rfl rfl rfl rfl (fun b13 => ?_)
          refine n_store_ptr rfl rfl rfl rfl .here rfl rfl ?_
          refine ARun.nil ?_
          refine ATodo.seq ?_
          refine ATodo.region ?_
          refine ARun.qv (q_move rfl) rfl ?_
          refine ARun.qv (n_field_ptr rfl rfl) rfl ?_
          refine ARun.qv (q_load_ptr rfl rfl .here rfl) rfl ?_
          refine ARun.qv (n_field_ptr rfl rfl) rfl ?_
          refine ARun.qv (q_load_ptr rfl rfl .here rfl) rfl ?_
          refine ARun.qv (n_field_ptr rfl rfl) rfl ?_
          refine ARun.qv (q_load_ptr rfl rfl .here rfl) rfl ?_
          refine ARun.qv (q_subw rfl rfl) rfl ?_
          refine ARun.qv (q_mulw rfl rfl) rfl ?_
          refine ARun.qv (q_addw rfl rfl) rfl ?_
          refine ARun.qv (q_assign rfl) rfl ?_
          refine ARun.nil ?_
          refine ATodo.region ?_
          refine ARun.qv (q_move rfl) rfl ?_
          refine ARun.qv (n_field_ptr rfl rfl) rfl ?_
          refine ARun.qv (q_load_ptr rfl rfl .here rfl) rfl ?_
          refine ARun.qv (n_field_ptr rfl rfl) rfl ?_
          refine ARun.qv (q_load_ptr rfl rfl .here rfl) rfl ?_
          refine ARun.qv (q_subw rfl rfl) rfl ?_
          refine ARun.qv (q_addw rfl rfl) rfl ?_
          refine ARun.qv (q_assign rfl) rfl ?_
          refine ARun.nil ?_
          refine ATodo.blk ?_
          refine ATodo.region ?_
          refine ARun.qv (q_addw rfl rfl) rfl ?_
          refine ARun.qv (q_move rfl) rfl ?_
          refine ARun.nil ?_
          refine ATodo.stop ?_
          obtain rfl := Option.some.inj h
          refine hJ1 _ _ rfl ?_
          exact ImpX.lessP (by exact ⟨rfl, rfl, rfl, rfl, rfl, rfl, True.intro⟩) (.cons (.next .here) (.cons (.next .here) .nil)) (ImpX.here rfl)
        · replace h := iteF hc h
          refine ATodo.exit rfl ?_
          replace h := outL h hA1
          unfold series_Held_k1 at h
          refine ATodo.seq ?_
          refine ATodo.seq ?_
          refine ATodo.region ?_
          refine ARun.qv (q_move rfl) rfl ?_
          refine ARun.qv (q_eql rfl rfl) rfl ?_
          refine ARun.nil ?_
          refine ATodo.cond_d rfl (fun hc => ?_) (fun hc => ?_)
          · replace h := iteT hc h
            refine ATodo.seq ?_
            refine ATodo.region ?_
            refine ARun.qv (n_build rfl rfl rfl rfl rfl) rfl ?_
            refine n_store_ptr rfl rfl rfl rfl .here rfl rfl ?_
            refine ARun.qv (q_assign rfl) rfl ?_
            refine ARun.nil ?_
            refine ATodo.ret ?_
            obtain rfl := Option.some.inj h
            exact ImpX.here ⟨_, .cons (.all _ _ _ _ _ _ rfl .here TUnder.h TInfo.h rfl rfl) (.cons (.tmp _ _ rfl) .nil), rfl⟩
          · replace h := iteF hc h
            refine ATodo.skip ?_
            refine ATodo.seq ?_
            refine ATodo.region ?_
            refine ARun.qv (q_move rfl) rfl ?_
            refine ARun.qv (q_move rfl) rfl ?_
            obtain ⟨v14, e4, h⟩ := bnd h
            refine r_callp rfl (base_Fraction_c e4) (CoL.refl _) rfl ?_
            refine n_store_ptr rfl rfl rfl rfl .here rfl rfl ?_
            refine ARun.qv (q_assign rfl) rfl ?_
            refine ARun.nil ?_
            refine ATodo.ret ?_
            obtain rfl := Option.some.inj h
            exact ImpX.here ⟨_, .cons (.all _ _ _ _ _ _ rfl .here TUnder.h TInfo.h rfl rfl) (.cons (.tmp _ _ rfl) .nil), rfl⟩

set_option maxHeartbeats 4000000 in
theorem slices_Sort_int_int_k : Sort1 Try.prog 135 (Value.int .i64) srtI := ⟨fun blk off cap zs w hH hb hs => Try.slices_Sort_int blk off cap zs w hH hb hs, fun p cap w => Try.slices_Sort_int_none p cap w⟩
theorem slices_Sort_int_int_c {b_0 : Bk} {p0x0 : List Int} {r : (List Int)} (h : slices_Sort_int_int p0x0 = some r) : ACall Try.prog 135 [.sl 1 b_0 0 p0x0.length] [(b_0, .arr 1 (p0x0.map I))] (T0 [(b_0, .arr 1 (r.map I))] (.tup [])) :=
  sortI_acall slices_Sort_int_int_k h

set_option maxHeartbeats 4000000 in
theorem series_Quantile_c {p0x0 : List Sample} {p1x0 : Int} {r : Int × Int} (h : series_Quantile p0x0 p1x0 = some r) : Pu Try.prog 57 [.list 4 (p0x0.map Sample.av), I p1x0] (.tup [I r.1, I r.2]) := by
  unfold series_Quantile at h
  refine ACall.bodyN Try.func57 rfl Try.ntmps57 Try.results57 rfl rfl ?_
  refine ATodo.seq ?_
  refine ATodo.region ?_
  refine ARun.qv (q_assign rfl) rfl ?_
  refine ARun.qv (q_assign rfl) rfl ?_
  refine ARun.nil ?_
  refine ATodo.seq ?_
  refine ATodo.seq ?_
  refine ATodo.region ?_
  refine ARun.qv (q_move rfl) rfl ?_
  obtain ⟨v1, e1, h⟩ := bnd h
  refine r_callp rfl (series_CheckSeries_c e1) (CoL.refl _) rfl ?_
  refine ARun.qv (q_assign rfl) rfl ?_
  refine ARun.nil ?_
  refine ATodo.seq ?_
  refine ATodo.region ?_
  refine ARun.qv (q_move rfl) rfl ?_
  refine ARun.qv (q_neq rfl rfl) rfl ?_
  refine ARun.nil ?_
  refine ATodo.cond_d rfl (fun hc => ?_) (fun hc => ?_)
  · replace h := iteT hc h
    refine ATodo.seq ?_
    refine ATodo.region ?_
    refine ARun.qv (q_move rfl) rfl ?_
    refine ARun.qv (q_assign rfl) rfl ?_
    refine ARun.qv (q_assign rfl) rfl ?_
    refine ARun.nil ?_
    refine ATodo.ret ?_
    obtain rfl := Option.some.inj h
    exact ImpX.here ⟨_, .cons (.tmp _ _ rfl) (.cons (.tmp _ _ rfl) .nil), rfl⟩
  · replace h := iteF hc h
    refine ATodo.skip ?_
    refine ATodo.seq ?_
    refine ATodo.seq ?_
    refine ATodo.region ?_
    refine ARun.qv (q_move rfl) rfl ?_
    refine r_callp rfl (base_Out_c rfl) (CoL.refl _) rfl ?_
    refine ARun.nil ?_
    refine ATodo.cond rfl (fun hc => ?_) (fun hc => ?_)
    · replace h := iteT hc h
      refine ATodo.seq ?_
      refine ATodo.region ?_
      refine ARun.qv (q_assign rfl) rfl ?_
      refine ARun.qv (q_assign rfl) rfl ?_
      refine ARun.nil ?_
      refine ATodo.ret ?_
      obtain rfl := Option.some.inj h
      exact ImpX.here ⟨_, .cons (.tmp _ _ rfl) (.cons (.tmp _ _ rfl) .nil), rfl⟩
    · replace h := iteFb hc h
      refine ATodo.skip ?_
      refine ATodo.seq ?_
      refine ATodo.seq ?_
      refine ATodo.region ?_
      refine ARun.qv (q_move rfl) rfl ?_
      refine ARun.qv (t_len rfl) rfl ?_
      refine ARun.qv (q_eql rfl rfl) rfl ?_
      refine ARun.nil ?_
      refine ATodo.cond_d rfl (fun hc => ?_) (fun hc => ?_)
      · replace h := iteT hc h
        refine ATodo.seq ?_
        refine ATodo.region ?_
        refine ARun.qv (q_assign rfl) rfl ?_
        refine ARun.qv (q_assign rfl) rfl ?_
        refine ARun.nil ?_
        refine ATodo.ret ?_
        obtain rfl := Option.some.inj h
        exact ImpX.here ⟨_, .cons (.tmp _ _ rfl) (.cons (.tmp _ _ rfl) .nil), rfl⟩
      · replace h := iteF hc h
        refine ATodo.skip ?_
        refine ATodo.seq ?_
        refine ATodo.region ?_
        refine ARun.qv (q_assign rfl) rfl ?_
        refine ARun.nil ?_
        refine ATodo.seq ?_
        refine ATodo.seq ?_
        refine ATodo.region ?_
        refine ARun.qv (q_move rfl) rfl ?_
        refine ARun.qv (t_len rfl) rfl ?_
        refine ARun.qv (q_move rfl) rfl ?_
        refine ARun.nil ?_
        refine ATodo.block ?_
        refine ATodo.loopI (fun x : (List Int) × Int => series_Quantile_b1 p0x0 p1x0 x.1 x.2) (fun x σ' => ∃ (b5 : Bk), σ' = ⟨44, [(1, I p1x0), (7, .sl 1 b5 0 x.1.length), (20, .list 4 (p0x0.map Sample.av)), (21, I (p0x0.length : Int)), (22, I x.2)], [(b5, .arr 1 (x.1.map I))]⟩) h ?_ ?_
        · refine ImpX.arr (s := 7) 1 rfl (fun b8 => ?_)
          exact ImpX.lessP (by exact ⟨rfl, rfl, rfl, rfl, rfl, True.intro⟩) (.cons .here .nil) (ImpX.here ⟨b8, rfl⟩)
        · intro x z1 σ' J1 hmk h hJ1 hA1
          obtain ⟨l6, n7⟩ := x
          obtain ⟨b5, rfl⟩ := hmk
          replace h : series_Quantile_b1 p0x0 p1x0 l6 n7 = some z1 := h
          unfold series_Quantile_b1 at h
          refine ATodo.seq ?_
          refine ATodo.region ?_
          refine ARun.qv (q_lss rfl rfl) rfl ?_
          refine ARun.nil ?_
          refine ATodo.seq ?_
          refine ATodo.cond_d rfl (fun hc => ?_) (fun hc => ?_)
          · replace h := iteT hc h
            refine ATodo.skip ?_
            refine ATodo.seq ?_
            refine ATodo.block ?_
            refine ATodo.seq ?_
            refine ATodo.region ?_
            obtain ⟨v9, e2, h⟩ := bnd h
            refine ARun.qv (t_index rfl rfl rfl e2 rfl rfl) rfl ?_
            refine ARun.qv (q_load_rptr_agg rfl rfl rfl) rfl ?_
            refine n_alloc rfl rfl rfl rfl (fun b10 => ?_)
            refine n_store_ptr rfl rfl rfl rfl .here rfl rfl ?_
            refine ARun.nil ?_
            refine ATodo.region ?_
            refine ARun.qv (q_move rfl) rfl ?_
            refine ARun.qv (n_field_ptr rfl rfl) rfl ?_
            refine ARun.qv (q_load_ptr rfl rfl .here rfl) rfl ?_
            refine n_buildSliceL (xs := ([v9.Value] : List Int).map I) rfl rfl rfl rfl rfl rfl ?_
            obtain ⟨l11, e3, h⟩ := bnd h
            refine t_append (g := I) rfl rfl rfl rfl rfl rfl rfl rfl (.list _) e3 (fun _ => (.next .here)) rfl (fun b12 => ?_)
            refine ARun.qv (q_assign rfl) rfl ?_
            refine ARun.nil ?_
            refine ATodo.blk ?_
            refine ATodo.region ?_
            refine ARun.qv (q_addw rfl rfl) rfl ?_
            refine ARun.qv (q_move rfl) rfl ?_
            refine ARun.nil ?_
            refine ATodo.stop ?_
            obtain rfl := Option.some.inj h
            refine hJ1 _ _ rfl ?_
            exact ImpX.lessP (by exact ⟨rfl, rfl, rfl, rfl, rfl, True.intro⟩) (.cons (.next .here) .nil) (ImpX.here ⟨b12, rfl⟩)
          · replace h := iteF hc h
            refine ATodo.exit rfl ?_
            replace h := outL h hA1
            unfold series_Quantile_k1 at h
            refine ATodo.seq ?_
            refine ATodo.region ?_
            refine ARun.qv (q_move rfl) rfl ?_
            obtain ⟨v13, e4, h⟩ := bnd h
            refine t_call0 rfl (slices_Sort_int_int_c (lenOk_f e4)) (CoL.refl _) (.cons .here .nil) rfl rfl ?_
            refine ARun.ghost (ImpX.eqs (s := 7) (av' := .sl 1 b5 0 v13.length) rfl (congrArg (AV.sl 1 b5 0) (lenOk_l e4)) (ImpX.here ?_))
            refine ARun.ghost (ImpX.eqs (s := 32) (av' := .sl 1 b5 0 v13.length) rfl (congrArg (AV.sl 1 b5 0) (lenOk_l e4)) (ImpX.here ?_))
            refine ARun.nil ?_
            refine ATodo.seq ?_
            refine ATodo.region ?_
            refine ARun.qv (q_move rfl) rfl ?_
            refine ARun.qv (q_move rfl) rfl ?_
            refine ARun.qv (q_move rfl) rfl ?_
            refine ARun.qv (t_len_sl rfl) rfl ?_
            refine ARun.qv (q_mulw rfl rfl) rfl ?_
            refine ARun.qv (q_addw rfl rfl) rfl ?_
            refine ARun.qv (t_quo rfl rfl (by decide)) rfl ?_
            refine ARun.qv (q_subw rfl rfl) rfl ?_
            obtain ⟨v14, e5, h⟩ := bnd h
            refine ARun.qv (t_index_sl rfl rfl rfl e5) rfl ?_
            refine ARun.qv (t_load_aptr (g := I) rfl rfl (.inl .here) e5 rfl) rfl ?_
            refine ARun.qv (q_assign rfl) rfl ?_
            refine ARun.qv (q_assign rfl) rfl ?_
            refine ARun.nil ?_
            refine ATodo.ret ?_
            obtain rfl := Option.some.inj h
            exact ImpX.here ⟨_, .cons (.tmp _ _ rfl) (.cons (.tmp _ _ rfl) .nil), rfl⟩

set_option maxHeartbeats 4000000 in
theorem series_Beyond_c {p0x0 : List Sample} {p1x0 : Window} {p2x0 : Int} {p3x0 : Int} {r : (List Window) × Int} (h : series_Beyond p0x0 p1x0 p2x0 p3x0 = some r) : ACall Try.prog 58 [.list 4 (p0x0.map Sample.av), .agg [I p1x0.From, I p1x0.To], I p2x0, I p3x0] [] (T1 (fun d_0 => [(d_0, .arr 2 (r.1.map Window.av))]) (fun d_0 => .tup [.sl 2 d_0 0 r.1.length, I r.2])) := by
  unfold series_Beyond at h
  refine ACall.lessH ?_
  refine ACall.bodyN Try.func58 rfl Try.ntmps58 Try.results58 rfl rfl ?_
  refine ATodo.seq ?_
  refine ATodo.region ?_
  refine n_box rfl rfl rfl rfl (fun b1 => ?_)
  refine ARun.qv (q_assign rfl) rfl ?_
  refine ARun.qv (q_assign rfl) rfl ?_
  refine ARun.nil ?_
  refine ATodo.seq ?_
  refine ATodo.seq ?_
  refine ATodo.region ?_
  refine ARun.qv (q_move rfl) rfl ?_
  refine ARun.qv (q_load_ptr_all rfl rfl .here rfl) rfl ?_
  obtain ⟨v2, e1, h⟩ := bnd h
  refine r_callp rfl (series_fault_c e1) (CoL.refl _) rfl ?_
  refine ARun.qv (q_assign rfl) rfl ?_
  refine ARun.nil ?_
  refine ATodo.seq ?_
  refine ATodo.region ?_
  refine ARun.qv (q_move rfl) rfl ?_
  refine ARun.qv (q_neq rfl rfl) rfl ?_
  refine ARun.nil ?_
  refine ATodo.cond_d rfl (fun hc => ?_) (fun hc => ?_)
  · replace h := iteT hc h
    refine ATodo.seq ?_
    refine ATodo.region ?_
    refine ARun.qv (q_move rfl) rfl ?_
    refine ARun.qv (q_assign rfl) rfl ?_
    refine ARun.qv (q_assign rfl) rfl ?_
    refine ARun.nil ?_
    refine ATodo.ret ?_
    obtain rfl := Option.some.inj h
    refine ImpX.arr (s := 8) 2 rfl (fun b3 => ?_)
    exact ImpX.here ⟨_, .cons (.tmp _ _ rfl) (.cons (.tmp _ _ rfl) .nil), _, .cons .here .nil, ⟨b3, rfl, rfl⟩⟩
  · replace h := iteF hc h
    refine ATodo.skip ?_
    refine ATodo.seq ?_
    refine ATodo.seq ?_
    refine ATodo.region ?_
    refine ARun.qv (q_move rfl) rfl ?_
    refine ARun.qv (q_move rfl) rfl ?_
    refine ARun.qv (q_gtr rfl rfl) rfl ?_
    refine ARun.nil ?_
    refine ATodo.cond_d rfl (fun hc => ?_) (fun hc => ?_)
    · replace h := iteT hc h
      refine ATodo.seq ?_
      refine ATodo.region ?_
      refine ARun.qv (q_assign rfl) rfl ?_
      refine ARun.qv (q_assign rfl) rfl ?_
      refine ARun.nil ?_
      refine ATodo.ret ?_
      obtain rfl := Option.some.inj h
      refine ImpX.arr (s := 8) 2 rfl (fun b4 => ?_)
      exact ImpX.here ⟨_, .cons (.tmp _ _ rfl) (.cons (.tmp _ _ rfl) .nil), _, .cons .here .nil, ⟨b4, rfl, rfl⟩⟩
    · replace h := iteF hc h
      refine ATodo.skip ?_
      refine ATodo.seq ?_
      refine ATodo.region ?_
      refine ARun.qv (q_assign rfl) rfl ?_
      refine ARun.nil ?_
      refine ATodo.seq ?_
      refine ATodo.seq ?_
      refine ATodo.region ?_
      refine ARun.qv (q_move rfl) rfl ?_
      refine ARun.qv (q_load_ptr_all rfl rfl .here rfl) rfl ?_
      obtain ⟨v5, e2, h⟩ := bnd h
      refine t_call1 rfl (series_spans_c e2) (CoL.refl _) .nil (fun _ => rfl) rfl (fun b6 => ?_)
      refine ARun.qv (t_len_sl rfl) rfl ?_
      refine ARun.qv (q_move rfl) rfl ?_
      refine ARun.nil ?_
      refine ATodo.block ?_
      refine ATodo.loopI (fun x : (List Window) × Int => series_Beyond_b1 p2x0 p3x0 v5 x.1 x.2) (fun x σ' => ∃ (b10 : Bk), σ' = ⟨71, [(2, I p2x0), (3, I p3x0), (11, .sl 2 b10 0 x.1.length), (26, .sl 3 b6 0 v5.length), (27, I (v5.length : Int)), (28, I x.2)], [(b10, .arr 2 (x.1.map Window.av)), (b6, .arr 3 (v5.map Series_span.av))]⟩) h ?_ ?_
      · refine ImpX.arr (s := 11) 2 rfl (fun b13 => ?_)
        exact ImpX.lessP (by exact ⟨rfl, rfl, rfl, rfl, rfl, rfl, True.intro⟩) (.cons .here (.cons .here .nil)) (ImpX.here ⟨b13, rfl⟩)
      · intro x z1 σ' J1 hmk h hJ1 hA1
        obtain ⟨l11, n12⟩ := x
        obtain ⟨b10, rfl⟩ := hmk
        replace h : series_Beyond_b1 p2x0 p3x0 v5 l11 n12 = some z1 := h
        unfold series_Beyond_b1 at h
        refine ATodo.seq ?_
        refine ATodo.region ?_
        refine ARun.qv (q_lss rfl rfl) rfl ?_
        refine ARun.nil ?_
        refine ATodo.seq ?_
        refine ATodo.cond_d rfl (fun hc => ?_) (fun hc => ?_)
        · replace h := iteT hc h
          refine ATodo.skip ?_
          refine ATodo.seq ?_
          refine ATodo.block ?_
          refine ATodo.seq ?_
          refine ATodo.region ?_
          obtain ⟨v14, e3, h⟩ := bnd h
          refine ARun.qv (t_index_sl rfl rfl rfl e3) rfl ?_
          refine ARun.qv (t_load_aptr_agg (g := Series_span.av) rfl rfl (.inl (.next .here)) rfl e3 rfl) rfl ?_
          refine n_alloc rfl rfl rfl rfl (fun b15 => ?_)
          refine n_store_ptr rfl rfl rfl rfl .here rfl rfl ?_
          refine ARun.nil ?_
          refine ATodo.seq ?_
          refine ATodo.region ?_
          refine ARun.qv (q_move rfl) rfl ?_
          refine ARun.qv (t_len_sl rfl) rfl ?_
          refine ARun.qv (q_subw rfl rfl) rfl ?_
          refine ARun.qv (q_assign rfl) rfl ?_
          refine ARun.nil ?_
          refine ATodo.block ?_
          refine ATodo.seq ?_
          refine ATodo.region ?_
          refine ARun.qv (n_field_ptr rfl rfl) rfl ?_
          refine ARun.qv (q_load_ptr rfl rfl .here rfl) rfl ?_
          refine ARun.qv (q_move rfl) rfl ?_
          refine ARun.qv (q_move rfl) rfl ?_
          refine r_callp rfl (base_Out_c rfl) (CoL.refl _) rfl ?_
          refine ARun.qv (q_not rfl) rfl ?_
          refine ARun.qv (q_assign rfl) rfl ?_
          refine ARun.nil ?_
          refine ATodo.cut (fun σ' => ∃ (b16 : Bk) (l17 : List Window), series_Beyond_j1 n12 l17 = some z1 ∧ σ' = ⟨71, [(2, I p2x0), (3, I p3x0), (11, .sl 2 b16 0 l17.length), (26, .sl 3 b6 0 v5.length), (27, I (v5.length : Int)), (28, I n12)], [(b16, .arr 2 (l17.map Window.av)), (b6, .arr 3 (v5.map Series_span.av))]⟩) ?_ ?_
          · refine ATodo.cond rfl (fun hc => ?_) (fun hc => ?_)
            · replace h := iteT hc h
              refine ATodo.skip ?_
              refine ATodo.stop ?_
              exact ImpX.lessP (by exact ⟨rfl, rfl, rfl, rfl, rfl, rfl, True.intro⟩) (.cons (.next .here) (.cons (.next .here) .nil)) (ImpX.here ⟨b10, l11, h, rfl⟩)
            · replace h := iteFb hc h
              refine ATodo.seq ?_
              refine ATodo.cut (fun σ' => ∃ (c18 : Bool), series_Beyond_j2 l11 n12 v14 c18 = some z1 ∧ σ' = ⟨71, [(2, I p2x0), (3, I p3x0), (11, .sl 2 b10 0 l11.length), (13, .ptr b15 0), (14, I (w64 ((l11.length : Int) - (1 : Int)))), (26, .sl 3 b6 0 v5.length), (27, I (v5.length : Int)), (28, I n12), (50, .bool c18)], [(b10, .arr 2 (l11.map Window.av)), (b15, .cells [I v14.from_, I v14.to_, I v14.value_]), (b6, .arr 3 (v5.map Series_span.av))]⟩) ?_ ?_
              · refine ATodo.regionM (id := 13) (A := [0, 1, 3, 7, 7, 31, 63, 127, 7, 263, 1023, 2047, 4095]) 13 mixed rfl (by kernel_rfl) (by kernel_rfl) ?_
                refine AM.qv (q_move rfl) rfl ?_
                refine AM.qv (q_geq rfl rfl) rfl ?_
                refine AM.qv (q_move rfl) rfl ?_
                refine AM.guard_dt rfl rfl rfl (fun hc => ?_) (fun hc => ?_)
                · replace h := iteT hc h
                  refine AM.qv (q_move rfl) rfl ?_
                  refine AM.guard_yes rfl rfl rfl ?_
                  refine AM.qv (q_move rfl) rfl ?_
                  refine AM.guard_yes rfl rfl rfl ?_
                  obtain ⟨v19, e4, h⟩ := bnd h
                  refine AM.qv (t_index_sl rfl rfl rfl e4) rfl ?_
                  refine AM.guard_yes rfl rfl rfl ?_
                  refine AM.qv (t_field_aptr rfl rfl) rfl ?_
                  refine AM.guard_yes rfl rfl rfl ?_
                  refine AM.qv (t_load_aptr (g := Window.av) rfl rfl (.inl (.next .here)) e4 rfl) rfl ?_
                  refine AM.guard_yes rfl rfl rfl ?_
                  refine AM.qv (n_field_ptr rfl rfl) rfl ?_
                  refine AM.guard_yes rfl rfl rfl ?_
                  refine AM.qv (q_load_ptr rfl rfl .here rfl) rfl ?_
                  refine AM.guard_yes rfl rfl rfl ?_
                  refine AM.qv (q_eql rfl rfl) rfl ?_
                  refine AM.qv (q_pick_t rfl rfl) rfl ?_
                  refine AM.qv (q_assign rfl) rfl ?_
                  refine AM.nil ?_
                  refine ARun.nil ?_
                  refine ATodo.stop ?_
                  exact ImpX.lessP (by exact ⟨rfl, rfl, rfl, rfl, rfl, rfl, rfl, rfl, rfl, True.intro⟩) (.cons (.next .here) (.cons .here (.cons .here .nil))) (ImpX.here ⟨decide (v19.To = v14.from_), h, rfl⟩)
                · replace h := iteF hc h
                  refine AM.guard_no rfl rfl rfl rfl ?_
                  refine AM.guard_no rfl rfl rfl rfl ?_
                  refine AM.guard_no rfl rfl rfl rfl ?_
                  refine AM.guard_no rfl rfl rfl rfl ?_
                  refine AM.guard_no rfl rfl rfl rfl ?_
                  refine AM.guard_no rfl rfl rfl rfl ?_
                  refine AM.guard_no rfl rfl rfl rfl ?_
                  refine AM.qv (q_pick_f rfl rfl) rfl ?_
                  refine AM.qv (q_assign rfl) rfl ?_
                  refine AM.nil ?_
                  refine ARun.nil ?_
                  refine ATodo.stop ?_
                  exact ImpX.lessP (by exact ⟨rfl, rfl, rfl, rfl, rfl, rfl, rfl, rfl, rfl, True.intro⟩) (.cons (.next .here) (.cons .here (.cons .here .nil))) (ImpX.here ⟨false, h, rfl⟩)
              · rintro σ' ⟨c18, h, rfl⟩
                unfold series_Beyond_j2 at h
                refine ATodo.cut (fun σ' => ∃ (b20 : Bk) (l21 : List Window), series_Beyond_j3 n12 l21 = some z1 ∧ σ' = ⟨71, [(2, I p2x0), (3, I p3x0), (11, .sl 2 b20 0 l21.length), (26, .sl 3 b6 0 v5.length), (27, I (v5.length : Int)), (28, I n12)], [(b20, .arr 2 (l21.map Window.av)), (b6, .arr 3 (v5.map Series_span.av))]⟩) ?_ ?_
                · refine ATodo.cond rfl (fun hc => ?_) (fun hc => ?_)
                  · replace h := iteT hc h
                    refine ATodo.region ?_
                    refine ARun.qv (q_move rfl) rfl ?_
                    refine ARun.qv (q_move rfl) rfl ?_
                    refine ARun.qv (n_field_ptr rfl rfl) rfl ?_
                    refine ARun.qv (q_load_ptr rfl rfl (.next .here) rfl) rfl ?_
                    obtain ⟨v22, e5, h⟩ := bnd h
                    refine ARun.qv (t_index_sl rfl rfl rfl e5) rfl ?_
                    refine ARun.qv (t_field_aptr rfl rfl) rfl ?_
                    refine t_store_aptr1 (g := Window.av) (el' := (⟨v22.From, v14.to_⟩ : Window)) rfl rfl rfl rfl e5 rfl .here rfl ?_
                    refine ARun.ghost (ImpX.eqs (s := 11) (av' := .sl 2 b10 0 (l11.set (w64 ((l11.length : Int) - (1 : Int))).toNat (⟨v22.From, v14.to_⟩ : Window)).length) rfl (by rw [List.length_set]) (ImpX.here ?_))
                    refine ARun.ghost (ImpX.eqs (s := 63) (av' := .sl 2 b10 0 (l11.set (w64 ((l11.length : Int) - (1 : Int))).toNat (⟨v22.From, v14.to_⟩ : Window)).length) rfl (by rw [List.length_set]) (ImpX.here ?_))
                    refine ARun.nil ?_
                    refine ATodo.stop ?_
                    exact ImpX.lessP (by exact ⟨rfl, rfl, rfl, rfl, rfl, rfl, True.intro⟩) (.cons .here (.cons (.next .here) .nil)) (ImpX.here ⟨b10, l11.set (w64 ((l11.length : Int) - (1 : Int))).toNat (⟨v22.From, v14.to_⟩ : Window), h, rfl⟩)
                  · replace h := iteFb hc h
                    refine ATodo.region ?_
                    refine ARun.qv (q_move rfl) rfl ?_
                    refine ARun.qv (n_field_ptr rfl rfl) rfl ?_
                    refine ARun.qv (q_load_ptr rfl rfl (.next .here) rfl) rfl ?_
                    refine ARun.qv (n_field_ptr rfl rfl) rfl ?_
                    refine ARun.qv (q_load_ptr rfl rfl (.next .here) rfl) rfl ?_
                    refine ARun.qv (n_build rfl rfl rfl rfl rfl) rfl ?_
                    refine n_buildSliceL (xs := ([(⟨v14.from_, v14.to_⟩ : Window)]).map Window.av) rfl rfl rfl rfl rfl rfl ?_
                    obtain ⟨l23, e6, h⟩ := bnd h
                    refine t_append (g := Window.av) rfl rfl rfl rfl rfl rfl rfl rfl (.list _) e6 (fun _ => .here) rfl (fun b24 => ?_)
                    refine ARun.qv (q_assign rfl) rfl ?_
                    refine ARun.nil ?_
                    refine ATodo.stop ?_
                    exact ImpX.lessP (by exact ⟨rfl, rfl, rfl, rfl, rfl, rfl, True.intro⟩) (.cons .here (.cons (.next .here) .nil)) (ImpX.here ⟨b24, l23, h, rfl⟩)
                · rintro σ' ⟨b20, l21, h, rfl⟩
                  unfold series_Beyond_j3 at h
                  refine ATodo.stop ?_
                  exact ImpX.lessP (by exact ⟨rfl, rfl, rfl, rfl, rfl, rfl, True.intro⟩) (.cons .here (.cons .here .nil)) (ImpX.here ⟨b20, l21, h, rfl⟩)
          · rintro σ' ⟨b16, l17, h, rfl⟩
            unfold series_Beyond_j1 at h
            refine ATodo.blk ?_
            refine ATodo.blk ?_
            refine ATodo.region ?_
            refine ARun.qv (q_addw rfl rfl) rfl ?_
            refine ARun.qv (q_move rfl) rfl ?_
            refine ARun.nil ?_
            refine ATodo.stop ?_
            obtain rfl := Option.some.inj h
            refine hJ1 _ _ rfl ?_
            exact ImpX.lessP (by exact ⟨rfl, rfl, rfl, rfl, rfl, rfl, True.intro⟩) (.cons .here (.cons .here .nil)) (ImpX.here ⟨b16, rfl⟩)
        · replace h := iteF hc h
          refine ATodo.exit rfl ?_
          replace h := outL h hA1
          refine ATodo.seq ?_
          refine ATodo.region ?_
          refine ARun.qv (q_move rfl) rfl ?_
          refine ARun.qv (q_assign rfl) rfl ?_
          refine ARun.qv (q_assign rfl) rfl ?_
          refine ARun.nil ?_
          refine ATodo.ret ?_
          obtain rfl := Option.some.inj h
          exact ImpX.here ⟨_, .cons (.tmp _ _ rfl) (.cons (.tmp _ _ rfl) .nil), _, .cons .here .nil, ⟨b10, rfl, rfl⟩⟩

set_option maxHeartbeats 4000000 in
theorem Q_in_c {p0x0 : Int} {p1x0 : Int} {p2x0 : Int} {r : Bool} (h : Q_in p0x0 p1x0 p2x0 = r) : Pu Try.prog 98 [I p0x0, I p1x0, I p2x0] (.bool r) := by
  unfold Q_in at h
  refine ACall.bodyN Try.func98 rfl Try.ntmps98 Try.results98 rfl rfl ?_
  refine ATodo.seq ?_
  refine ATodo.region ?_
  refine ARun.qv (q_assign rfl) rfl ?_
  refine ARun.nil ?_
  refine ATodo.seq ?_
  refine ATodo.cut (fun σ' => ∃ (c1 : Bool), Q_in_j1 c1 = r ∧ σ' = ⟨15, [(6, .bool c1)], []⟩) ?_ ?_
  · refine ATodo.region ?_
    refine ARun.qv (q_move rfl) rfl ?_
    refine ARun.qv (q_move rfl) rfl ?_
    refine ARun.qv (q_leq rfl rfl) rfl ?_
    refine ARun.qv (q_move rfl) rfl ?_
    refine ARun.guard_dt rfl rfl rfl (fun hc => ?_) (fun hc => ?_)
    · rw [andTd hc] at h
      refine ARun.qv (q_move rfl) rfl ?_
      refine ARun.guard_yes rfl rfl rfl ?_
      refine ARun.qv (q_move rfl) rfl ?_
      refine ARun.guard_yes rfl rfl rfl ?_
      refine ARun.qv (q_leq rfl rfl) rfl ?_
      refine ARun.qv (q_pick_t rfl rfl) rfl ?_
      refine ARun.qv (q_assign rfl) rfl ?_
      refine ARun.nil ?_
      refine ATodo.stop ?_
      exact ImpX.lessP (by exact ⟨rfl, True.intro⟩) (.nil) (ImpX.here ⟨decide (p0x0 ≤ p2x0), h, rfl⟩)
    · rw [andFd hc] at h
      refine ARun.guard_no rfl rfl rfl rfl ?_
      refine ARun.guard_no rfl rfl rfl rfl ?_
      refine ARun.qv (q_pick_f rfl rfl) rfl ?_
      refine ARun.qv (q_assign rfl) rfl ?_
      refine ARun.nil ?_
      refine ATodo.stop ?_
      exact ImpX.lessP (by exact ⟨rfl, True.intro⟩) (.nil) (ImpX.here ⟨false, h, rfl⟩)
  · rintro σ' ⟨c1, h, rfl⟩
    unfold Q_in_j1 at h
    refine ATodo.ret ?_
    obtain rfl := h
    exact ImpX.here ⟨_, .cons (.tmp _ _ rfl) .nil, rfl⟩

set_option maxHeartbeats 4000000 in
theorem Q_only_c {p0x0 : Str} {p1x0 : Str} {r : Bool} (h : Q_only p0x0 p1x0 = some r) : Pu Try.prog 129 [.str p0x0, .str p1x0] (.bool r) := by
  unfold Q_only at h
  refine ACall.bodyN Try.func129 rfl Try.ntmps129 Try.results129 rfl rfl ?_
  refine ATodo.seq ?_
  refine ATodo.region ?_
  refine ARun.qv (q_assign rfl) rfl ?_
  refine ARun.nil ?_
  refine ATodo.seq ?_
  refine ATodo.seq ?_
  refine ATodo.region ?_
  refine ARun.qv (q_move rfl) rfl ?_
  refine ARun.qv (q_len_str rfl) rfl ?_
  refine ARun.qv (q_move rfl) rfl ?_
  refine ARun.nil ?_
  refine ATodo.block ?_
  refine ATodo.loopI (fun x : Int => Q_only_b1 p0x0 p1x0 x) (fun x σ' => σ' = ⟨18, [(0, .str p0x0), (1, .str p1x0), (7, I (p0x0.length : Int)), (8, I x)], []⟩) h ?_ ?_
  · exact ImpX.lessP (by exact ⟨rfl, rfl, rfl, rfl, True.intro⟩) (.nil) (ImpX.here rfl)
  · intro n2 z1 σ' J1 hmk h hJ1 hA1
    obtain rfl := hmk
    replace h : Q_only_b1 p0x0 p1x0 n2 = some z1 := h
    unfold Q_only_b1 at h
    refine ATodo.seq ?_
    refine ATodo.region ?_
    refine ARun.qv (q_lss rfl rfl) rfl ?_
    refine ARun.nil ?_
    refine ATodo.seq ?_
    refine ATodo.cond_d rfl (fun hc => ?_) (fun hc => ?_)
    · replace h := iteT hc h
      refine ATodo.skip ?_
      refine ATodo.seq ?_
      refine ATodo.block ?_
      refine ATodo.seq ?_
      refine ATodo.region ?_
      refine ARun.qv (q_move rfl) rfl ?_
      refine ARun.qv (q_assign rfl) rfl ?_
      refine ARun.nil ?_
      refine ATodo.seq ?_
      refine ATodo.region ?_
      refine ARun.qv (q_move rfl) rfl ?_
      refine ARun.qv (q_move rfl) rfl ?_
      refine ARun.qv (q_move rfl) rfl ?_
      obtain ⟨c3, e1, h⟩ := bnd h
      refine ARun.qv (t_index_str rfl rfl e1) rfl ?_
      refine r_callp rfl (strings_IndexByte_c rfl) (CoL.refl _) rfl ?_
      refine ARun.qv (q_lss rfl rfl) rfl ?_
      refine ARun.nil ?_
      refine ATodo.cond_d rfl (fun hc => ?_) (fun hc => ?_)
      · replace h := iteT hc h
        refine ATodo.seq ?_
        refine ATodo.region ?_
        refine ARun.qv (q_assign rfl) rfl ?_
        refine ARun.nil ?_
        refine ATodo.ret ?_
        replace h := outL h hA1
        obtain rfl := Option.some.inj h
        exact ImpX.here ⟨_, .cons (.tmp _ _ rfl) .nil, rfl⟩
      · replace h := iteF hc h
        refine ATodo.skip ?_
        refine ATodo.blk ?_
        refine ATodo.region ?_
        refine ARun.qv (q_addw rfl rfl) rfl ?_
        refine ARun.qv (q_move rfl) rfl ?_
        refine ARun.nil ?_
        refine ATodo.stop ?_
        obtain rfl := Option.some.inj h
        refine hJ1 _ _ rfl ?_
        exact ImpX.lessP (by exact ⟨rfl, rfl, rfl, rfl, True.intro⟩) (.nil) (ImpX.here rfl)
    · replace h := iteF hc h
      refine ATodo.exit rfl ?_
      replace h := outL h hA1
      refine ATodo.seq ?_
      refine ATodo.region ?_
      refine ARun.qv (q_assign rfl) rfl ?_
      refine ARun.nil ?_
      refine ATodo.ret ?_
      obtain rfl := Option.some.inj h
      exact ImpX.here ⟨_, .cons (.tmp _ _ rfl) .nil, rfl⟩

set_option maxHeartbeats 4000000 in
theorem Q_Key_c {p0x0 : Str} {r : Bool} (h : Q_Key p0x0 = some r) : Pu Try.prog 44 [.str p0x0] (.bool r) := by
  unfold Q_Key at h
  refine ACall.bodyN Try.func44 rfl Try.ntmps44 Try.results44 rfl rfl ?_
  refine ATodo.seq ?_
  refine ATodo.region ?_
  refine ARun.qv (q_assign rfl) rfl ?_
  refine ARun.nil ?_
  refine ATodo.seq ?_
  refine ATodo.cut (fun σ' => ∃ (c1 : Bool), Q_Key_j1 c1 = some r ∧ σ' = ⟨15, [(2, .bool c1)], []⟩) ?_ ?_
  · refine ATodo.region ?_
    refine ARun.qv (q_move rfl) rfl ?_
    refine ARun.qv (q_len_str rfl) rfl ?_
    refine r_callp rfl (Q_in_c rfl) (CoL.refl _) rfl ?_
    refine ARun.qv (q_move rfl) rfl ?_
    refine ARun.guard rfl rfl rfl (fun hc => ?_) (fun hc => ?_)
    · replace h := iteT hc h
      refine ARun.qv (q_move rfl) rfl ?_
      refine ARun.guard_yes rfl rfl rfl ?_
      obtain ⟨l2, e1, h⟩ := bnd h
      refine ARun.qv (t_slice_str rfl .none (.some _ _ _ rfl) rfl rfl e1) rfl ?_
      refine ARun.guard_yes rfl rfl rfl ?_
      obtain ⟨v3, e2, h⟩ := bnd h
      refine r_callp rfl (Q_only_c e2) (CoL.refl _) rfl ?_
      refine ARun.qv (q_pick_t rfl rfl) rfl ?_
      refine ARun.qv (q_move rfl) rfl ?_
      refine ARun.guard rfl rfl rfl (fun hc => ?_) (fun hc => ?_)
      · replace h := iteT hc h
        refine ARun.qv (q_move rfl) rfl ?_
        refine ARun.guard_yes rfl rfl rfl ?_
        obtain ⟨v4, e3, h⟩ := bnd h
        refine r_callp rfl (Q_only_c e3) (CoL.refl _) rfl ?_
        refine ARun.qv (q_pick_t rfl rfl) rfl ?_
        refine ARun.qv (q_assign rfl) rfl ?_
        refine ARun.nil ?_
        refine ATodo.stop ?_
        exact ImpX.lessP (by exact ⟨rfl, True.intro⟩) (.nil) (ImpX.here ⟨v4, h, rfl⟩)
      · replace h := iteFb hc h
        refine ARun.guard_no rfl rfl rfl rfl ?_
        refine ARun.qv (q_pick_f rfl rfl) rfl ?_
        refine ARun.qv (q_assign rfl) rfl ?_
        refine ARun.nil ?_
        refine ATodo.stop ?_
        exact ImpX.lessP (by exact ⟨rfl, True.intro⟩) (.nil) (ImpX.here ⟨false, h, rfl⟩)
    · replace h := iteFb hc h
      refine ARun.guard_no rfl rfl rfl rfl ?_
      refine ARun.guard_no rfl rfl rfl rfl ?_
      refine ARun.qv (q_pick_f rfl rfl) rfl ?_
      refine ARun.qv (q_move rfl) rfl ?_
      refine ARun.guard_no rfl rfl rfl rfl ?_
      refine ARun.guard_no rfl rfl rfl rfl ?_
      refine ARun.qv (q_pick_f rfl rfl) rfl ?_
      refine ARun.qv (q_assign rfl) rfl ?_
      refine ARun.nil ?_
      refine ATodo.stop ?_
      exact ImpX.lessP (by exact ⟨rfl, True.intro⟩) (.nil) (ImpX.here ⟨false, h, rfl⟩)
  · rintro σ' ⟨c1, h, rfl⟩
    unfold Q_Key_j1 at h
    refine ATodo.ret ?_
    obtain rfl := Option.some.inj h
    exact ImpX.here ⟨_, .cons (.tmp _ _ rfl) .nil, rfl⟩

set_option maxHeartbeats 4000000 in
theorem Q_Moment_c {p0x0 : Int} {r : Bool} (h : Q_Moment p0x0 = r) : Pu Try.prog 99 [I p0x0] (.bool r) := by
  unfold Q_Moment at h
  refine ACall.bodyN Try.func99 rfl Try.ntmps99 Try.results99 rfl rfl ?_
  refine ATodo.seq ?_
  refine ATodo.region ?_
  refine ARun.qv (q_assign rfl) rfl ?_
  refine ARun.nil ?_
  refine ATodo.seq ?_
  refine ATodo.region ?_
  refine ARun.qv (q_move rfl) rfl ?_
  refine r_callp rfl (Q_in_c rfl) (CoL.refl _) rfl ?_
  refine ARun.qv (q_assign rfl) rfl ?_
  refine ARun.nil ?_
  refine ATodo.ret ?_
  obtain rfl := h
  exact ImpX.here ⟨_, .cons (.tmp _ _ rfl) .nil, rfl⟩

set_option maxHeartbeats 4000000 in
theorem cmp_isNaN_string_c {p0x0 : Str} {r : Bool} (h : cmp_isNaN_string p0x0 = r) : Pu Try.prog 288 [.str p0x0] (.bool r) := by
  unfold cmp_isNaN_string at h
  refine ACall.bodyN Try.func288 rfl Try.ntmps288 Try.results288 rfl rfl ?_
  refine ATodo.seq ?_
  refine ATodo.region ?_
  refine ARun.qv (q_assign rfl) rfl ?_
  refine ARun.nil ?_
  refine ATodo.seq ?_
  refine ATodo.region ?_
  refine ARun.qv (q_move rfl) rfl ?_
  refine ARun.qv (q_move rfl) rfl ?_
  refine ARun.qv (q_sne rfl rfl) rfl ?_
  refine ARun.qv (q_assign rfl) rfl ?_
  refine ARun.nil ?_
  refine ATodo.ret ?_
  obtain rfl := h
  exact ImpX.here ⟨_, .cons (.tmp _ _ rfl) .nil, rfl⟩

set_option maxHeartbeats 4000000 in
theorem cmp_Compare_string_c {p0x0 : Str} {p1x0 : Str} {r : Int} (h : cmp_Compare_string p0x0 p1x0 = r) : Pu Try.prog 260 [.str p0x0, .str p1x0] (I r) := by
  unfold cmp_Compare_string at h
  refine ACall.bodyN Try.func260 rfl Try.ntmps260 Try.results260 rfl rfl ?_
  refine ATodo.seq ?_
  refine ATodo.region ?_
  refine ARun.qv (q_assign rfl) rfl ?_
  refine ARun.nil ?_
  refine ATodo.seq ?_
  refine ATodo.region ?_
  refine ARun.qv (q_move rfl) rfl ?_
  refine r_callp rfl (cmp_isNaN_string_c rfl) (CoL.refl _) rfl ?_
  refine ARun.qv (q_assign rfl) rfl ?_
  refine ARun.nil ?_
  refine ATodo.seq ?_
  refine ATodo.region ?_
  refine ARun.qv (q_move rfl) rfl ?_
  refine r_callp rfl (cmp_isNaN_string_c rfl) (CoL.refl _) rfl ?_
  refine ARun.qv (q_assign rfl) rfl ?_
  refine ARun.nil ?_
  refine ATodo.seq ?_
  refine ATodo.seq ?_
  refine ATodo.region ?_
  refine ARun.qv (q_move rfl) rfl ?_
  refine ARun.nil ?_
  refine ATodo.cond rfl (fun hc => ?_) (fun hc => ?_)
  · replace h := iteT hc h
    refine ATodo.seq ?_
    refine ATodo.seq ?_
    refine ATodo.region ?_
    refine ARun.qv (q_move rfl) rfl ?_
    refine ARun.nil ?_
    refine ATodo.cond rfl (fun hc => ?_) (fun hc => ?_)
    · replace h := iteT hc h
      refine ATodo.seq ?_
      refine ATodo.region ?_
      refine ARun.qv (q_assign rfl) rfl ?_
      refine ARun.nil ?_
      refine ATodo.ret ?_
      obtain rfl := h
      exact ImpX.here ⟨_, .cons (.tmp _ _ rfl) .nil, rfl⟩
    · replace h := iteFb hc h
      refine ATodo.skip ?_
      refine ATodo.seq ?_
      refine ATodo.region ?_
      refine ARun.qv (q_assign rfl) rfl ?_
      refine ARun.nil ?_
      refine ATodo.ret ?_
      obtain rfl := h
      exact ImpX.here ⟨_, .cons (.tmp _ _ rfl) .nil, rfl⟩
  · replace h := iteFb hc h
    refine ATodo.skip ?_
    refine ATodo.seq ?_
    refine ATodo.seq ?_
    refine ATodo.region ?_
    refine ARun.qv (q_move rfl) rfl ?_
    refine ARun.nil ?_
    refine ATodo.cond rfl (fun hc => ?_) (fun hc => ?_)
    · replace h := iteT hc h
      refine ATodo.seq ?_
      refine ATodo.region ?_
      refine ARun.qv (q_assign rfl) rfl ?_
      refine ARun.nil ?_
      refine ATodo.ret ?_
      obtain rfl := h
      exact ImpX.here ⟨_, .cons (.tmp _ _ rfl) .nil, rfl⟩
    · replace h := iteFb hc h
      refine ATodo.skip ?_
      refine ATodo.seq ?_
      refine ATodo.seq ?_
      refine ATodo.region ?_
      refine ARun.qv (q_move rfl) rfl ?_
      refine ARun.qv (q_move rfl) rfl ?_
      refine ARun.qv (t_slss rfl rfl) rfl ?_
      refine ARun.nil ?_
      refine ATodo.cond rfl (fun hc => ?_) (fun hc => ?_)
      · replace h := iteT hc h
        refine ATodo.seq ?_
        refine ATodo.region ?_
        refine ARun.qv (q_assign rfl) rfl ?_
        refine ARun.nil ?_
        refine ATodo.ret ?_
        obtain rfl := h
        exact ImpX.here ⟨_, .cons (.tmp _ _ rfl) .nil, rfl⟩
      · replace h := iteFb hc h
        refine ATodo.skip ?_
        refine ATodo.seq ?_
        refine ATodo.seq ?_
        refine ATodo.region ?_
        refine ARun.qv (q_move rfl) rfl ?_
        refine ARun.qv (q_move rfl) rfl ?_
        refine ARun.qv (t_sgtr rfl rfl) rfl ?_
        refine ARun.nil ?_
        refine ATodo.cond rfl (fun hc => ?_) (fun hc => ?_)
        · replace h := iteT hc h
          refine ATodo.seq ?_
          refine ATodo.region ?_
          refine ARun.qv (q_assign rfl) rfl ?_
          refine ARun.nil ?_
          refine ATodo.ret ?_
          obtain rfl := h
          exact ImpX.here ⟨_, .cons (.tmp _ _ rfl) .nil, rfl⟩
        · replace h := iteFb hc h
          refine ATodo.skip ?_
          refine ATodo.seq ?_
          refine ATodo.region ?_
          refine ARun.qv (q_assign rfl) rfl ?_
          refine ARun.nil ?_
          refine ATodo.ret ?_
          obtain rfl := h
          exact ImpX.here ⟨_, .cons (.tmp _ _ rfl) .nil, rfl⟩

set_option maxHeartbeats 4000000 in
theorem slices_Compare_string_string_c {p0x0 : List Str} {p1x0 : List Str} {r : Int} (h : slices_Compare_string_string p0x0 p1x0 = some r) : Pu Try.prog 222 [.list 1 (p0x0.map AV.str), .list 1 (p1x0.map AV.str)] (I r) := by
  unfold slices_Compare_string_string at h
  refine ACall.bodyN Try.func222 rfl Try.ntmps222 Try.results222 rfl rfl ?_
  refine ATodo.seq ?_
  refine ATodo.region ?_
  refine ARun.qv (q_assign rfl) rfl ?_
  refine ARun.nil ?_
  refine ATodo.seq ?_
  refine ATodo.seq ?_
  refine ATodo.region ?_
  refine ARun.qv (q_move rfl) rfl ?_
  refine ARun.qv (t_len rfl) rfl ?_
  refine ARun.qv (q_move rfl) rfl ?_
  refine ARun.nil ?_
  refine ATodo.block ?_
  refine ATodo.loopI (fun x : Int => slices_Compare_string_string_b1 p0x0 p1x0 x) (fun x σ' => σ' = ⟨36, [(0, .list 1 (p0x0.map AV.str)), (1, .list 1 (p1x0.map AV.str)), (9, .list 1 (p0x0.map AV.str)), (10, I (p0x0.length : Int)), (11, I x)], []⟩) h ?_ ?_
  · exact ImpX.lessP (by exact ⟨rfl, rfl, rfl, rfl, rfl, True.intro⟩) (.nil) (ImpX.here rfl)
  · intro n2 z1 σ' J1 hmk h hJ1 hA1
    obtain rfl := hmk
    replace h : slices_Compare_string_string_b1 p0x0 p1x0 n2 = some z1 := h
    unfold slices_Compare_string_string_b1 at h
    refine ATodo.seq ?_
    refine ATodo.region ?_
    refine ARun.qv (q_lss rfl rfl) rfl ?_
    refine ARun.nil ?_
    refine ATodo.seq ?_
    refine ATodo.cond_d rfl (fun hc => ?_) (fun hc => ?_)
    · replace h := iteT hc h
      refine ATodo.skip ?_
      refine ATodo.seq ?_
      refine ATodo.block ?_
      refine ATodo.seq ?_
      refine ATodo.region ?_
      refine ARun.qv (q_move rfl) rfl ?_
      obtain ⟨v3, e1, h⟩ := bnd h
      refine ARun.qv (t_index rfl rfl rfl e1 rfl rfl) rfl ?_
      refine ARun.qv (q_load_rptr rfl rfl rfl) rfl ?_
      refine ARun.qv (q_assign rfl) rfl ?_
      refine ARun.qv (q_assign rfl) rfl ?_
      refine ARun.nil ?_
      refine ATodo.seq ?_
      refine ATodo.seq ?_
      refine ATodo.region ?_
      refine ARun.qv (q_move rfl) rfl ?_
      refine ARun.qv (q_move rfl) rfl ?_
      refine ARun.qv (t_len rfl) rfl ?_
      refine ARun.qv (q_geq rfl rfl) rfl ?_
      refine ARun.nil ?_
      refine ATodo.cond_d rfl (fun hc => ?_) (fun hc => ?_)
      · replace h := iteT hc h
        refine ATodo.seq ?_
        refine ATodo.region ?_
        refine ARun.qv (q_assign rfl) rfl ?_
        refine ARun.nil ?_
        refine ATodo.ret ?_
        replace h := outL h hA1
        obtain rfl := Option.some.inj h
        exact ImpX.here ⟨_, .cons (.tmp _ _ rfl) .nil, rfl⟩
      · replace h := iteF hc h
        refine ATodo.skip ?_
        refine ATodo.seq ?_
        refine ATodo.region ?_
        refine ARun.qv (q_move rfl) rfl ?_
        refine ARun.qv (q_move rfl) rfl ?_
        obtain ⟨v4, e2, h⟩ := bnd h
        refine ARun.qv (t_index rfl rfl rfl e2 rfl rfl) rfl ?_
        refine ARun.qv (q_load_rptr rfl rfl rfl) rfl ?_
        refine ARun.qv (q_assign rfl) rfl ?_
        refine ARun.nil ?_
        refine ATodo.seq ?_
        refine ATodo.region ?_
        refine ARun.qv (q_move rfl) rfl ?_
        refine ARun.qv (q_move rfl) rfl ?_
        refine r_callp rfl (cmp_Compare_string_c rfl) (CoL.refl _) rfl ?_
        refine ARun.qv (q_assign rfl) rfl ?_
        refine ARun.nil ?_
        refine ATodo.seq ?_
        refine ATodo.region ?_
        refine ARun.qv (q_move rfl) rfl ?_
        refine ARun.qv (q_neq rfl rfl) rfl ?_
        refine ARun.nil ?_
        refine ATodo.cond_d rfl (fun hc => ?_) (fun hc => ?_)
        · replace h := iteT hc h
          refine ATodo.seq ?_
          refine ATodo.region ?_
          refine ARun.qv (q_move rfl) rfl ?_
          refine ARun.qv (q_assign rfl) rfl ?_
          refine ARun.nil ?_
          refine ATodo.ret ?_
          replace h := outL h hA1
          obtain rfl := Option.some.inj h
          exact ImpX.here ⟨_, .cons (.tmp _ _ rfl) .nil, rfl⟩
        · replace h := iteF hc h
          refine ATodo.skip ?_
          refine ATodo.blk ?_
          refine ATodo.region ?_
          refine ARun.qv (q_addw rfl rfl) rfl ?_
          refine ARun.qv (q_move rfl) rfl ?_
          refine ARun.nil ?_
          refine ATodo.stop ?_
          obtain rfl := Option.some.inj h
          refine hJ1 _ _ rfl ?_
          exact ImpX.lessP (by exact ⟨rfl, rfl, rfl, rfl, rfl, True.intro⟩) (.nil) (ImpX.here rfl)
    · replace h := iteF hc h
      refine ATodo.exit rfl ?_
      replace h := outL h hA1
      unfold slices_Compare_string_string_k1 at h
      refine ATodo.seq ?_
      refine ATodo.seq ?_
      refine ATodo.region ?_
      refine ARun.qv (q_move rfl) rfl ?_
      refine ARun.qv (t_len rfl) rfl ?_
      refine ARun.qv (q_move rfl) rfl ?_
      refine ARun.qv (t_len rfl) rfl ?_
      refine ARun.qv (q_lss rfl rfl) rfl ?_
      refine ARun.nil ?_
      refine ATodo.cond_d rfl (fun hc => ?_) (fun hc => ?_)
      · replace h := iteT hc h
        refine ATodo.seq ?_
        refine ATodo.region ?_
        refine ARun.qv (q_assign rfl) rfl ?_
        refine ARun.nil ?_
        refine ATodo.ret ?_
        obtain rfl := Option.some.inj h
        exact ImpX.here ⟨_, .cons (.tmp _ _ rfl) .nil, rfl⟩
      · replace h := iteF hc h
        refine ATodo.skip ?_
        refine ATodo.seq ?_
        refine ATodo.region ?_
        refine ARun.qv (q_assign rfl) rfl ?_
        refine ARun.nil ?_
        refine ATodo.ret ?_
        obtain rfl := Option.some.inj h
        exact ImpX.here ⟨_, .cons (.tmp _ _ rfl) .nil, rfl⟩

set_option maxHeartbeats 4000000 in
theorem Q_sign_c {p0x0 : Int} {r : Int} (h : Q_sign p0x0 = r) : Pu Try.prog 190 [I p0x0] (I r) := by
  unfold Q_sign at h
  refine ACall.bodyN Try.func190 rfl Try.ntmps190 Try.results190 rfl rfl ?_
  refine ATodo.seq ?_
  refine ATodo.region ?_
  refine ARun.qv (q_assign rfl) rfl ?_
  refine ARun.nil ?_
  refine ATodo.seq ?_
  refine ATodo.block ?_
  refine ATodo.seq ?_
  refine ATodo.region ?_
  refine ARun.qv (q_move rfl) rfl ?_
  refine ARun.qv (q_lss rfl rfl) rfl ?_
  refine ARun.qv (q_assign rfl) rfl ?_
  refine ARun.nil ?_
  refine ATodo.cond_d rfl (fun hc => ?_) (fun hc => ?_)
  · replace h := iteT hc h
    refine ATodo.seq ?_
    refine ATodo.region ?_
    refine ARun.qv (q_assign rfl) rfl ?_
    refine ARun.nil ?_
    refine ATodo.ret ?_
    obtain rfl := h
    exact ImpX.here ⟨_, .cons (.tmp _ _ rfl) .nil, rfl⟩
  · replace h := iteF hc h
    refine ATodo.seq ?_
    refine ATodo.region ?_
    refine ARun.qv (q_move rfl) rfl ?_
    refine ARun.qv (q_gtr rfl rfl) rfl ?_
    refine ARun.qv (q_assign rfl) rfl ?_
    refine ARun.nil ?_
    refine ATodo.cond_d rfl (fun hc => ?_) (fun hc => ?_)
    · replace h := iteT hc h
      refine ATodo.seq ?_
      refine ATodo.region ?_
      refine ARun.qv (q_assign rfl) rfl ?_
      refine ARun.nil ?_
      refine ATodo.ret ?_
      obtain rfl := h
      exact ImpX.here ⟨_, .cons (.tmp _ _ rfl) .nil, rfl⟩
    · replace h := iteF hc h
      refine ATodo.skip ?_
      refine ATodo.blk ?_
      refine ATodo.seq ?_
      refine ATodo.region ?_
      refine ARun.qv (q_assign rfl) rfl ?_
      refine ARun.nil ?_
      refine ATodo.ret ?_
      obtain rfl := h
      exact ImpX.here ⟨_, .cons (.tmp _ _ rfl) .nil, rfl⟩

set_option maxHeartbeats 4000000 in
theorem Q_SampleOrder_c {p0x0 : Sample} {p1x0 : Sample} {r : Int} (h : Q_SampleOrder p0x0 p1x0 = some r) : Pu Try.prog 170 [.agg [.str p0x0.Device, .str p0x0.Metric, I p0x0.At, I p0x0.Value], .agg [.str p1x0.Device, .str p1x0.Metric, I p1x0.At, I p1x0.Value]] (I r) := by
  unfold Q_SampleOrder at h
  refine ACall.bodyN Try.func170 rfl Try.ntmps170 Try.results170 rfl rfl ?_
  refine ATodo.seq ?_
  refine ATodo.region ?_
  refine n_box rfl rfl rfl rfl (fun b1 => ?_)
  refine n_box rfl rfl rfl rfl (fun b2 => ?_)
  refine ARun.qv (q_assign rfl) rfl ?_
  refine ARun.nil ?_
  refine ATodo.seq ?_
  refine ATodo.seq ?_
  refine ATodo.region ?_
  refine ARun.qv (n_field_ptr rfl rfl) rfl ?_
  refine ARun.qv (q_load_ptr rfl rfl (.next .here) rfl) rfl ?_
  refine ARun.qv (n_field_ptr rfl rfl) rfl ?_
  refine ARun.qv (q_load_ptr rfl rfl (.next .here) rfl) rfl ?_
  refine n_buildSliceL (xs := ([p0x0.Device, p0x0.Metric] : List Str).map AV.str) rfl rfl rfl rfl rfl rfl ?_
  refine ARun.qv (n_field_ptr rfl rfl) rfl ?_
  refine ARun.qv (q_load_ptr rfl rfl .here rfl) rfl ?_
  refine ARun.qv (n_field_ptr rfl rfl) rfl ?_
  refine ARun.qv (q_load_ptr rfl rfl .here rfl) rfl ?_
  refine n_buildSliceL (xs := ([p1x0.Device, p1x0.Metric] : List Str).map AV.str) rfl rfl rfl rfl rfl rfl ?_
  obtain ⟨v3, e1, h⟩ := bnd h
  refine r_callp rfl (slices_Compare_string_string_c e1) (CoL.refl _) rfl ?_
  refine ARun.qv (q_assign rfl) rfl ?_
  refine ARun.nil ?_
  refine ATodo.seq ?_
  refine ATodo.region ?_
  refine ARun.qv (q_move rfl) rfl ?_
  refine ARun.qv (q_neq rfl rfl) rfl ?_
  refine ARun.nil ?_
  refine ATodo.cond_d rfl (fun hc => ?_) (fun hc => ?_)
  · replace h := iteT hc h
    refine ATodo.seq ?_
    refine ATodo.region ?_
    refine ARun.qv (q_move rfl) rfl ?_
    refine ARun.qv (q_assign rfl) rfl ?_
    refine ARun.nil ?_
    refine ATodo.ret ?_
    obtain rfl := Option.some.inj h
    exact ImpX.here ⟨_, .cons (.tmp _ _ rfl) .nil, rfl⟩
  · replace h := iteF hc h
    refine ATodo.skip ?_
    refine ATodo.seq ?_
    refine ATodo.region ?_
    refine ARun.qv (n_field_ptr rfl rfl) rfl ?_
    refine ARun.qv (q_load_ptr rfl rfl (.next .here) rfl) rfl ?_
    refine ARun.qv (n_field_ptr rfl rfl) rfl ?_
    refine ARun.qv (q_load_ptr rfl rfl .here rfl) rfl ?_
    refine ARun.qv (q_subw rfl rfl) rfl ?_
    refine r_callp rfl (Q_sign_c rfl) (CoL.refl _) rfl ?_
    refine ARun.qv (q_assign rfl) rfl ?_
    refine ARun.nil ?_
    refine ATodo.ret ?_
    obtain rfl := Option.some.inj h
    exact ImpX.here ⟨_, .cons (.tmp _ _ rfl) .nil, rfl⟩

set_option maxHeartbeats 4000000 in
theorem Q_SamplesFault_c {p0x0 : List Sample} {r : Int} (h : Q_SamplesFault p0x0 = some r) : Pu Try.prog 84 [.list 4 (p0x0.map Sample.av)] (I r) := by
  unfold Q_SamplesFault at h
  refine ACall.bodyN Try.func84 rfl Try.ntmps84 Try.results84 rfl rfl ?_
  refine ATodo.seq ?_
  refine ATodo.region ?_
  refine ARun.qv (q_assign rfl) rfl ?_
  refine ARun.nil ?_
  refine ATodo.seq ?_
  refine ATodo.seq ?_
  refine ATodo.region ?_
  refine ARun.qv (q_move rfl) rfl ?_
  refine ARun.qv (t_len rfl) rfl ?_
  refine ARun.qv (q_gtr rfl rfl) rfl ?_
  refine ARun.nil ?_
  refine ATodo.cond_d rfl (fun hc => ?_) (fun hc => ?_)
  · replace h := iteT hc h
    refine ATodo.seq ?_
    refine ATodo.region ?_
    refine ARun.qv (q_assign rfl) rfl ?_
    refine ARun.nil ?_
    refine ATodo.ret ?_
    obtain rfl := Option.some.inj h
    exact ImpX.here ⟨_, .cons (.tmp _ _ rfl) .nil, rfl⟩
  · replace h := iteF hc h
    refine ATodo.skip ?_
    refine ATodo.seq ?_
    refine ATodo.seq ?_
    refine ATodo.region ?_
    refine ARun.qv (q_move rfl) rfl ?_
    refine ARun.qv (t_len rfl) rfl ?_
    refine ARun.qv (q_move rfl) rfl ?_
    refine ARun.nil ?_
    refine ATodo.block ?_
    refine ATodo.loopI (fun x : Int => Q_SamplesFault_b1 p0x0 x) (fun x σ' => σ' = ⟨51, [(0, .list 4 (p0x0.map Sample.av)), (8, .list 4 (p0x0.map Sample.av)), (9, I (p0x0.length : Int)), (10, I x)], []⟩) h ?_ ?_
    · exact ImpX.lessP (by exact ⟨rfl, rfl, rfl, rfl, True.intro⟩) (.nil) (ImpX.here rfl)
    · intro n2 z1 σ' J1 hmk h hJ1 hA1
      obtain rfl := hmk
      replace h : Q_SamplesFault_b1 p0x0 n2 = some z1 := h
      unfold Q_SamplesFault_b1 at h
      refine ATodo.seq ?_
      refine ATodo.region ?_
      refine ARun.qv (q_lss rfl rfl) rfl ?_
      refine ARun.nil ?_
      refine ATodo.seq ?_
      refine ATodo.cond_d rfl (fun hc => ?_) (fun hc => ?_)
      · replace h := iteT hc h
        refine ATodo.skip ?_
        refine ATodo.seq ?_
        refine ATodo.block ?_
        refine ATodo.seq ?_
        refine ATodo.region ?_
        refine ARun.qv (q_move rfl) rfl ?_
        obtain ⟨v3, e1, h⟩ := bnd h
        refine ARun.qv (t_index rfl rfl rfl e1 rfl rfl) rfl ?_
        refine ARun.qv (q_load_rptr_agg rfl rfl rfl) rfl ?_
        refine n_alloc rfl rfl rfl rfl (fun b4 => ?_)
        refine ARun.qv (q_assign rfl) rfl ?_
        refine n_store_ptr rfl rfl rfl rfl .here rfl rfl ?_
        refine ARun.nil ?_
        refine ATodo.block ?_
        refine ATodo.seq ?_
        refine ATodo.cut (fun σ' => ∃ (c5 : Bool), Q_SamplesFault_j1 p0x0 n2 v3 c5 = some z1 ∧ σ' = ⟨51, [(0, .list 4 (p0x0.map Sample.av)), (3, I n2), (4, .ptr b4 0), (8, .list 4 (p0x0.map Sample.av)), (9, I (p0x0.length : Int)), (10, I n2), (15, .bool c5)], [(b4, .cells [.str v3.Device, .str v3.Metric, I v3.At, I v3.Value])]⟩) ?_ ?_
        · refine ATodo.region ?_
          refine ARun.qv (n_field_ptr rfl rfl) rfl ?_
          refine ARun.qv (q_load_ptr rfl rfl .here rfl) rfl ?_
          obtain ⟨v6, e2, h⟩ := bnd h
          refine r_callp rfl (Q_Key_c e2) (CoL.refl _) rfl ?_
          refine ARun.qv (q_not rfl) rfl ?_
          refine ARun.qv (q_move rfl) rfl ?_
          refine ARun.guard rfl rfl rfl (fun hc => ?_) (fun hc => ?_)
          · replace h := iteFb hc h
            refine ARun.qv (n_field_ptr rfl rfl) rfl ?_
            refine ARun.guard_yes rfl rfl rfl ?_
            refine ARun.qv (q_load_ptr rfl rfl .here rfl) rfl ?_
            refine ARun.guard_yes rfl rfl rfl ?_
            obtain ⟨v7, e3, h⟩ := bnd h
            refine r_callp rfl (Q_Key_c e3) (CoL.refl _) rfl ?_
            refine ARun.guard_yes rfl rfl rfl ?_
            refine ARun.qv (q_not rfl) rfl ?_
            refine ARun.qv (q_pick_f rfl rfl) rfl ?_
            refine ARun.qv (q_assign rfl) rfl ?_
            refine ARun.nil ?_
            refine ATodo.stop ?_
            exact ImpX.lessP (by exact ⟨rfl, rfl, rfl, rfl, rfl, rfl, rfl, True.intro⟩) (.cons .here .nil) (ImpX.here ⟨!v7, h, rfl⟩)
          · replace h := iteT hc h
            refine ARun.guard_no rfl rfl rfl rfl ?_
            refine ARun.guard_no rfl rfl rfl rfl ?_
            refine ARun.guard_no rfl rfl rfl rfl ?_
            refine ARun.qv (q_pick_t rfl rfl) rfl ?_
            refine ARun.qv (q_assign rfl) rfl ?_
            refine ARun.nil ?_
            refine ATodo.stop ?_
            exact ImpX.lessP (by exact ⟨rfl, rfl, rfl, rfl, rfl, rfl, rfl, True.intro⟩) (.cons .here .nil) (ImpX.here ⟨true, h, rfl⟩)
        · rintro σ' ⟨c5, h, rfl⟩
          unfold Q_SamplesFault_j1 at h
          refine ATodo.cond rfl (fun hc => ?_) (fun hc => ?_)
          · replace h := iteT hc h
            refine ATodo.seq ?_
            refine ATodo.region ?_
            refine ARun.qv (q_assign rfl) rfl ?_
            refine ARun.nil ?_
            refine ATodo.ret ?_
            replace h := outL h hA1
            obtain rfl := Option.some.inj h
            exact ImpX.here ⟨_, .cons (.tmp _ _ rfl) .nil, rfl⟩
          · replace h := iteFb hc h
            refine ATodo.seq ?_
            refine ATodo.cut (fun σ' => ∃ (c8 : Bool), Q_SamplesFault_j2 p0x0 n2 v3 c8 = some z1 ∧ σ' = ⟨51, [(0, .list 4 (p0x0.map Sample.av)), (3, I n2), (4, .ptr b4 0), (8, .list 4 (p0x0.map Sample.av)), (9, I (p0x0.length : Int)), (10, I n2), (26, .bool c8)], [(b4, .cells [.str v3.Device, .str v3.Metric, I v3.At, I v3.Value])]⟩) ?_ ?_
            · refine ATodo.region ?_
              refine ARun.qv (n_field_ptr rfl rfl) rfl ?_
              refine ARun.qv (q_load_ptr rfl rfl .here rfl) rfl ?_
              refine r_callp rfl (Q_Moment_c rfl) (CoL.refl _) rfl ?_
              refine ARun.qv (q_not rfl) rfl ?_
              refine ARun.qv (q_move rfl) rfl ?_
              refine ARun.guard rfl rfl rfl (fun hc => ?_) (fun hc => ?_)
              · rw [orFb hc] at h
                refine ARun.qv (n_field_ptr rfl rfl) rfl ?_
                refine ARun.guard_yes rfl rfl rfl ?_
                refine ARun.qv (q_load_ptr rfl rfl .here rfl) rfl ?_
                refine ARun.guard_yes rfl rfl rfl ?_
                refine r_callp rfl (Q_in_c rfl) (CoL.refl _) rfl ?_
                refine ARun.guard_yes rfl rfl rfl ?_
                refine ARun.qv (q_not rfl) rfl ?_
                refine ARun.qv (q_pick_f rfl rfl) rfl ?_
                refine ARun.qv (q_assign rfl) rfl ?_
                refine ARun.nil ?_
                refine ATodo.stop ?_
                exact ImpX.lessP (by exact ⟨rfl, rfl, rfl, rfl, rfl, rfl, rfl, True.intro⟩) (.cons .here .nil) (ImpX.here ⟨!(Q_in v3.Value (-1000000000 : Int) (1000000000 : Int)), h, rfl⟩)
              · rw [orTb hc] at h
                refine ARun.guard_no rfl rfl rfl rfl ?_
                refine ARun.guard_no rfl rfl rfl rfl ?_
                refine ARun.guard_no rfl rfl rfl rfl ?_
                refine ARun.qv (q_pick_t rfl rfl) rfl ?_
                refine ARun.qv (q_assign rfl) rfl ?_
                refine ARun.nil ?_
                refine ATodo.stop ?_
                exact ImpX.lessP (by exact ⟨rfl, rfl, rfl, rfl, rfl, rfl, rfl, True.intro⟩) (.cons .here .nil) (ImpX.here ⟨true, h, rfl⟩)
            · rintro σ' ⟨c8, h, rfl⟩
              unfold Q_SamplesFault_j2 at h
              refine ATodo.cond rfl (fun hc => ?_) (fun hc => ?_)
              · replace h := iteT hc h
                refine ATodo.seq ?_
                refine ATodo.region ?_
                refine ARun.qv (q_assign rfl) rfl ?_
                refine ARun.nil ?_
                refine ATodo.ret ?_
                replace h := outL h hA1
                obtain rfl := Option.some.inj h
                exact ImpX.here ⟨_, .cons (.tmp _ _ rfl) .nil, rfl⟩
              · replace h := iteFb hc h
                refine ATodo.seq ?_
                refine ATodo.cut (fun σ' => ∃ (c9 : Bool), Q_SamplesFault_j3 n2 c9 = some z1 ∧ σ' = ⟨51, [(0, .list 4 (p0x0.map Sample.av)), (8, .list 4 (p0x0.map Sample.av)), (9, I (p0x0.length : Int)), (10, I n2), (37, .bool c9)], []⟩) ?_ ?_
                · refine ATodo.regionM (id := 10) (A := [0, 1, 3, 7, 7, 23, 63, 127, 7, 511, 1023, 2047, 4095]) 13 mixed rfl (by kernel_rfl) (by kernel_rfl) ?_
                  refine AM.qv (q_move rfl) rfl ?_
                  refine AM.qv (q_gtr rfl rfl) rfl ?_
                  refine AM.qv (q_move rfl) rfl ?_
                  refine AM.guard_dt rfl rfl rfl (fun hc => ?_) (fun hc => ?_)
                  · replace h := iteT hc h
                    refine AM.qv (q_move rfl) rfl ?_
                    refine AM.guard_yes rfl rfl rfl ?_
                    refine AM.qv (q_move rfl) rfl ?_
                    refine AM.guard_yes rfl rfl rfl ?_
                    refine AM.qv (q_subw rfl rfl) rfl ?_
                    refine AM.guard_yes rfl rfl rfl ?_
                    obtain ⟨v10, e4, h⟩ := bnd h
                    refine AM.qv (t_index rfl rfl rfl e4 rfl rfl) rfl ?_
                    refine AM.guard_yes rfl rfl rfl ?_
                    refine AM.qv (q_load_rptr_agg rfl rfl rfl) rfl ?_
                    refine AM.guard_yes rfl rfl rfl ?_
                    refine AM.qv (q_load_ptr_all rfl rfl .here rfl) rfl ?_
                    refine AM.guard_yes rfl rfl rfl ?_
                    obtain ⟨v11, e5, h⟩ := bnd h
                    refine AM.callp rfl (Q_SampleOrder_c e5) (CoL.refl _) rfl ?_
                    refine AM.guard_yes rfl rfl rfl ?_
                    refine AM.qv (q_geq rfl rfl) rfl ?_
                    refine AM.qv (q_pick_t rfl rfl) rfl ?_
                    refine AM.qv (q_assign rfl) rfl ?_
                    refine AM.nil ?_
                    refine ARun.nil ?_
                    refine ATodo.stop ?_
                    exact ImpX.lessP (by exact ⟨rfl, rfl, rfl, rfl, rfl, True.intro⟩) (.nil) (ImpX.here ⟨decide ((0 : Int) ≤ v11), h, rfl⟩)
                  · replace h := iteF hc h
                    refine AM.guard_no rfl rfl rfl rfl ?_
                    refine AM.guard_no rfl rfl rfl rfl ?_
                    refine AM.guard_no rfl rfl rfl rfl ?_
                    refine AM.guard_no rfl rfl rfl rfl ?_
                    refine AM.guard_no rfl rfl rfl rfl ?_
                    refine AM.guard_no rfl rfl rfl rfl ?_
                    refine AM.guard_no rfl rfl rfl rfl ?_
                    refine AM.qv (q_pick_f rfl rfl) rfl ?_
                    refine AM.qv (q_assign rfl) rfl ?_
                    refine AM.nil ?_
                    refine ARun.nil ?_
                    refine ATodo.stop ?_
                    exact ImpX.lessP (by exact ⟨rfl, rfl, rfl, rfl, rfl, True.intro⟩) (.nil) (ImpX.here ⟨false, h, rfl⟩)
                · rintro σ' ⟨c9, h, rfl⟩
                  unfold Q_SamplesFault_j3 at h
                  refine ATodo.cond rfl (fun hc => ?_) (fun hc => ?_)
                  · replace h := iteT hc h
                    refine ATodo.seq ?_
                    refine ATodo.region ?_
                    refine ARun.qv (q_assign rfl) rfl ?_
                    refine ARun.nil ?_
                    refine ATodo.ret ?_
                    replace h := outL h hA1
                    obtain rfl := Option.some.inj h
                    exact ImpX.here ⟨_, .cons (.tmp _ _ rfl) .nil, rfl⟩
                  · replace h := iteFb hc h
                    refine ATodo.skip ?_
                    refine ATodo.blk ?_
                    refine ATodo.blk ?_
                    refine ATodo.region ?_
                    refine ARun.qv (q_addw rfl rfl) rfl ?_
                    refine ARun.qv (q_move rfl) rfl ?_
                    refine ARun.nil ?_
                    refine ATodo.stop ?_
                    obtain rfl := Option.some.inj h
                    refine hJ1 _ _ rfl ?_
                    exact ImpX.lessP (by exact ⟨rfl, rfl, rfl, rfl, True.intro⟩) (.nil) (ImpX.here rfl)
      · replace h := iteF hc h
        refine ATodo.exit rfl ?_
        replace h := outL h hA1
        refine ATodo.seq ?_
        refine ATodo.region ?_
        refine ARun.qv (q_assign rfl) rfl ?_
        refine ARun.nil ?_
        refine ATodo.ret ?_
        obtain rfl := Option.some.inj h
        exact ImpX.here ⟨_, .cons (.tmp _ _ rfl) .nil, rfl⟩

set_option maxHeartbeats 4000000 in
theorem Q_SeriesFault_1x_c {p0x0 : Sample} {p1x0 : List Sample} {r : Bool} (h : Q_SeriesFault_1x p0x0 p1x0 = some r) : Pu Try.prog 141 [.agg [.str p0x0.Device, .str p0x0.Metric, I p0x0.At, I p0x0.Value], .rptr [.list 4 (p1x0.map Sample.av)]] (.bool r) := by
  unfold Q_SeriesFault_1x at h
  refine ACall.bodyN Try.func141 rfl Try.ntmps141 Try.results141 rfl rfl ?_
  refine ATodo.seq ?_
  refine ATodo.region ?_
  refine n_box rfl rfl rfl rfl (fun b1 => ?_)
  refine ARun.qv (q_assign rfl) rfl ?_
  refine ARun.nil ?_
  refine ATodo.seq ?_
  refine ATodo.cut (fun σ' => ∃ (c2 : Bool), Q_SeriesFault_1x_j1 c2 = some r ∧ σ' = ⟨20, [(3, .bool c2)], []⟩) ?_ ?_
  · refine ATodo.regionM (id := 1) (A := [0, 1, 0, 4, 12, 28, 63, 127, 255, 511, 255, 1279, 3327, 7423, 16383, 32767, 65535]) 17 mixed rfl (by kernel_rfl) (by kernel_rfl) ?_
    refine AM.qv (n_field_ptr rfl rfl) rfl ?_
    refine AM.qv (q_load_ptr rfl rfl .here rfl) rfl ?_
    refine AM.qv (q_load_rptr rfl rfl rfl) rfl ?_
    obtain ⟨v3, e1, h⟩ := bnd h
    refine AM.qv (t_index rfl rfl rfl e1 rfl rfl) rfl ?_
    refine AM.qv (n_field_rptr rfl rfl) rfl ?_
    refine AM.qv (q_load_rptr rfl rfl rfl) rfl ?_
    refine AM.qv (q_sne rfl rfl) rfl ?_
    refine AM.qv (q_move rfl) rfl ?_
    refine AM.guard_df rfl rfl rfl (fun hc => ?_) (fun hc => ?_)
    · replace h := iteF hc h
      refine AM.qv (n_field_ptr rfl rfl) rfl ?_
      refine AM.guard_yes rfl rfl rfl ?_
      refine AM.qv (q_load_ptr rfl rfl .here rfl) rfl ?_
      refine AM.guard_yes rfl rfl rfl ?_
      refine AM.qv (q_load_rptr rfl rfl rfl) rfl ?_
      refine AM.guard_yes rfl rfl rfl ?_
      obtain ⟨v4, e2, h⟩ := bnd h
      refine AM.qv (t_index rfl rfl rfl e2 rfl rfl) rfl ?_
      refine AM.guard_yes rfl rfl rfl ?_
      refine AM.qv (n_field_rptr rfl rfl) rfl ?_
      refine AM.guard_yes rfl rfl rfl ?_
      refine AM.qv (q_load_rptr rfl rfl rfl) rfl ?_
      refine AM.guard_yes rfl rfl rfl ?_
      refine AM.qv (q_sne rfl rfl) rfl ?_
      refine AM.qv (q_pick_f rfl rfl) rfl ?_
      refine AM.qv (q_assign rfl) rfl ?_
      refine AM.nil ?_
      refine ARun.nil ?_
      refine ATodo.stop ?_
      exact ImpX.lessP (by exact ⟨rfl, True.intro⟩) (.nil) (ImpX.here ⟨decide (p0x0.Metric ≠ v4.Metric), h, rfl⟩)
    · replace h := iteT hc h
      refine AM.guard_no rfl rfl rfl rfl ?_
      refine AM.guard_no rfl rfl rfl rfl ?_
      refine AM.guard_no rfl rfl rfl rfl ?_
      refine AM.guard_no rfl rfl rfl rfl ?_
      refine AM.guard_no rfl rfl rfl rfl ?_
      refine AM.guard_no rfl rfl rfl rfl ?_
      refine AM.qv (q_pick_t rfl rfl) rfl ?_
      refine AM.qv (q_assign rfl) rfl ?_
      refine AM.nil ?_
      refine ARun.nil ?_
      refine ATodo.stop ?_
      exact ImpX.lessP (by exact ⟨rfl, True.intro⟩) (.nil) (ImpX.here ⟨true, h, rfl⟩)
  · rintro σ' ⟨c2, h, rfl⟩
    unfold Q_SeriesFault_1x_j1 at h
    refine ATodo.ret ?_
    obtain rfl := Option.some.inj h
    exact ImpX.here ⟨_, .cons (.tmp _ _ rfl) .nil, rfl⟩

set_option maxHeartbeats 4000000 in
theorem Q_SeriesFault_c {p0x0 : List Sample} {r : Int} (h : Q_SeriesFault p0x0 = some r) : Pu Try.prog 59 [.list 4 (p0x0.map Sample.av)] (I r) := by
  unfold Q_SeriesFault at h
  refine ACall.bodyN Try.func59 rfl Try.ntmps59 Try.results59 rfl rfl ?_
  refine ATodo.seq ?_
  refine ATodo.region ?_
  refine n_box rfl rfl rfl rfl (fun b1 => ?_)
  refine ARun.qv (q_assign rfl) rfl ?_
  refine ARun.nil ?_
  refine ATodo.seq ?_
  refine ATodo.seq ?_
  refine ATodo.region ?_
  refine ARun.qv (q_load_ptr rfl rfl .here rfl) rfl ?_
  obtain ⟨v2, e1, h⟩ := bnd h
  refine r_callp rfl (Q_SamplesFault_c e1) (CoL.refl _) rfl ?_
  refine ARun.qv (q_assign rfl) rfl ?_
  refine ARun.nil ?_
  refine ATodo.seq ?_
  refine ATodo.region ?_
  refine ARun.qv (q_move rfl) rfl ?_
  refine ARun.qv (q_neq rfl rfl) rfl ?_
  refine ARun.nil ?_
  refine ATodo.cond_d rfl (fun hc => ?_) (fun hc => ?_)
  · replace h := iteT hc h
    refine ATodo.seq ?_
    refine ATodo.region ?_
    refine ARun.qv (q_move rfl) rfl ?_
    refine ARun.qv (q_assign rfl) rfl ?_
    refine ARun.nil ?_
    refine ATodo.ret ?_
    obtain rfl := Option.some.inj h
    exact ImpX.here ⟨_, .cons (.tmp _ _ rfl) .nil, rfl⟩
  · replace h := iteF hc h
    refine ATodo.skip ?_
    refine ATodo.seq ?_
    refine ATodo.seq ?_
    refine ATodo.region ?_
    refine ARun.qv (q_load_ptr rfl rfl .here rfl) rfl ?_
    refine ARun.qv (q_makeFunc rfl) rfl ?_
    obtain ⟨v3, e2, h⟩ := bnd h
    refine r_callpB rfl (slices_ContainsFunc_Sample_Sample_c (fun e => Q_SeriesFault_1x_c e) e2) (.cons (.co (.refl _)) (.cons (.funcL _ _ _ (.cons (.boxL _ _ _ .here (.cons (.co (.refl _)) .nil)) .nil)) .nil)) rfl rfl ?_
    refine ARun.nil ?_
    refine ATodo.cond rfl (fun hc => ?_) (fun hc => ?_)
    · replace h := iteT hc h
      refine ATodo.seq ?_
      refine ATodo.region ?_
      refine ARun.qv (q_assign rfl) rfl ?_
      refine ARun.nil ?_
      refine ATodo.ret ?_
      obtain rfl := Option.some.inj h
      exact ImpX.here ⟨_, .cons (.tmp _ _ rfl) .nil, rfl⟩
    · replace h := iteFb hc h
      refine ATodo.skip ?_
      refine ATodo.seq ?_
      refine ATodo.region ?_
      refine ARun.qv (q_assign rfl) rfl ?_
      refine ARun.nil ?_
      refine ATodo.ret ?_
      obtain rfl := Option.some.inj h
      exact ImpX.here ⟨_, .cons (.tmp _ _ rfl) .nil, rfl⟩

set_option maxHeartbeats 4000000 in
theorem Q_WindowFault_c {p0x0 : Window} {r : Int} (h : Q_WindowFault p0x0 = r) : Pu Try.prog 60 [.agg [I p0x0.From, I p0x0.To]] (I r) := by
  unfold Q_WindowFault at h
  refine ACall.bodyN Try.func60 rfl Try.ntmps60 Try.results60 rfl rfl ?_
  refine ATodo.seq ?_
  refine ATodo.region ?_
  refine n_box rfl rfl rfl rfl (fun b1 => ?_)
  refine ARun.qv (q_assign rfl) rfl ?_
  refine ARun.nil ?_
  refine ATodo.seq ?_
  refine ATodo.seq ?_
  refine ATodo.cut (fun σ' => ∃ (c2 : Bool), Q_WindowFault_j1 c2 = r ∧ σ' = ⟨14, [(13, .bool c2)], []⟩) ?_ ?_
  · refine ATodo.region ?_
    refine ARun.qv (n_field_ptr rfl rfl) rfl ?_
    refine ARun.qv (q_load_ptr rfl rfl .here rfl) rfl ?_
    refine ARun.qv (n_field_ptr rfl rfl) rfl ?_
    refine ARun.qv (q_load_ptr rfl rfl .here rfl) rfl ?_
    refine r_callp rfl (Q_in_c rfl) (CoL.refl _) rfl ?_
    refine ARun.qv (q_not rfl) rfl ?_
    refine ARun.qv (q_move rfl) rfl ?_
    refine ARun.guard rfl rfl rfl (fun hc => ?_) (fun hc => ?_)
    · rw [orFb hc] at h
      refine ARun.qv (n_field_ptr rfl rfl) rfl ?_
      refine ARun.guard_yes rfl rfl rfl ?_
      refine ARun.qv (q_load_ptr rfl rfl .here rfl) rfl ?_
      refine ARun.guard_yes rfl rfl rfl ?_
      refine ARun.qv (q_gtr rfl rfl) rfl ?_
      refine ARun.qv (q_pick_f rfl rfl) rfl ?_
      refine ARun.nil ?_
      refine ATodo.stop ?_
      exact ImpX.lessP (by exact ⟨rfl, True.intro⟩) (.nil) (ImpX.here ⟨decide ((345686400000 : Int) < p0x0.To), h, rfl⟩)
    · rw [orTb hc] at h
      refine ARun.guard_no rfl rfl rfl rfl ?_
      refine ARun.guard_no rfl rfl rfl rfl ?_
      refine ARun.qv (q_pick_t rfl rfl) rfl ?_
      refine ARun.nil ?_
      refine ATodo.stop ?_
      exact ImpX.lessP (by exact ⟨rfl, True.intro⟩) (.nil) (ImpX.here ⟨true, h, rfl⟩)
  · rintro σ' ⟨c2, h, rfl⟩
    unfold Q_WindowFault_j1 at h
    refine ATodo.cond rfl (fun hc => ?_) (fun hc => ?_)
    · replace h := iteT hc h
      refine ATodo.seq ?_
      refine ATodo.region ?_
      refine ARun.qv (q_assign rfl) rfl ?_
      refine ARun.nil ?_
      refine ATodo.ret ?_
      obtain rfl := h
      exact ImpX.here ⟨_, .cons (.tmp _ _ rfl) .nil, rfl⟩
    · replace h := iteFb hc h
      refine ATodo.skip ?_
      refine ATodo.seq ?_
      refine ATodo.region ?_
      refine ARun.qv (q_assign rfl) rfl ?_
      refine ARun.nil ?_
      refine ATodo.ret ?_
      obtain rfl := h
      exact ImpX.here ⟨_, .cons (.tmp _ _ rfl) .nil, rfl⟩

set_option maxHeartbeats 4000000 in
theorem L_errs_c {p0x0 : List Int} {r : Int} (h : L_errs p0x0 = some r) : Pu Try.prog 19 [.list 1 (p0x0.map I)] (I r) := by
  unfold L_errs at h
  refine ACall.bodyN Try.func19 rfl Try.ntmps19 Try.results19 rfl rfl ?_
  refine ATodo.seq ?_
  refine ATodo.region ?_
  refine ARun.qv (q_assign rfl) rfl ?_
  refine ARun.nil ?_
  refine ATodo.seq ?_
  refine ATodo.seq ?_
  refine ATodo.region ?_
  refine ARun.qv (q_move rfl) rfl ?_
  refine ARun.qv (t_len rfl) rfl ?_
  refine ARun.qv (q_move rfl) rfl ?_
  refine ARun.nil ?_
  refine ATodo.block ?_
  refine ATodo.loopI (fun x : Int => L_errs_b1 p0x0 x) (fun x σ' => σ' = ⟨15, [(5, .list 1 (p0x0.map I)), (6, I (p0x0.length : Int)), (7, I x)], []⟩) h ?_ ?_
  · exact ImpX.lessP (by exact ⟨rfl, rfl, rfl, True.intro⟩) (.nil) (ImpX.here rfl)
  · intro n2 z1 σ' J1 hmk h hJ1 hA1
    obtain rfl := hmk
    replace h : L_errs_b1 p0x0 n2 = some z1 := h
    unfold L_errs_b1 at h
    refine ATodo.seq ?_
    refine ATodo.region ?_
    refine ARun.qv (q_lss rfl rfl) rfl ?_
    refine ARun.nil ?_
    refine ATodo.seq ?_
    refine ATodo.cond_d rfl (fun hc => ?_) (fun hc => ?_)
    · replace h := iteT hc h
      refine ATodo.skip ?_
      refine ATodo.seq ?_
      refine ATodo.block ?_
      refine ATodo.seq ?_
      refine ATodo.region ?_
      obtain ⟨v3, e1, h⟩ := bnd h
      refine ARun.qv (t_index rfl rfl rfl e1 rfl rfl) rfl ?_
      refine ARun.qv (q_load_rptr rfl rfl rfl) rfl ?_
      refine ARun.qv (q_assign rfl) rfl ?_
      refine ARun.nil ?_
      refine ATodo.seq ?_
      refine ATodo.region ?_
      refine ARun.qv (q_move rfl) rfl ?_
      refine ARun.qv (q_neq rfl rfl) rfl ?_
      refine ARun.nil ?_
      refine ATodo.cond_d rfl (fun hc => ?_) (fun hc => ?_)
      · replace h := iteT hc h
        refine ATodo.seq ?_
        refine ATodo.region ?_
        refine ARun.qv (q_move rfl) rfl ?_
        refine ARun.qv (q_assign rfl) rfl ?_
        refine ARun.nil ?_
        refine ATodo.ret ?_
        replace h := outL h hA1
        obtain rfl := Option.some.inj h
        exact ImpX.here ⟨_, .cons (.tmp _ _ rfl) .nil, rfl⟩
      · replace h := iteF hc h
        refine ATodo.skip ?_
        refine ATodo.blk ?_
        refine ATodo.region ?_
        refine ARun.qv (q_addw rfl rfl) rfl ?_
        refine ARun.qv (q_move rfl) rfl ?_
        refine ARun.nil ?_
        refine ATodo.stop ?_
        obtain rfl := Option.some.inj h
        refine hJ1 _ _ rfl ?_
        exact ImpX.lessP (by exact ⟨rfl, rfl, rfl, True.intro⟩) (.nil) (ImpX.here rfl)
    · replace h := iteF hc h
      refine ATodo.exit rfl ?_
      replace h := outL h hA1
      refine ATodo.seq ?_
      refine ATodo.region ?_
      refine ARun.qv (q_assign rfl) rfl ?_
      refine ARun.nil ?_
      refine ATodo.ret ?_
      obtain rfl := Option.some.inj h
      exact ImpX.here ⟨_, .cons (.tmp _ _ rfl) .nil, rfl⟩

set_option maxHeartbeats 4000000 in
theorem L_when_c {p0x0 : Bool} {p1x0 : Int} {r : Int} (h : L_when p0x0 p1x0 = r) : Pu Try.prog 30 [.bool p0x0, I p1x0] (I r) := by
  unfold L_when at h
  refine ACall.bodyN Try.func30 rfl Try.ntmps30 Try.results30 rfl rfl ?_
  refine ATodo.seq ?_
  refine ATodo.region ?_
  refine ARun.qv (q_assign rfl) rfl ?_
  refine ARun.nil ?_
  refine ATodo.seq ?_
  refine ATodo.seq ?_
  refine ATodo.region ?_
  refine ARun.qv (q_move rfl) rfl ?_
  refine ARun.nil ?_
  refine ATodo.cond rfl (fun hc => ?_) (fun hc => ?_)
  · replace h := iteT hc h
    refine ATodo.seq ?_
    refine ATodo.region ?_
    refine ARun.qv (q_move rfl) rfl ?_
    refine ARun.qv (q_assign rfl) rfl ?_
    refine ARun.nil ?_
    refine ATodo.ret ?_
    obtain rfl := h
    exact ImpX.here ⟨_, .cons (.tmp _ _ rfl) .nil, rfl⟩
  · replace h := iteFb hc h
    refine ATodo.skip ?_
    refine ATodo.seq ?_
    refine ATodo.region ?_
    refine ARun.qv (q_assign rfl) rfl ?_
    refine ARun.nil ?_
    refine ATodo.ret ?_
    obtain rfl := h
    exact ImpX.here ⟨_, .cons (.tmp _ _ rfl) .nil, rfl⟩

set_option maxHeartbeats 4000000 in
theorem Q_stretches_c {p0x0 : List Sample} {p1x0 : Window} {r : (List Fleetref2_stretch)} (h : Q_stretches p0x0 p1x0 = some r) : ACall Try.prog 142 [.list 4 (p0x0.map Sample.av), .agg [I p1x0.From, I p1x0.To]] [] (T1 (fun d_0 => [(d_0, .arr 3 (r.map Fleetref2_stretch.av))]) (fun d_0 => .sl 3 d_0 0 r.length)) := by
  unfold Q_stretches at h
  refine ACall.lessH ?_
  refine ACall.bodyN Try.func142 rfl Try.ntmps142 Try.results142 rfl rfl ?_
  refine ATodo.seq ?_
  refine ATodo.region ?_
  refine n_box rfl rfl rfl rfl (fun b1 => ?_)
  refine ARun.qv (q_assign rfl) rfl ?_
  refine ARun.nil ?_
  refine ATodo.seq ?_
  refine ATodo.region ?_
  refine ARun.qv (q_assign rfl) rfl ?_
  refine ARun.nil ?_
  refine ATodo.seq ?_
  refine ATodo.seq ?_
  refine ATodo.region ?_
  refine ARun.qv (q_move rfl) rfl ?_
  refine ARun.qv (t_len rfl) rfl ?_
  refine ARun.qv (q_move rfl) rfl ?_
  refine ARun.nil ?_
  refine ATodo.block ?_
  refine ATodo.loopI (fun x : (List Fleetref2_stretch) × Int => Q_stretches_b1 p0x0 p1x0 x.1 x.2) (fun x σ' => ∃ (b5 : Bk), σ' = ⟨50, [(0, .list 4 (p0x0.map Sample.av)), (3, .ptr b1 0), (5, .sl 3 b5 0 x.1.length), (10, .list 4 (p0x0.map Sample.av)), (11, I (p0x0.length : Int)), (12, I x.2)], [(b1, .cells [I p1x0.From, I p1x0.To]), (b5, .arr 3 (x.1.map Fleetref2_stretch.av))]⟩) h ?_ ?_
  · refine ImpX.arr (s := 5) 3 rfl (fun b8 => ?_)
    exact ImpX.lessP (by exact ⟨rfl, rfl, rfl, rfl, rfl, rfl, True.intro⟩) (.cons (.next .here) (.cons .here .nil)) (ImpX.here ⟨b8, rfl⟩)
  · intro x z1 σ' J1 hmk h hJ1 hA1
    obtain ⟨l6, n7⟩ := x
    obtain ⟨b5, rfl⟩ := hmk
    replace h : Q_stretches_b1 p0x0 p1x0 l6 n7 = some z1 := h
    unfold Q_stretches_b1 at h
    refine ATodo.seq ?_
    refine ATodo.region ?_
    refine ARun.qv (q_lss rfl rfl) rfl ?_
    refine ARun.nil ?_
    refine ATodo.seq ?_
    refine ATodo.cond_d rfl (fun hc => ?_) (fun hc => ?_)
    · replace h := iteT hc h
      refine ATodo.skip ?_
      refine ATodo.seq ?_
      refine ATodo.block ?_
      refine ATodo.seq ?_
      refine ATodo.region ?_
      refine ARun.qv (q_move rfl) rfl ?_
      obtain ⟨v9, e1, h⟩ := bnd h
      refine ARun.qv (t_index rfl rfl rfl e1 rfl rfl) rfl ?_
      refine ARun.qv (q_load_rptr_agg rfl rfl rfl) rfl ?_
      refine n_alloc rfl rfl rfl rfl (fun b10 => ?_)
      refine ARun.qv (q_assign rfl) rfl ?_
      refine n_store_ptr rfl rfl rfl rfl .here rfl rfl ?_
      refine ARun.nil ?_
      refine ATodo.seq ?_
      refine ATodo.region ?_
      refine ARun.qv (n_field_ptr rfl rfl) rfl ?_
      refine ARun.qv (q_load_ptr rfl rfl (.next .here) rfl) rfl ?_
      refine ARun.qv (q_assign rfl) rfl ?_
      refine ARun.nil ?_
      refine ATodo.seq ?_
      refine ATodo.seq ?_
      refine ATodo.region ?_
      refine ARun.qv (q_move rfl) rfl ?_
      refine ARun.qv (q_addw rfl rfl) rfl ?_
      refine ARun.qv (q_move rfl) rfl ?_
      refine ARun.qv (t_len rfl) rfl ?_
      refine ARun.qv (q_lss rfl rfl) rfl ?_
      refine ARun.nil ?_
      refine ATodo.cut (fun σ' => ∃ (n11 : Int), Q_stretches_j1 p1x0 l6 n7 v9 n11 = some z1 ∧ σ' = ⟨50, [(0, .list 4 (p0x0.map Sample.av)), (3, .ptr b1 0), (5, .sl 3 b5 0 l6.length), (7, .ptr b10 0), (8, I n11), (10, .list 4 (p0x0.map Sample.av)), (11, I (p0x0.length : Int)), (12, I n7)], [(b1, .cells [I p1x0.From, I p1x0.To]), (b5, .arr 3 (l6.map Fleetref2_stretch.av)), (b10, .cells [.str v9.Device, .str v9.Metric, I v9.At, I v9.Value])]⟩) ?_ ?_
      · refine ATodo.cond_d rfl (fun hc => ?_) (fun hc => ?_)
        · replace h := iteT hc h
          refine ATodo.region ?_
          refine ARun.qv (q_move rfl) rfl ?_
          refine ARun.qv (q_move rfl) rfl ?_
          refine ARun.qv (q_move rfl) rfl ?_
          refine ARun.qv (q_addw rfl rfl) rfl ?_
          obtain ⟨v12, e2, h⟩ := bnd h
          refine ARun.qv (t_index rfl rfl rfl e2 rfl rfl) rfl ?_
          refine ARun.qv (n_field_rptr rfl rfl) rfl ?_
          refine ARun.qv (q_load_rptr rfl rfl rfl) rfl ?_
          refine ARun.qv (q_min rfl rfl) rfl ?_
          refine ARun.qv (q_assign rfl) rfl ?_
          refine ARun.nil ?_
          refine ATodo.stop ?_
          exact ImpX.lessP (by exact ⟨rfl, rfl, rfl, rfl, rfl, rfl, rfl, rfl, True.intro⟩) (.cons (.next .here) (.cons (.next .here) (.cons .here .nil))) (ImpX.here ⟨min p1x0.To v12.At, h, rfl⟩)
        · replace h := iteF hc h
          refine ATodo.skip ?_
          refine ATodo.stop ?_
          exact ImpX.lessP (by exact ⟨rfl, rfl, rfl, rfl, rfl, rfl, rfl, rfl, True.intro⟩) (.cons (.next .here) (.cons (.next .here) (.cons .here .nil))) (ImpX.here ⟨p1x0.To, h, rfl⟩)
      · rintro σ' ⟨n11, h, rfl⟩
        unfold Q_stretches_j1 at h
        refine ATodo.seq ?_
        refine ATodo.region ?_
        refine ARun.qv (n_field_ptr rfl rfl) rfl ?_
        refine ARun.qv (q_load_ptr rfl rfl (.next (.next .here)) rfl) rfl ?_
        refine ARun.qv (n_field_ptr rfl rfl) rfl ?_
        refine ARun.qv (q_load_ptr rfl rfl .here rfl) rfl ?_
        refine ARun.qv (q_max rfl rfl) rfl ?_
        refine ARun.qv (q_assign rfl) rfl ?_
        refine ARun.nil ?_
        refine ATodo.seq ?_
        refine ATodo.region ?_
        refine ARun.qv (q_move rfl) rfl ?_
        refine ARun.qv (q_move rfl) rfl ?_
        refine ARun.qv (q_lss rfl rfl) rfl ?_
        refine ARun.nil ?_
        refine ATodo.cut (fun σ' => ∃ (b13 : Bk) (l14 : List Fleetref2_stretch), Q_stretches_j2 n7 l14 = some z1 ∧ σ' = ⟨50, [(0, .list 4 (p0x0.map Sample.av)), (3, .ptr b1 0), (5, .sl 3 b13 0 l14.length), (10, .list 4 (p0x0.map Sample.av)), (11, I (p0x0.length : Int)), (12, I n7)], [(b1, .cells [I p1x0.From, I p1x0.To]), (b13, .arr 3 (l14.map Fleetref2_stretch.av))]⟩) ?_ ?_
        · refine ATodo.cond_d rfl (fun hc => ?_) (fun hc => ?_)
          · replace h := iteT hc h
            refine ATodo.region ?_
            refine ARun.qv (q_move rfl) rfl ?_
            refine ARun.qv (q_move rfl) rfl ?_
            refine ARun.qv (q_move rfl) rfl ?_
            refine ARun.qv (n_field_ptr rfl rfl) rfl ?_
            refine ARun.qv (q_load_ptr rfl rfl (.next (.next .here)) rfl) rfl ?_
            refine ARun.qv (n_build rfl rfl rfl rfl rfl) rfl ?_
            refine n_buildSliceL (xs := ([(⟨max v9.At p1x0.From, n11, v9.Value⟩ : Fleetref2_stretch)]).map Fleetref2_stretch.av) rfl rfl rfl rfl rfl rfl ?_
            obtain ⟨l15, e3, h⟩ := bnd h
            refine t_append (g := Fleetref2_stretch.av) rfl rfl rfl rfl rfl rfl rfl rfl (.list _) e3 (fun _ => (.next .here)) rfl (fun b16 => ?_)
            refine ARun.qv (q_assign rfl) rfl ?_
            refine ARun.nil ?_
            refine ATodo.stop ?_
            exact ImpX.lessP (by exact ⟨rfl, rfl, rfl, rfl, rfl, rfl, True.intro⟩) (.cons .here (.cons .here .nil)) (ImpX.here ⟨b16, l15, h, rfl⟩)
          · replace h := iteF hc h
            refine ATodo.skip ?_
            refine ATodo.stop ?_
            exact ImpX.lessP (by exact ⟨rfl, rfl, rfl, rfl, rfl, rfl, True.intro⟩) (.cons .here (.cons .here .nil)) (ImpX.here ⟨b5, l6, h, rfl⟩)
        · rintro σ' ⟨b13, l14, h, rfl⟩
          unfold Q_stretches_j2 at h
          refine ATodo.blk ?_
          refine ATodo.region ?_
          refine ARun.qv (q_addw rfl rfl) rfl ?_
          refine ARun.qv (q_move rfl) rfl ?_
          refine ARun.nil ?_
          refine ATodo.stop ?_
          obtain rfl := Option.some.inj h
          refine hJ1 _ _ rfl ?_
          exact ImpX.lessP (by exact ⟨rfl, rfl, rfl, rfl, rfl, rfl, True.intro⟩) (.cons .here (.cons .here .nil)) (ImpX.here ⟨b13, rfl⟩)
    · replace h := iteF hc h
      refine ATodo.exit rfl ?_
      replace h := outL h hA1
      refine ATodo.seq ?_
      refine ATodo.region ?_
      refine ARun.qv (q_move rfl) rfl ?_
      refine ARun.qv (q_assign rfl) rfl ?_
      refine ARun.nil ?_
      refine ATodo.ret ?_
      obtain rfl := Option.some.inj h
      exact ImpX.here ⟨_, .cons (.tmp _ _ rfl) .nil, _, .cons (.next .here) .nil, ⟨b5, rfl, rfl⟩⟩

end Go.Proofs.Ytnnljbpmkcefaaa
