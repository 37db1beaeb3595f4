/- The code computes the plain functions: proofs written by shal.py. -/
import Derived.Test.YtbcbhhbbejcnnaaPckP
import Derived.Test.YtbcbhhbbejcnnaaLib
set_option maxRecDepth 100000
set_option linter.unusedVariables false
set_option linter.unusedSimpArgs false
namespace Go.Proofs.Ytbcbhhbbejcnnaa
open Go Go.Eng Go.Proofs Go.Beacon
attribute [local irreducible] ARun ATodo AQ QV ACall ImpX AWp AM
instance eqg42 : EqGd Try.prog 42 := ⟨by kernel_rfl⟩
instance eqt42 : EqTy Try.prog 42 2 Sample.av := ⟨fun x y w S v u hv hu => by
  obtain ⟨vs, rfl, hl, ha⟩ := At.agg_inv hv
  obtain ⟨us, rfl, hl', ha'⟩ := At.agg_inv hu
  obtain ⟨v0, p0, q0⟩ := AtA.get hl ha (off := 0) rfl
  obtain ⟨u0, p0', q0'⟩ := AtA.get hl' ha' (off := 0) rfl
  obtain ⟨v1, p1, q1⟩ := AtA.get hl ha (off := 1) rfl
  obtain ⟨u1, p1', q1'⟩ := AtA.get hl' ha' (off := 1) rfl
  obtain ⟨v2, p2, q2⟩ := AtA.get hl ha (off := 2) rfl
  obtain ⟨u2, p2', q2'⟩ := AtA.get hl' ha' (off := 2) rfl
  obtain ⟨v3, p3, q3⟩ := AtA.get hl ha (off := 3) rfl
  obtain ⟨u3, p3', q3'⟩ := AtA.get hl' ha' (off := 3) rfl
  refine EqR.cast (EqR.struct Try.underlying42 (by kernel_rfl) (.cons (by decide) (part_one rfl p0) (part_one rfl p0') (EqR.up (EqTy.h (g := AV.str) x.Device y.Device w S _ _ q0 q0') 0)  (.cons (by decide) (part_one rfl p1) (part_one rfl p1') (EqR.up (EqTy.h (g := AV.str) x.Metric y.Metric w S _ _ q1 q1') 0)  (.cons (by decide) (part_one rfl p2) (part_one rfl p2') (EqR.up (EqTy.h (g := I) x.At y.At w S _ _ q2 q2') 0)  (.cons (by decide) (part_one rfl p3) (part_one rfl p3') (EqR.up (EqTy.h (g := I) x.Value y.Value w S _ _ q3 q3') 0) .nil))))) ?_
  obtain ⟨_, _, _, _⟩ := x
  obtain ⟨_, _, _, _⟩ := y
  rw [Bool.eq_iff_iff]; simp [and_assoc]⟩
set_option maxHeartbeats 4000000 in
theorem Below_c {p0x0 : Int} {p1x0 : Int} {r : Int} (h : Below p0x0 p1x0 = some r) : Pu Try.prog 126 [I p0x0, I p1x0] (I r) := by
  unfold Below at h
  refine ACall.bodyN Try.func126 rfl Try.ntmps126 Try.results126 rfl rfl ?_
  refine ATodo.seq ?_
  refine ATodo.region ?_
  refine ARun.qv (q_assign rfl) rfl ?_
  refine ARun.nil ?_
  refine ATodo.seq ?_
  refine ATodo.seq ?_
  refine ATodo.region ?_
  refine ARun.qv (q_move rfl) rfl ?_
  refine ARun.qv (q_lss rfl rfl) rfl ?_
  refine ARun.nil ?_
  refine ATodo.cond_d rfl (fun hc => ?_) (fun hc => ?_)
  · replace h := iteT hc h
    refine ATodo.seq ?_
    refine ATodo.region ?_
    refine ARun.qv (q_assign rfl) rfl ?_
    refine ARun.nil ?_
    refine ATodo.ret ?_
    obtain rfl := Option.some.inj h
    exact ImpX.here ⟨_, .cons (.tmp _ _ rfl) .nil, rfl⟩
  · replace h := iteF hc h
    refine ATodo.skip ?_
    refine ATodo.seq ?_
    refine ATodo.region ?_
    refine ARun.qv (q_move rfl) rfl ?_
    refine ARun.qv (q_move rfl) rfl ?_
    obtain ⟨n1, e1, h⟩ := bnd h
    refine ARun.qv (t_remS rfl rfl e1) rfl ?_
    refine ARun.qv (q_assign rfl) rfl ?_
    refine ARun.nil ?_
    refine ATodo.seq ?_
    refine ATodo.seq ?_
    refine ATodo.region ?_
    refine ARun.qv (q_move rfl) rfl ?_
    refine ARun.qv (q_lss rfl rfl) rfl ?_
    refine ARun.nil ?_
    refine ATodo.cut (fun σ' => ∃ (n2 : Int), Below_j1 n2 = some r ∧ σ' = ⟨16, [(0, I n2)], []⟩) ?_ ?_
    · refine ATodo.cond_d rfl (fun hc => ?_) (fun hc => ?_)
      · replace h := iteT hc h
        refine ATodo.region ?_
        refine ARun.qv (q_move rfl) rfl ?_
        refine ARun.qv (q_move rfl) rfl ?_
        refine ARun.qv (q_addw rfl rfl) rfl ?_
        refine ARun.qv (q_assign rfl) rfl ?_
        refine ARun.nil ?_
        refine ATodo.stop ?_
        exact ImpX.lessP (by exact ⟨rfl, True.intro⟩) (.nil) (ImpX.here ⟨w64 (n1 + p1x0), h, rfl⟩)
      · replace h := iteF hc h
        refine ATodo.skip ?_
        refine ATodo.stop ?_
        exact ImpX.lessP (by exact ⟨rfl, True.intro⟩) (.nil) (ImpX.here ⟨n1, h, rfl⟩)
    · rintro σ' ⟨n2, h, rfl⟩
      unfold Below_j1 at h
      refine ATodo.seq ?_
      refine ATodo.region ?_
      refine ARun.qv (q_move rfl) rfl ?_
      refine ARun.qv (q_assign rfl) rfl ?_
      refine ARun.nil ?_
      refine ATodo.ret ?_
      obtain rfl := Option.some.inj h
      exact ImpX.here ⟨_, .cons (.tmp _ _ rfl) .nil, rfl⟩

set_option maxHeartbeats 4000000 in
theorem Stream_Next_c {b_0 : Bk} {p0x0 : Fleetmake_Stream} {p1x0 : Int} {r : Int × Fleetmake_Stream} (h : Stream_Next p0x0 p1x0 = some r) : ACall Try.prog 65 [.ptr b_0 0, I p1x0] [(b_0, .cells [.list 1 (p0x0.L.map I), I p0x0.at_])] (T0 ([(b_0, .cells [.list 1 (r.2.L.map I), I r.2.at_])]) (I r.1)) := by
  unfold Stream_Next at h
  refine ACall.lessH ?_
  refine ACall.bodyN Try.func65 rfl Try.ntmps65 Try.results65 rfl rfl ?_
  refine ATodo.seq ?_
  refine ATodo.region ?_
  refine ARun.qv (q_assign rfl) rfl ?_
  refine ARun.nil ?_
  refine ATodo.seq ?_
  refine ATodo.region ?_
  refine ARun.qv (q_move rfl) rfl ?_
  refine ARun.qv (q_nilCheck_ptr rfl) rfl ?_
  refine ARun.qv (n_field_ptr rfl rfl) rfl ?_
  refine ARun.qv (q_load_ptr rfl rfl .here rfl) rfl ?_
  refine ARun.qv (q_addw rfl rfl) rfl ?_
  refine ARun.qv (q_nilCheck_ptr rfl) rfl ?_
  refine ARun.qv (n_field_ptr rfl rfl) rfl ?_
  refine n_store_ptr rfl rfl rfl rfl .here rfl rfl ?_
  refine ARun.nil ?_
  refine ATodo.seq ?_
  refine ATodo.seq ?_
  refine ATodo.region ?_
  refine ARun.qv (q_move rfl) rfl ?_
  refine ARun.qv (q_nilCheck_ptr rfl) rfl ?_
  refine ARun.qv (n_field_ptr rfl rfl) rfl ?_
  refine ARun.qv (q_load_ptr rfl rfl .here rfl) rfl ?_
  refine ARun.qv (t_len rfl) rfl ?_
  refine ARun.qv (q_eql rfl rfl) rfl ?_
  refine ARun.nil ?_
  refine ATodo.cond_d rfl (fun hc => ?_) (fun hc => ?_)
  · replace h := iteT hc h
    refine ATodo.seq ?_
    refine ATodo.region ?_
    refine ARun.qv (q_move rfl) rfl ?_
    refine ARun.qv (q_nilCheck_ptr rfl) rfl ?_
    refine ARun.qv (n_field_ptr rfl rfl) rfl ?_
    refine ARun.qv (q_load_ptr rfl rfl .here rfl) rfl ?_
    refine ARun.qv (q_mulw rfl rfl) rfl ?_
    refine ARun.qv (q_move rfl) rfl ?_
    obtain ⟨v1, e1, h⟩ := bnd h
    refine r_callp rfl (Below_c e1) (CoL.refl _) rfl ?_
    refine ARun.qv (q_assign rfl) rfl ?_
    refine ARun.nil ?_
    refine ATodo.ret ?_
    obtain rfl := Option.some.inj h
    exact ImpX.here ⟨_, .cons (.tmp _ _ rfl) .nil, _, .cons .here .nil, ⟨rfl, rfl⟩⟩
  · replace h := iteF hc h
    refine ATodo.skip ?_
    refine ATodo.seq ?_
    refine ATodo.regionM (id := 4) (A := [0, 1, 3, 7, 15, 0, 32, 96, 224, 480, 1023, 2047]) 12 mixed rfl (by kernel_rfl) (by kernel_rfl) ?_
    refine AM.qv (q_move rfl) rfl ?_
    refine AM.qv (q_nilCheck_ptr rfl) rfl ?_
    refine AM.qv (n_field_ptr rfl rfl) rfl ?_
    refine AM.qv (q_load_ptr rfl rfl .here rfl) rfl ?_
    refine AM.qv (q_subw rfl rfl) rfl ?_
    refine AM.qv (q_move rfl) rfl ?_
    refine AM.qv (q_nilCheck_ptr rfl) rfl ?_
    refine AM.qv (n_field_ptr rfl rfl) rfl ?_
    refine AM.qv (q_load_ptr rfl rfl .here rfl) rfl ?_
    refine AM.qv (t_len rfl) rfl ?_
    obtain ⟨n2, e2, h⟩ := bnd h
    refine AM.qv (t_remS rfl rfl e2) rfl ?_
    refine AM.qv (q_assign rfl) rfl ?_
    refine AM.nil ?_
    refine ARun.nil ?_
    refine ATodo.seq ?_
    refine ATodo.regionM (id := 5) (A := [0, 1, 3, 7, 15, 0, 32, 96, 224, 480, 1023, 2047]) 12 mixed rfl (by kernel_rfl) (by kernel_rfl) ?_
    refine AM.qv (q_move rfl) rfl ?_
    refine AM.qv (q_nilCheck_ptr rfl) rfl ?_
    refine AM.qv (n_field_ptr rfl rfl) rfl ?_
    refine AM.qv (q_load_ptr rfl rfl .here rfl) rfl ?_
    refine AM.qv (q_subw rfl rfl) rfl ?_
    refine AM.qv (q_move rfl) rfl ?_
    refine AM.qv (q_nilCheck_ptr rfl) rfl ?_
    refine AM.qv (n_field_ptr rfl rfl) rfl ?_
    refine AM.qv (q_load_ptr rfl rfl .here rfl) rfl ?_
    refine AM.qv (t_len rfl) rfl ?_
    obtain ⟨n3, e3, h⟩ := bnd h
    refine AM.qv (t_quoS rfl rfl e3) rfl ?_
    refine AM.qv (q_assign rfl) rfl ?_
    refine AM.nil ?_
    refine ARun.nil ?_
    refine ATodo.seq ?_
    refine ATodo.region ?_
    refine ARun.qv (q_move rfl) rfl ?_
    refine ARun.qv (q_nilCheck_ptr rfl) rfl ?_
    refine ARun.qv (n_field_ptr rfl rfl) rfl ?_
    refine ARun.qv (q_load_ptr rfl rfl .here rfl) rfl ?_
    refine ARun.qv (q_move rfl) rfl ?_
    obtain ⟨v4, e4, h⟩ := bnd h
    refine ARun.qv (t_index rfl rfl rfl e4 rfl rfl) rfl ?_
    refine ARun.qv (q_load_rptr rfl rfl rfl) rfl ?_
    obtain ⟨v5, e5, h⟩ := bnd h
    refine r_callp rfl (Below_c e5) (CoL.refl _) rfl ?_
    refine ARun.qv (q_move rfl) rfl ?_
    refine ARun.qv (q_move rfl) rfl ?_
    refine ARun.qv (q_addw rfl rfl) rfl ?_
    refine ARun.qv (q_mulw rfl rfl) rfl ?_
    refine ARun.qv (q_addw rfl rfl) rfl ?_
    refine ARun.qv (q_move rfl) rfl ?_
    obtain ⟨v6, e6, h⟩ := bnd h
    refine r_callp rfl (Below_c e6) (CoL.refl _) rfl ?_
    refine ARun.qv (q_assign rfl) rfl ?_
    refine ARun.nil ?_
    refine ATodo.ret ?_
    obtain rfl := Option.some.inj h
    exact ImpX.here ⟨_, .cons (.tmp _ _ rfl) .nil, _, .cons .here .nil, ⟨rfl, rfl⟩⟩

set_option maxHeartbeats 4000000 in
theorem Stream_Pick_c {b_0 : Bk} {p0x0 : Fleetmake_Stream} {p1x0 : List Int} {r : Int × Fleetmake_Stream} (h : Stream_Pick p0x0 p1x0 = some r) : ACall Try.prog 11 [.ptr b_0 0, .list 1 (p1x0.map I)] [(b_0, .cells [.list 1 (p0x0.L.map I), I p0x0.at_])] (T0 ([(b_0, .cells [.list 1 (r.2.L.map I), I r.2.at_])]) (I r.1)) := by
  unfold Stream_Pick at h
  refine ACall.lessH ?_
  refine ACall.bodyN Try.func11 rfl Try.ntmps11 Try.results11 rfl rfl ?_
  refine ATodo.seq ?_
  refine ATodo.region ?_
  refine ARun.qv (q_assign rfl) rfl ?_
  refine ARun.nil ?_
  refine ATodo.seq ?_
  refine ATodo.region ?_
  refine ARun.qv (q_move rfl) rfl ?_
  refine ARun.qv (q_move rfl) rfl ?_
  refine ARun.qv (q_move rfl) rfl ?_
  refine ARun.qv (t_len rfl) rfl ?_
  obtain ⟨v1, e1, h⟩ := bnd h
  refine t_call0 rfl (Stream_Next_c e1) (CoL.refl _) (.cons .here .nil) rfl rfl ?_
  obtain ⟨v2, e2, h⟩ := bnd h
  refine ARun.qv (t_index rfl rfl rfl e2 rfl rfl) rfl ?_
  refine ARun.qv (q_load_rptr rfl rfl rfl) rfl ?_
  refine ARun.qv (q_assign rfl) rfl ?_
  refine ARun.nil ?_
  refine ATodo.ret ?_
  obtain rfl := Option.some.inj h
  exact ImpX.here ⟨_, .cons (.tmp _ _ rfl) .nil, _, .cons .here .nil, ⟨rfl, rfl⟩⟩

set_option maxHeartbeats 4000000 in
theorem Stream_Range_c {b_0 : Bk} {p0x0 : Fleetmake_Stream} {p1x0 : Int} {p2x0 : Int} {r : Int × Fleetmake_Stream} (h : Stream_Range p0x0 p1x0 p2x0 = some r) : ACall Try.prog 125 [.ptr b_0 0, I p1x0, I p2x0] [(b_0, .cells [.list 1 (p0x0.L.map I), I p0x0.at_])] (T0 ([(b_0, .cells [.list 1 (r.2.L.map I), I r.2.at_])]) (I r.1)) := by
  unfold Stream_Range at h
  refine ACall.lessH ?_
  refine ACall.bodyN Try.func125 rfl Try.ntmps125 Try.results125 rfl rfl ?_
  refine ATodo.seq ?_
  refine ATodo.region ?_
  refine ARun.qv (q_assign rfl) rfl ?_
  refine ARun.nil ?_
  refine ATodo.seq ?_
  refine ATodo.seq ?_
  refine ATodo.region ?_
  refine ARun.qv (q_move rfl) rfl ?_
  refine ARun.qv (q_move rfl) rfl ?_
  refine ARun.qv (q_lss rfl rfl) rfl ?_
  refine ARun.nil ?_
  refine ATodo.cond_d rfl (fun hc => ?_) (fun hc => ?_)
  · replace h := iteT hc h
    refine ATodo.seq ?_
    refine ATodo.region ?_
    refine ARun.qv (q_move rfl) rfl ?_
    refine ARun.qv (q_assign rfl) rfl ?_
    refine ARun.nil ?_
    refine ATodo.ret ?_
    obtain rfl := Option.some.inj h
    exact ImpX.here ⟨_, .cons (.tmp _ _ rfl) .nil, _, .cons .here .nil, ⟨rfl, rfl⟩⟩
  · replace h := iteF hc h
    refine ATodo.skip ?_
    refine ATodo.seq ?_
    refine ATodo.region ?_
    refine ARun.qv (q_move rfl) rfl ?_
    refine ARun.qv (q_move rfl) rfl ?_
    refine ARun.qv (q_move rfl) rfl ?_
    refine ARun.qv (q_move rfl) rfl ?_
    refine ARun.qv (q_subw rfl rfl) rfl ?_
    refine ARun.qv (q_addw rfl rfl) rfl ?_
    obtain ⟨v1, e1, h⟩ := bnd h
    refine t_call0 rfl (Stream_Next_c e1) (CoL.refl _) (.cons .here .nil) rfl rfl ?_
    refine ARun.qv (q_addw rfl rfl) rfl ?_
    refine ARun.qv (q_assign rfl) rfl ?_
    refine ARun.nil ?_
    refine ATodo.ret ?_
    obtain rfl := Option.some.inj h
    exact ImpX.here ⟨_, .cons (.tmp _ _ rfl) .nil, _, .cons .here .nil, ⟨rfl, rfl⟩⟩

set_option maxHeartbeats 4000000 in
theorem Stream_RightSeries_c {b_0 : Bk} {p0x0 : Fleetmake_Stream} {p1x0 : Int} {p2x0 : Int} {r : (List Sample) × Fleetmake_Stream} (h : Stream_RightSeries p0x0 p1x0 p2x0 = some r) : ACall Try.prog 64 [.ptr b_0 0, I p1x0, I p2x0] [(b_0, .cells [.list 1 (p0x0.L.map I), I p0x0.at_])] (T1 (fun d_0 => [(b_0, .cells [.list 1 (r.2.L.map I), I r.2.at_]), (d_0, .arr 4 (r.1.map Sample.av))]) (fun d_0 => .sl 4 d_0 0 r.1.length)) := by
  unfold Stream_RightSeries at h
  refine ACall.lessH ?_
  refine ACall.bodyN Try.func64 rfl Try.ntmps64 Try.results64 rfl rfl ?_
  refine ATodo.seq ?_
  refine ATodo.region ?_
  refine ARun.qv (q_assign rfl) rfl ?_
  refine ARun.nil ?_
  refine ATodo.seq ?_
  refine ATodo.region ?_
  refine ARun.qv (q_assign rfl) rfl ?_
  refine ARun.nil ?_
  refine ATodo.seq ?_
  refine ATodo.region ?_
  refine ARun.qv (q_assign rfl) rfl ?_
  refine ARun.nil ?_
  refine ATodo.seq ?_
  refine ATodo.seq ?_
  refine ATodo.region ?_
  refine ARun.qv (q_move rfl) rfl ?_
  refine ARun.qv (q_move rfl) rfl ?_
  obtain ⟨v1, e1, h⟩ := bnd h
  refine t_call0 rfl (Stream_Range_c e1) (CoL.refl _) (.cons .here .nil) rfl rfl ?_
  refine ARun.qv (q_move rfl) rfl ?_
  refine ARun.nil ?_
  refine ATodo.block ?_
  refine ATodo.loopI (fun x : (List Int) × Int × (List Sample) × Int × Int => Stream_RightSeries_b1 p2x0 v1 x.1 x.2.1 x.2.2.1 x.2.2.2.1 x.2.2.2.2) (fun x σ' => ∃ (b10 : Bk), σ' = ⟨31, [(0, .ptr b_0 0), (2, I p2x0), (7, .sl 4 b10 0 x.2.2.1.length), (8, I x.2.2.2.1), (11, I v1.1), (12, I x.2.2.2.2)], [(b_0, .cells [.list 1 (x.1.map I), I x.2.1]), (b10, .arr 4 (x.2.2.1.map Sample.av))]⟩) h ?_ ?_
  · refine ImpX.arr (s := 7) 4 rfl (fun b14 => ?_)
    exact ImpX.lessP (by exact ⟨rfl, rfl, rfl, rfl, rfl, rfl, True.intro⟩) (.cons (.next .here) (.cons .here .nil)) (ImpX.here ⟨b14, rfl⟩)
  · intro x z1 σ' J1 hmk h hJ1 hA1
    obtain ⟨l8, n9, l11, n12, n13⟩ := x
    obtain ⟨b10, rfl⟩ := hmk
    replace h : Stream_RightSeries_b1 p2x0 v1 l8 n9 l11 n12 n13 = some z1 := h
    unfold Stream_RightSeries_b1 at h
    refine ATodo.seq ?_
    refine ATodo.region ?_
    refine ARun.qv (q_lss rfl rfl) rfl ?_
    refine ARun.nil ?_
    refine ATodo.seq ?_
    refine ATodo.cond_d rfl (fun hc => ?_) (fun hc => ?_)
    · replace h := iteT hc h
      refine ATodo.skip ?_
      refine ATodo.seq ?_
      refine ATodo.block ?_
      refine ATodo.seq ?_
      refine ATodo.region ?_
      refine ARun.qv (q_move rfl) rfl ?_
      refine ARun.qv (q_move rfl) rfl ?_
      refine n_buildSliceL (xs := ([(1 : Int), (1 : Int), (2 : Int), (5 : Int), (10 : Int), (10 : Int), (40 : Int), (127 : Int), (1000 : Int)]).map I) rfl rfl rfl rfl rfl rfl ?_
      obtain ⟨v15, e2, h⟩ := bnd h
      refine t_call0 rfl (Stream_Pick_c e2) (CoL.refl _) (.cons .here .nil) rfl rfl ?_
      refine ARun.qv (q_addw rfl rfl) rfl ?_
      refine ARun.qv (q_assign rfl) rfl ?_
      refine ARun.nil ?_
      refine ATodo.region ?_
      refine ARun.qv (q_move rfl) rfl ?_
      refine ARun.qv (q_move rfl) rfl ?_
      refine ARun.qv (q_move rfl) rfl ?_
      refine ARun.qv (q_move rfl) rfl ?_
      refine n_buildSliceL (xs := ([(0 : Int), (1 : Int), (2 : Int), (5 : Int), (7 : Int), (9 : Int), (-3 : Int), (-70 : Int), (100 : Int), (1000 : Int), (5 : Int)]).map I) rfl rfl rfl rfl rfl rfl ?_
      obtain ⟨v16, e3, h⟩ := bnd h
      refine t_call0 rfl (Stream_Pick_c e3) (CoL.refl _) (.cons .here .nil) rfl rfl ?_
      refine ARun.qv (q_max rfl rfl) rfl ?_
      refine ARun.qv (n_build rfl rfl rfl rfl rfl) rfl ?_
      refine n_buildSliceL (xs := ([(⟨([100] : Str), ([109] : Str), w64 (n12 + v15.1), max p2x0 v16.1⟩ : Sample)]).map Sample.av) rfl rfl rfl rfl rfl rfl ?_
      obtain ⟨l17, e4, h⟩ := bnd h
      refine t_append (g := Sample.av) rfl rfl rfl rfl rfl rfl rfl rfl (.list _) e4 (fun _ => (.next .here)) rfl (fun b18 => ?_)
      refine ARun.qv (q_assign rfl) rfl ?_
      refine ARun.nil ?_
      refine ATodo.blk ?_
      refine ATodo.region ?_
      refine ARun.qv (q_addw rfl rfl) rfl ?_
      refine ARun.qv (q_move rfl) rfl ?_
      refine ARun.nil ?_
      refine ATodo.stop ?_
      obtain rfl := Option.some.inj h
      refine hJ1 _ _ rfl ?_
      exact ImpX.lessP (by exact ⟨rfl, rfl, rfl, rfl, rfl, rfl, True.intro⟩) (.cons .here (.cons .here .nil)) (ImpX.here ⟨b18, rfl⟩)
    · replace h := iteF hc h
      refine ATodo.exit rfl ?_
      replace h := outL h hA1
      refine ATodo.seq ?_
      refine ATodo.region ?_
      refine ARun.qv (q_move rfl) rfl ?_
      refine ARun.qv (q_assign rfl) rfl ?_
      refine ARun.nil ?_
      refine ATodo.ret ?_
      obtain rfl := Option.some.inj h
      exact ImpX.here ⟨_, .cons (.tmp _ _ rfl) .nil, _, .cons .here (.cons .here .nil), ⟨b10, rfl, rfl⟩⟩

set_option maxHeartbeats 4000000 in
theorem Stream_Flip_c {b_0 : Bk} {p0x0 : Fleetmake_Stream} {p1x0 : Int} {r : Bool × Fleetmake_Stream} (h : Stream_Flip p0x0 p1x0 = some r) : ACall Try.prog 12 [.ptr b_0 0, I p1x0] [(b_0, .cells [.list 1 (p0x0.L.map I), I p0x0.at_])] (T0 ([(b_0, .cells [.list 1 (r.2.L.map I), I r.2.at_])]) (.bool r.1)) := by
  unfold Stream_Flip at h
  refine ACall.lessH ?_
  refine ACall.bodyN Try.func12 rfl Try.ntmps12 Try.results12 rfl rfl ?_
  refine ATodo.seq ?_
  refine ATodo.region ?_
  refine ARun.qv (q_assign rfl) rfl ?_
  refine ARun.nil ?_
  refine ATodo.seq ?_
  refine ATodo.region ?_
  refine ARun.qv (q_move rfl) rfl ?_
  refine ARun.qv (q_move rfl) rfl ?_
  obtain ⟨v1, e1, h⟩ := bnd h
  refine t_call0 rfl (Stream_Next_c e1) (CoL.refl _) (.cons .here .nil) rfl rfl ?_
  refine ARun.qv (q_eql rfl rfl) rfl ?_
  refine ARun.qv (q_assign rfl) rfl ?_
  refine ARun.nil ?_
  refine ATodo.ret ?_
  obtain rfl := Option.some.inj h
  exact ImpX.here ⟨_, .cons (.tmp _ _ rfl) .nil, _, .cons .here .nil, ⟨rfl, rfl⟩⟩

set_option maxHeartbeats 4000000 in
theorem Stream_Some_c {b_0 : Bk} {p0x0 : Fleetmake_Stream} {p1x0 : List Str} {r : Str × Fleetmake_Stream} (h : Stream_Some p0x0 p1x0 = some r) : ACall Try.prog 22 [.ptr b_0 0, .list 1 (p1x0.map AV.str)] [(b_0, .cells [.list 1 (p0x0.L.map I), I p0x0.at_])] (T0 ([(b_0, .cells [.list 1 (r.2.L.map I), I r.2.at_])]) (.str r.1)) := by
  unfold Stream_Some at h
  refine ACall.lessH ?_
  refine ACall.bodyN Try.func22 rfl Try.ntmps22 Try.results22 rfl rfl ?_
  refine ATodo.seq ?_
  refine ATodo.region ?_
  refine ARun.qv (q_assign rfl) rfl ?_
  refine ARun.nil ?_
  refine ATodo.seq ?_
  refine ATodo.region ?_
  refine ARun.qv (q_move rfl) rfl ?_
  refine ARun.qv (q_move rfl) rfl ?_
  refine ARun.qv (q_move rfl) rfl ?_
  refine ARun.qv (t_len rfl) rfl ?_
  obtain ⟨v1, e1, h⟩ := bnd h
  refine t_call0 rfl (Stream_Next_c e1) (CoL.refl _) (.cons .here .nil) rfl rfl ?_
  obtain ⟨v2, e2, h⟩ := bnd h
  refine ARun.qv (t_index rfl rfl rfl e2 rfl rfl) rfl ?_
  refine ARun.qv (q_load_rptr rfl rfl rfl) rfl ?_
  refine ARun.qv (q_assign rfl) rfl ?_
  refine ARun.nil ?_
  refine ATodo.ret ?_
  obtain rfl := Option.some.inj h
  exact ImpX.here ⟨_, .cons (.tmp _ _ rfl) .nil, _, .cons .here .nil, ⟨rfl, rfl⟩⟩

set_option maxHeartbeats 4000000 in
theorem Stream_Odd_c {b_0 : Bk} {p0x0 : Fleetmake_Stream} {p1x0 : Int} {p2x0 : Int} {r : Int × Fleetmake_Stream} (h : Stream_Odd p0x0 p1x0 p2x0 = some r) : ACall Try.prog 66 [.ptr b_0 0, I p1x0, I p2x0] [(b_0, .cells [.list 1 (p0x0.L.map I), I p0x0.at_])] (T0 ([(b_0, .cells [.list 1 (r.2.L.map I), I r.2.at_])]) (I r.1)) := by
  unfold Stream_Odd at h
  refine ACall.lessH ?_
  refine ACall.bodyN Try.func66 rfl Try.ntmps66 Try.results66 rfl rfl ?_
  refine ATodo.seq ?_
  refine ATodo.region ?_
  refine ARun.qv (q_assign rfl) rfl ?_
  refine ARun.nil ?_
  refine ATodo.seq ?_
  refine ATodo.seq ?_
  refine ATodo.region ?_
  refine ARun.qv (q_move rfl) rfl ?_
  obtain ⟨v1, e1, h⟩ := bnd h
  refine t_call0 rfl (Stream_Flip_c e1) (CoL.refl _) (.cons .here .nil) rfl rfl ?_
  refine ARun.nil ?_
  refine ATodo.cond rfl (fun hc => ?_) (fun hc => ?_)
  · replace h := iteT hc h
    refine ATodo.seq ?_
    refine ATodo.region ?_
    refine ARun.qv (q_move rfl) rfl ?_
    refine ARun.qv (q_move rfl) rfl ?_
    refine ARun.qv (q_subw rfl rfl) rfl ?_
    refine ARun.qv (q_move rfl) rfl ?_
    refine ARun.qv (q_addw rfl rfl) rfl ?_
    refine ARun.qv (q_move rfl) rfl ?_
    refine ARun.qv (q_move rfl) rfl ?_
    refine n_buildSliceL (xs := ([w64 (p1x0 - (1 : Int)), w64 (p2x0 + (1 : Int)), p1x0, p2x0, (-1099511627776 : Int), (1099511627776 : Int)]).map I) rfl rfl rfl rfl rfl rfl ?_
    obtain ⟨v2, e2, h⟩ := bnd h
    refine t_call0 rfl (Stream_Pick_c e2) (CoL.refl _) (.cons .here .nil) rfl rfl ?_
    refine ARun.qv (q_assign rfl) rfl ?_
    refine ARun.nil ?_
    refine ATodo.ret ?_
    obtain rfl := Option.some.inj h
    exact ImpX.here ⟨_, .cons (.tmp _ _ rfl) .nil, _, .cons .here .nil, ⟨rfl, rfl⟩⟩
  · replace h := iteFb hc h
    refine ATodo.skip ?_
    refine ATodo.seq ?_
    refine ATodo.region ?_
    refine ARun.qv (q_move rfl) rfl ?_
    refine ARun.qv (q_move rfl) rfl ?_
    refine ARun.qv (q_move rfl) rfl ?_
    obtain ⟨v3, e3, h⟩ := bnd h
    refine t_call0 rfl (Stream_Range_c e3) (CoL.refl _) (.cons .here .nil) rfl rfl ?_
    refine ARun.qv (q_assign rfl) rfl ?_
    refine ARun.nil ?_
    refine ATodo.ret ?_
    obtain rfl := Option.some.inj h
    exact ImpX.here ⟨_, .cons (.tmp _ _ rfl) .nil, _, .cons .here .nil, ⟨rfl, rfl⟩⟩

set_option maxHeartbeats 4000000 in
theorem Stream_Series_c {b_0 : Bk} {p0x0 : Fleetmake_Stream} {p1x0 : Int} {r : (List Sample) × Fleetmake_Stream} (h : Stream_Series p0x0 p1x0 = some r) : ACall Try.prog 9 [.ptr b_0 0, I p1x0] [(b_0, .cells [.list 1 (p0x0.L.map I), I p0x0.at_])] (T1 (fun d_0 => [(b_0, .cells [.list 1 (r.2.L.map I), I r.2.at_]), (d_0, .arr 4 (r.1.map Sample.av))]) (fun d_0 => .sl 4 d_0 0 r.1.length)) := by
  unfold Stream_Series at h
  refine ACall.lessH ?_
  refine ACall.bodyN Try.func9 rfl Try.ntmps9 Try.results9 rfl rfl ?_
  refine ATodo.seq ?_
  refine ATodo.region ?_
  refine ARun.qv (q_assign rfl) rfl ?_
  refine ARun.nil ?_
  refine ATodo.seq ?_
  refine ATodo.region ?_
  refine ARun.qv (q_move rfl) rfl ?_
  refine ARun.qv (q_move rfl) rfl ?_
  refine ARun.qv (q_move rfl) rfl ?_
  refine n_buildSliceL (xs := ([(0 : Int), (-100 : Int)]).map I) rfl rfl rfl rfl rfl rfl ?_
  obtain ⟨v1, e1, h⟩ := bnd h
  refine t_call0 rfl (Stream_Pick_c e1) (CoL.refl _) (.cons .here .nil) rfl rfl ?_
  obtain ⟨v2, e2, h⟩ := bnd h
  refine t_call1 rfl (Stream_RightSeries_c e2) (CoL.refl _) (.cons .here .nil) (fun _ => rfl) rfl (fun b3 => ?_)
  refine ARun.qv (q_assign rfl) rfl ?_
  refine ARun.nil ?_
  refine ATodo.seq ?_
  refine ATodo.seq ?_
  refine ATodo.cut (fun σ' => ∃ (l4 : List Int) (n5 : Int) (c6 : Bool), Stream_Series_j1 v2 l4 n5 c6 = some r ∧ σ' = ⟨82, [(0, .ptr b_0 0), (5, .sl 4 b3 0 v2.1.length), (20, .bool c6)], [(b_0, .cells [.list 1 (l4.map I), I n5]), (b3, .arr 4 (v2.1.map Sample.av))]⟩) ?_ ?_
  · refine ATodo.region ?_
    refine ARun.qv (q_move rfl) rfl ?_
    refine ARun.qv (t_len_sl rfl) rfl ?_
    refine ARun.qv (q_gtr rfl rfl) rfl ?_
    refine ARun.qv (q_move rfl) rfl ?_
    refine ARun.guard_dt rfl rfl rfl (fun hc => ?_) (fun hc => ?_)
    · replace h := iteT hc h
      refine ARun.qv (q_move rfl) rfl ?_
      refine ARun.guard_yes rfl rfl rfl ?_
      obtain ⟨v7, e3, h⟩ := bnd h
      refine t_call0 rfl (Stream_Flip_c e3) (CoL.refl _) (.cons .here .nil) rfl rfl ?_
      refine ARun.qv (q_pick_t rfl rfl) rfl ?_
      refine ARun.nil ?_
      refine ATodo.stop ?_
      exact ImpX.lessP (by exact ⟨rfl, rfl, rfl, True.intro⟩) (.cons .here (.cons .here .nil)) (ImpX.here ⟨v7.2.L, v7.2.at_, v7.1, h, rfl⟩)
    · replace h := iteF hc h
      refine ARun.guard_no rfl rfl rfl rfl ?_
      refine ARun.qv (q_pick_f rfl rfl) rfl ?_
      refine ARun.nil ?_
      refine ATodo.stop ?_
      exact ImpX.lessP (by exact ⟨rfl, rfl, rfl, True.intro⟩) (.cons .here (.cons .here .nil)) (ImpX.here ⟨v2.2.L, v2.2.at_, false, h, rfl⟩)
  · rintro σ' ⟨l4, n5, c6, h, rfl⟩
    unfold Stream_Series_j1 at h
    refine ATodo.cut (fun σ' => ∃ (l8 : List Int) (n9 : Int) (l10 : List Sample), Stream_Series_j2 l8 n9 l10 = some r ∧ σ' = ⟨82, [(0, .ptr b_0 0), (5, .sl 4 b3 0 l10.length)], [(b_0, .cells [.list 1 (l8.map I), I n9]), (b3, .arr 4 (l10.map Sample.av))]⟩) ?_ ?_
    · refine ATodo.cond rfl (fun hc => ?_) (fun hc => ?_)
      · replace h := iteT hc h
        refine ATodo.seq ?_
        refine ATodo.region ?_
        refine ARun.qv (q_move rfl) rfl ?_
        refine ARun.qv (q_move rfl) rfl ?_
        refine ARun.qv (q_move rfl) rfl ?_
        refine ARun.qv (t_len_sl rfl) rfl ?_
        obtain ⟨v11, e4, h⟩ := bnd h
        refine t_call0 rfl (Stream_Next_c e4) (CoL.refl _) (.cons .here .nil) rfl rfl ?_
        obtain ⟨v12, e5, h⟩ := bnd h
        refine ARun.qv (t_index_sl rfl rfl rfl e5) rfl ?_
        refine ARun.qv (q_assign rfl) rfl ?_
        refine ARun.nil ?_
        refine ATodo.seq ?_
        refine ATodo.region ?_
        refine ARun.qv (q_move rfl) rfl ?_
        obtain ⟨v13, e6, h⟩ := bnd h
        refine t_call0 rfl (Stream_Next_c e6) (CoL.refl _) (.cons .here .nil) rfl rfl ?_
        refine ARun.nil ?_
        refine ATodo.block ?_
        refine ATodo.seq ?_
        refine ATodo.region ?_
        refine ARun.qv (q_eql rfl rfl) rfl ?_
        refine ARun.qv (q_assign rfl) rfl ?_
        refine ARun.nil ?_
        refine ATodo.cut (fun σ' => ∃ (l14 : List Int) (n15 : Int) (l16 : List Sample), Stream_Series_j3 l14 n15 l16 = some r ∧ σ' = ⟨82, [(0, .ptr b_0 0), (5, .sl 4 b3 0 l16.length)], [(b_0, .cells [.list 1 (l14.map I), I n15]), (b3, .arr 4 (l16.map Sample.av))]⟩) ?_ ?_
        · refine ATodo.cond_d rfl (fun hc => ?_) (fun hc => ?_)
          · replace h := iteT hc h
            refine ATodo.region ?_
            refine ARun.qv (q_move rfl) rfl ?_
            refine ARun.qv (q_move rfl) rfl ?_
            refine n_buildSliceL (xs := ([([] : Str), ([101] : Str), ([65] : Str)]).map AV.str) rfl rfl rfl rfl rfl rfl ?_
            obtain ⟨v17, e7, h⟩ := bnd h
            refine t_call0 rfl (Stream_Some_c e7) (CoL.refl _) (.cons .here .nil) rfl rfl ?_
            refine ARun.qv (q_nilCheck_aptr rfl) rfl ?_
            refine ARun.qv (t_field_aptr rfl rfl) rfl ?_
            refine t_store_aptr1 (g := Sample.av) (el' := (⟨v17.1, v12.Metric, v12.At, v12.Value⟩ : Sample)) rfl rfl rfl rfl e5 rfl (.next .here) rfl ?_
            refine ARun.ghost (ImpX.eqs (s := 5) (av' := .sl 4 b3 0 (v2.1.set v11.1.toNat (⟨v17.1, v12.Metric, v12.At, v12.Value⟩ : Sample)).length) rfl (by rw [List.length_set]) (ImpX.here ?_))
            refine ARun.ghost (ImpX.eqs (s := 21) (av' := .sl 4 b3 0 (v2.1.set v11.1.toNat (⟨v17.1, v12.Metric, v12.At, v12.Value⟩ : Sample)).length) rfl (by rw [List.length_set]) (ImpX.here ?_))
            refine ARun.ghost (ImpX.eqs (s := 23) (av' := .sl 4 b3 0 (v2.1.set v11.1.toNat (⟨v17.1, v12.Metric, v12.At, v12.Value⟩ : Sample)).length) rfl (by rw [List.length_set]) (ImpX.here ?_))
            refine ARun.nil ?_
            refine ATodo.stop ?_
            exact ImpX.lessP (by exact ⟨rfl, rfl, True.intro⟩) (.cons .here (.cons .here .nil)) (ImpX.here ⟨v17.2.L, v17.2.at_, v2.1.set v11.1.toNat (⟨v17.1, v12.Metric, v12.At, v12.Value⟩ : Sample), h, rfl⟩)
          · replace h := iteF hc h
            refine ATodo.seq ?_
            refine ATodo.region ?_
            refine ARun.qv (q_eql rfl rfl) rfl ?_
            refine ARun.qv (q_assign rfl) rfl ?_
            refine ARun.nil ?_
            refine ATodo.cut (fun σ' => ∃ (l18 : List Int) (n19 : Int) (l20 : List Sample), Stream_Series_j4 l18 n19 l20 = some r ∧ σ' = ⟨82, [(0, .ptr b_0 0), (5, .sl 4 b3 0 l20.length)], [(b_0, .cells [.list 1 (l18.map I), I n19]), (b3, .arr 4 (l20.map Sample.av))]⟩) ?_ ?_
            · refine ATodo.cond_d rfl (fun hc => ?_) (fun hc => ?_)
              · replace h := iteT hc h
                refine ATodo.region ?_
                refine ARun.qv (q_move rfl) rfl ?_
                refine ARun.qv (q_move rfl) rfl ?_
                refine n_buildSliceL (xs := ([([] : Str), ([110] : Str)]).map AV.str) rfl rfl rfl rfl rfl rfl ?_
                obtain ⟨v21, e8, h⟩ := bnd h
                refine t_call0 rfl (Stream_Some_c e8) (CoL.refl _) (.cons .here .nil) rfl rfl ?_
                refine ARun.qv (q_nilCheck_aptr rfl) rfl ?_
                refine ARun.qv (t_field_aptr rfl rfl) rfl ?_
                refine t_store_aptr1 (g := Sample.av) (el' := (⟨v12.Device, v21.1, v12.At, v12.Value⟩ : Sample)) rfl rfl rfl rfl e5 rfl (.next .here) rfl ?_
                refine ARun.ghost (ImpX.eqs (s := 5) (av' := .sl 4 b3 0 (v2.1.set v11.1.toNat (⟨v12.Device, v21.1, v12.At, v12.Value⟩ : Sample)).length) rfl (by rw [List.length_set]) (ImpX.here ?_))
                refine ARun.ghost (ImpX.eqs (s := 21) (av' := .sl 4 b3 0 (v2.1.set v11.1.toNat (⟨v12.Device, v21.1, v12.At, v12.Value⟩ : Sample)).length) rfl (by rw [List.length_set]) (ImpX.here ?_))
                refine ARun.ghost (ImpX.eqs (s := 23) (av' := .sl 4 b3 0 (v2.1.set v11.1.toNat (⟨v12.Device, v21.1, v12.At, v12.Value⟩ : Sample)).length) rfl (by rw [List.length_set]) (ImpX.here ?_))
                refine ARun.nil ?_
                refine ATodo.stop ?_
                exact ImpX.lessP (by exact ⟨rfl, rfl, True.intro⟩) (.cons .here (.cons .here .nil)) (ImpX.here ⟨v21.2.L, v21.2.at_, v2.1.set v11.1.toNat (⟨v12.Device, v21.1, v12.At, v12.Value⟩ : Sample), h, rfl⟩)
              · replace h := iteF hc h
                refine ATodo.seq ?_
                refine ATodo.region ?_
                refine ARun.qv (q_eql rfl rfl) rfl ?_
                refine ARun.qv (q_assign rfl) rfl ?_
                refine ARun.nil ?_
                refine ATodo.cut (fun σ' => ∃ (l22 : List Int) (n23 : Int) (l24 : List Sample), Stream_Series_j5 l22 n23 l24 = some r ∧ σ' = ⟨82, [(0, .ptr b_0 0), (5, .sl 4 b3 0 l24.length)], [(b_0, .cells [.list 1 (l22.map I), I n23]), (b3, .arr 4 (l24.map Sample.av))]⟩) ?_ ?_
                · refine ATodo.cond_d rfl (fun hc => ?_) (fun hc => ?_)
                  · replace h := iteT hc h
                    refine ATodo.region ?_
                    refine ARun.qv (q_move rfl) rfl ?_
                    refine ARun.qv (q_move rfl) rfl ?_
                    obtain ⟨v25, e9, h⟩ := bnd h
                    refine t_call0 rfl (Stream_Odd_c e9) (CoL.refl _) (.cons .here .nil) rfl rfl ?_
                    refine ARun.qv (q_nilCheck_aptr rfl) rfl ?_
                    refine ARun.qv (t_field_aptr rfl rfl) rfl ?_
                    refine t_store_aptr1 (g := Sample.av) (el' := (⟨v12.Device, v12.Metric, v25.1, v12.Value⟩ : Sample)) rfl rfl rfl rfl e5 rfl (.next .here) rfl ?_
                    refine ARun.ghost (ImpX.eqs (s := 5) (av' := .sl 4 b3 0 (v2.1.set v11.1.toNat (⟨v12.Device, v12.Metric, v25.1, v12.Value⟩ : Sample)).length) rfl (by rw [List.length_set]) (ImpX.here ?_))
                    refine ARun.ghost (ImpX.eqs (s := 21) (av' := .sl 4 b3 0 (v2.1.set v11.1.toNat (⟨v12.Device, v12.Metric, v25.1, v12.Value⟩ : Sample)).length) rfl (by rw [List.length_set]) (ImpX.here ?_))
                    refine ARun.ghost (ImpX.eqs (s := 23) (av' := .sl 4 b3 0 (v2.1.set v11.1.toNat (⟨v12.Device, v12.Metric, v25.1, v12.Value⟩ : Sample)).length) rfl (by rw [List.length_set]) (ImpX.here ?_))
                    refine ARun.nil ?_
                    refine ATodo.stop ?_
                    exact ImpX.lessP (by exact ⟨rfl, rfl, True.intro⟩) (.cons .here (.cons .here .nil)) (ImpX.here ⟨v25.2.L, v25.2.at_, v2.1.set v11.1.toNat (⟨v12.Device, v12.Metric, v25.1, v12.Value⟩ : Sample), h, rfl⟩)
                  · replace h := iteF hc h
                    refine ATodo.region ?_
                    refine ARun.qv (q_move rfl) rfl ?_
                    refine ARun.qv (q_move rfl) rfl ?_
                    obtain ⟨v26, e10, h⟩ := bnd h
                    refine t_call0 rfl (Stream_Odd_c e10) (CoL.refl _) (.cons .here .nil) rfl rfl ?_
                    refine ARun.qv (q_nilCheck_aptr rfl) rfl ?_
                    refine ARun.qv (t_field_aptr rfl rfl) rfl ?_
                    refine t_store_aptr1 (g := Sample.av) (el' := (⟨v12.Device, v12.Metric, v12.At, v26.1⟩ : Sample)) rfl rfl rfl rfl e5 rfl (.next .here) rfl ?_
                    refine ARun.ghost (ImpX.eqs (s := 5) (av' := .sl 4 b3 0 (v2.1.set v11.1.toNat (⟨v12.Device, v12.Metric, v12.At, v26.1⟩ : Sample)).length) rfl (by rw [List.length_set]) (ImpX.here ?_))
                    refine ARun.ghost (ImpX.eqs (s := 21) (av' := .sl 4 b3 0 (v2.1.set v11.1.toNat (⟨v12.Device, v12.Metric, v12.At, v26.1⟩ : Sample)).length) rfl (by rw [List.length_set]) (ImpX.here ?_))
                    refine ARun.ghost (ImpX.eqs (s := 23) (av' := .sl 4 b3 0 (v2.1.set v11.1.toNat (⟨v12.Device, v12.Metric, v12.At, v26.1⟩ : Sample)).length) rfl (by rw [List.length_set]) (ImpX.here ?_))
                    refine ARun.nil ?_
                    refine ATodo.stop ?_
                    exact ImpX.lessP (by exact ⟨rfl, rfl, True.intro⟩) (.cons .here (.cons .here .nil)) (ImpX.here ⟨v26.2.L, v26.2.at_, v2.1.set v11.1.toNat (⟨v12.Device, v12.Metric, v12.At, v26.1⟩ : Sample), h, rfl⟩)
                · rintro σ' ⟨l22, n23, l24, h, rfl⟩
                  unfold Stream_Series_j5 at h
                  refine ATodo.stop ?_
                  exact ImpX.lessP (by exact ⟨rfl, rfl, True.intro⟩) (.cons .here (.cons .here .nil)) (ImpX.here ⟨l22, n23, l24, h, rfl⟩)
            · rintro σ' ⟨l18, n19, l20, h, rfl⟩
              unfold Stream_Series_j4 at h
              refine ATodo.stop ?_
              exact ImpX.lessP (by exact ⟨rfl, rfl, True.intro⟩) (.cons .here (.cons .here .nil)) (ImpX.here ⟨l18, n19, l20, h, rfl⟩)
        · rintro σ' ⟨l14, n15, l16, h, rfl⟩
          unfold Stream_Series_j3 at h
          refine ATodo.blk ?_
          refine ATodo.stop ?_
          exact ImpX.lessP (by exact ⟨rfl, rfl, True.intro⟩) (.cons .here (.cons .here .nil)) (ImpX.here ⟨l14, n15, l16, h, rfl⟩)
      · replace h := iteFb hc h
        refine ATodo.skip ?_
        refine ATodo.stop ?_
        exact ImpX.lessP (by exact ⟨rfl, rfl, True.intro⟩) (.cons .here (.cons .here .nil)) (ImpX.here ⟨l4, n5, v2.1, h, rfl⟩)
    · rintro σ' ⟨l8, n9, l10, h, rfl⟩
      unfold Stream_Series_j2 at h
      refine ATodo.seq ?_
      refine ATodo.seq ?_
      refine ATodo.cut (fun σ' => ∃ (l27 : List Int) (n28 : Int) (c29 : Bool), Stream_Series_j6 l10 l27 n28 c29 = some r ∧ σ' = ⟨82, [(0, .ptr b_0 0), (5, .sl 4 b3 0 l10.length), (63, .bool c29)], [(b_0, .cells [.list 1 (l27.map I), I n28]), (b3, .arr 4 (l10.map Sample.av))]⟩) ?_ ?_
      · refine ATodo.region ?_
        refine ARun.qv (q_move rfl) rfl ?_
        refine ARun.qv (t_len_sl rfl) rfl ?_
        refine ARun.qv (q_gtr rfl rfl) rfl ?_
        refine ARun.qv (q_move rfl) rfl ?_
        refine ARun.guard_dt rfl rfl rfl (fun hc => ?_) (fun hc => ?_)
        · replace h := iteT hc h
          refine ARun.qv (q_move rfl) rfl ?_
          refine ARun.guard_yes rfl rfl rfl ?_
          obtain ⟨v30, e11, h⟩ := bnd h
          refine t_call0 rfl (Stream_Flip_c e11) (CoL.refl _) (.cons .here .nil) rfl rfl ?_
          refine ARun.qv (q_pick_t rfl rfl) rfl ?_
          refine ARun.nil ?_
          refine ATodo.stop ?_
          exact ImpX.lessP (by exact ⟨rfl, rfl, rfl, True.intro⟩) (.cons .here (.cons .here .nil)) (ImpX.here ⟨v30.2.L, v30.2.at_, v30.1, h, rfl⟩)
        · replace h := iteF hc h
          refine ARun.guard_no rfl rfl rfl rfl ?_
          refine ARun.qv (q_pick_f rfl rfl) rfl ?_
          refine ARun.nil ?_
          refine ATodo.stop ?_
          exact ImpX.lessP (by exact ⟨rfl, rfl, rfl, True.intro⟩) (.cons .here (.cons .here .nil)) (ImpX.here ⟨l8, n9, false, h, rfl⟩)
      · rintro σ' ⟨l27, n28, c29, h, rfl⟩
        unfold Stream_Series_j6 at h
        refine ATodo.cut (fun σ' => ∃ (l31 : List Int) (n32 : Int) (l33 : List Sample), Stream_Series_j7 l31 n32 l33 = some r ∧ σ' = ⟨82, [(5, .sl 4 b3 0 l33.length)], [(b_0, .cells [.list 1 (l31.map I), I n32]), (b3, .arr 4 (l33.map Sample.av))]⟩) ?_ ?_
        · refine ATodo.cond rfl (fun hc => ?_) (fun hc => ?_)
          · replace h := iteT hc h
            refine ATodo.seq ?_
            refine ATodo.region ?_
            refine ARun.qv (q_move rfl) rfl ?_
            refine ARun.qv (q_move rfl) rfl ?_
            refine ARun.qv (t_len_sl rfl) rfl ?_
            refine ARun.qv (q_subw rfl rfl) rfl ?_
            obtain ⟨v34, e12, h⟩ := bnd h
            refine ARun.qv (t_index_sl rfl rfl rfl e12) rfl ?_
            refine ARun.qv (q_assign rfl) rfl ?_
            refine ARun.nil ?_
            refine ATodo.region ?_
            refine ARun.qv (q_move rfl) rfl ?_
            refine ARun.qv (q_move rfl) rfl ?_
            refine ARun.qv (q_move rfl) rfl ?_
            refine n_buildSliceL (xs := ([(345686399999 : Int), (3456000000 : Int), (950400000 : Int)]).map I) rfl rfl rfl rfl rfl rfl ?_
            obtain ⟨v35, e13, h⟩ := bnd h
            refine t_call0 rfl (Stream_Pick_c e13) (CoL.refl _) (.cons .here .nil) rfl rfl ?_
            refine ARun.qv (q_move rfl) rfl ?_
            refine n_buildSliceL (xs := ([(1000000000 : Int), (-1000000000 : Int)]).map I) rfl rfl rfl rfl rfl rfl ?_
            obtain ⟨v36, e14, h⟩ := bnd h
            refine t_call0 rfl (Stream_Pick_c e14) (CoL.refl _) (.cons .here .nil) rfl rfl ?_
            refine ARun.qv (q_nilCheck_aptr rfl) rfl ?_
            refine ARun.qv (t_field_aptr rfl rfl) rfl ?_
            refine t_store_aptr1 (g := Sample.av) (el' := (⟨v34.Device, v34.Metric, v35.1, v34.Value⟩ : Sample)) rfl rfl rfl rfl e12 rfl (.next .here) rfl ?_
            refine ARun.ghost (ImpX.eqs (s := 5) (av' := .sl 4 b3 0 (l10.set (w64 ((l10.length : Int) - (1 : Int))).toNat (⟨v34.Device, v34.Metric, v35.1, v34.Value⟩ : Sample)).length) rfl (by rw [List.length_set]) (ImpX.here ?_))
            refine ARun.ghost (ImpX.eqs (s := 64) (av' := .sl 4 b3 0 (l10.set (w64 ((l10.length : Int) - (1 : Int))).toNat (⟨v34.Device, v34.Metric, v35.1, v34.Value⟩ : Sample)).length) rfl (by rw [List.length_set]) (ImpX.here ?_))
            refine ARun.ghost (ImpX.eqs (s := 65) (av' := .sl 4 b3 0 (l10.set (w64 ((l10.length : Int) - (1 : Int))).toNat (⟨v34.Device, v34.Metric, v35.1, v34.Value⟩ : Sample)).length) rfl (by rw [List.length_set]) (ImpX.here ?_))
            refine ARun.qv (q_nilCheck_aptr rfl) rfl ?_
            refine ARun.qv (t_field_aptr rfl rfl) rfl ?_
            refine t_store_aptr1 (g := Sample.av) (el' := (⟨v34.Device, v34.Metric, v35.1, v36.1⟩ : Sample)) rfl rfl rfl rfl (idx_set_self (v := (⟨v34.Device, v34.Metric, v35.1, v34.Value⟩ : Sample)) e12) rfl (.next .here) rfl ?_
            refine ARun.ghost (ImpX.eqs (s := 5) (av' := .sl 4 b3 0 ((l10.set (w64 ((l10.length : Int) - (1 : Int))).toNat (⟨v34.Device, v34.Metric, v35.1, v34.Value⟩ : Sample)).set (w64 ((l10.length : Int) - (1 : Int))).toNat (⟨v34.Device, v34.Metric, v35.1, v36.1⟩ : Sample)).length) rfl (by rw [List.length_set]) (ImpX.here ?_))
            refine ARun.ghost (ImpX.eqs (s := 64) (av' := .sl 4 b3 0 ((l10.set (w64 ((l10.length : Int) - (1 : Int))).toNat (⟨v34.Device, v34.Metric, v35.1, v34.Value⟩ : Sample)).set (w64 ((l10.length : Int) - (1 : Int))).toNat (⟨v34.Device, v34.Metric, v35.1, v36.1⟩ : Sample)).length) rfl (by rw [List.length_set]) (ImpX.here ?_))
            refine ARun.ghost (ImpX.eqs (s := 65) (av' := .sl 4 b3 0 ((l10.set (w64 ((l10.length : Int) - (1 : Int))).toNat (⟨v34.Device, v34.Metric, v35.1, v34.Value⟩ : Sample)).set (w64 ((l10.length : Int) - (1 : Int))).toNat (⟨v34.Device, v34.Metric, v35.1, v36.1⟩ : Sample)).length) rfl (by rw [List.length_set]) (ImpX.here ?_))
            refine ARun.nil ?_
            refine ATodo.stop ?_
            exact ImpX.lessP (by exact ⟨rfl, True.intro⟩) (.cons .here (.cons .here .nil)) (ImpX.here ⟨v36.2.L, v36.2.at_, (l10.set (w64 ((l10.length : Int) - (1 : Int))).toNat (⟨v34.Device, v34.Metric, v35.1, v34.Value⟩ : Sample)).set (w64 ((l10.length : Int) - (1 : Int))).toNat (⟨v34.Device, v34.Metric, v35.1, v36.1⟩ : Sample), h, rfl⟩)
          · replace h := iteFb hc h
            refine ATodo.skip ?_
            refine ATodo.stop ?_
            exact ImpX.lessP (by exact ⟨rfl, True.intro⟩) (.cons .here (.cons .here .nil)) (ImpX.here ⟨l27, n28, l10, h, rfl⟩)
        · rintro σ' ⟨l31, n32, l33, h, rfl⟩
          unfold Stream_Series_j7 at h
          refine ATodo.seq ?_
          refine ATodo.region ?_
          refine ARun.qv (q_move rfl) rfl ?_
          refine ARun.qv (q_assign rfl) rfl ?_
          refine ARun.nil ?_
          refine ATodo.ret ?_
          obtain rfl := Option.some.inj h
          exact ImpX.here ⟨_, .cons (.tmp _ _ rfl) .nil, _, .cons .here (.cons .here .nil), ⟨b3, rfl, rfl⟩⟩

set_option maxHeartbeats 4000000 in
theorem Q_sevens_bd_c {self : Int → Option (List Int)} (self_h : ∀ {p0x0 : Int} {r : (List Int)}, self p0x0 = some r → ACall Try.prog 83 [I p0x0] [] (T1 (fun d_0 => [(d_0, .arr 1 (r.map (AV.int .u8)))]) (fun d_0 => .sl 1 d_0 0 r.length))) {p0x0 : Int} {r : (List Int)} (h : Q_sevens_bd self p0x0 = some r) : ACall Try.prog 83 [I p0x0] [] (T1 (fun d_0 => [(d_0, .arr 1 (r.map (AV.int .u8)))]) (fun d_0 => .sl 1 d_0 0 r.length)) := by
  unfold Q_sevens_bd at h
  refine ACall.lessH ?_
  refine ACall.bodyN Try.func83 rfl Try.ntmps83 Try.results83 rfl rfl ?_
  refine ATodo.seq ?_
  refine ATodo.region ?_
  refine ARun.qv (q_assign rfl) rfl ?_
  refine ARun.nil ?_
  refine ATodo.seq ?_
  refine ATodo.seq ?_
  refine ATodo.region ?_
  refine ARun.qv (q_move rfl) rfl ?_
  refine ARun.qv (q_lss rfl rfl) rfl ?_
  refine ARun.nil ?_
  refine ATodo.cond_d rfl (fun hc => ?_) (fun hc => ?_)
  · replace h := iteT hc h
    refine ATodo.seq ?_
    refine ATodo.region ?_
    refine ARun.qv (q_move rfl) rfl ?_
    refine ARun.qv (q_conv_int rfl) rfl ?_
    refine n_buildSlice rfl rfl rfl rfl rfl rfl (fun b1 => ?_)
    refine ARun.qv (q_assign rfl) rfl ?_
    refine ARun.nil ?_
    refine ATodo.ret ?_
    obtain rfl := Option.some.inj h
    exact ImpX.here ⟨_, .cons (.tmp _ _ rfl) .nil, _, .cons .here .nil, ⟨b1, rfl, rfl⟩⟩
  · replace h := iteF hc h
    refine ATodo.skip ?_
    refine ATodo.seq ?_
    refine ATodo.region ?_
    refine ARun.qv (q_move rfl) rfl ?_
    refine ARun.qv (q_rem rfl rfl (by decide)) rfl ?_
    refine ARun.qv (q_addw rfl rfl) rfl ?_
    refine ARun.qv (q_conv_int rfl) rfl ?_
    refine n_buildSlice rfl rfl rfl rfl rfl rfl (fun b2 => ?_)
    refine ARun.qv (q_move rfl) rfl ?_
    refine ARun.qv (t_quo rfl rfl (by decide)) rfl ?_
    obtain ⟨v3, e1, h⟩ := bnd h
    refine t_call1 rfl (self_h e1) (CoL.refl _) .nil (fun _ => rfl) rfl (fun b4 => ?_)
    obtain ⟨l5, e2, h⟩ := bnd h
    refine t_append (g := (AV.int .u8)) rfl rfl rfl rfl rfl rfl rfl rfl (bound_src (.inl .here) rfl) e2 (fun _ => (.next .here)) rfl (fun b6 => ?_)
    refine ARun.qv (q_assign rfl) rfl ?_
    refine ARun.nil ?_
    refine ATodo.ret ?_
    obtain rfl := Option.some.inj h
    exact ImpX.here ⟨_, .cons (.tmp _ _ rfl) .nil, _, .cons (.next .here) .nil, ⟨b6, rfl, rfl⟩⟩
theorem Q_sevens_r_c : ∀ (k : Nat) {p0x0 : Int} {r : (List Int)}, Q_sevens_r k p0x0 = some r → ACall Try.prog 83 [I p0x0] [] (T1 (fun d_0 => [(d_0, .arr 1 (r.map (AV.int .u8)))]) (fun d_0 => .sl 1 d_0 0 r.length)) := by
  intro k
  induction k with
  | zero => intro p0x0 r h; cases h
  | succ k ih => intro p0x0 r h; exact Q_sevens_bd_c ih h
theorem Q_sevens_c {p0x0 : Int} {r : (List Int)} (h : Q_sevens p0x0 = some r) : ACall Try.prog 83 [I p0x0] [] (T1 (fun d_0 => [(d_0, .arr 1 (r.map (AV.int .u8)))]) (fun d_0 => .sl 1 d_0 0 r.length)) := Q_sevens_r_c depth h

set_option maxHeartbeats 4000000 in
theorem Q_turned_c {p0x0 : Int} {r : Int} (h : Q_turned p0x0 = r) : Pu Try.prog 84 [I p0x0] (I r) := by
  unfold Q_turned at h
  refine ACall.bodyN Try.func84 rfl Try.ntmps84 Try.results84 rfl rfl ?_
  refine ATodo.seq ?_
  refine ATodo.region ?_
  refine ARun.qv (q_assign rfl) rfl ?_
  refine ARun.nil ?_
  refine ATodo.seq ?_
  refine ATodo.seq ?_
  refine ATodo.region ?_
  refine ARun.qv (q_move rfl) rfl ?_
  refine ARun.qv (q_lss rfl rfl) rfl ?_
  refine ARun.nil ?_
  refine ATodo.cond_d rfl (fun hc => ?_) (fun hc => ?_)
  · replace h := iteT hc h
    refine ATodo.seq ?_
    refine ATodo.region ?_
    refine ARun.qv (q_move rfl) rfl ?_
    refine ARun.qv (q_mulw rfl rfl) rfl ?_
    refine ARun.qv (q_subw rfl rfl) rfl ?_
    refine ARun.qv (q_assign rfl) rfl ?_
    refine ARun.nil ?_
    refine ATodo.ret ?_
    obtain rfl := h
    exact ImpX.here ⟨_, .cons (.tmp _ _ rfl) .nil, rfl⟩
  · replace h := iteF hc h
    refine ATodo.skip ?_
    refine ATodo.seq ?_
    refine ATodo.region ?_
    refine ARun.qv (q_move rfl) rfl ?_
    refine ARun.qv (q_mulw rfl rfl) rfl ?_
    refine ARun.qv (q_assign rfl) rfl ?_
    refine ARun.nil ?_
    refine ATodo.ret ?_
    obtain rfl := h
    exact ImpX.here ⟨_, .cons (.tmp _ _ rfl) .nil, rfl⟩

set_option maxHeartbeats 4000000 in
theorem Q_PackOf_c {p0x0 : List Sample} {r : (List Int)} (h : Q_PackOf p0x0 = some r) : ACall Try.prog 26 [.list 4 (p0x0.map Sample.av)] [] (T1 (fun d_0 => [(d_0, .arr 1 (r.map (AV.int .u8)))]) (fun d_0 => .sl 1 d_0 0 r.length)) := by
  unfold Q_PackOf at h
  refine ACall.lessH ?_
  refine ACall.bodyN Try.func26 rfl Try.ntmps26 Try.results26 rfl rfl ?_
  refine ATodo.seq ?_
  refine ATodo.region ?_
  refine ARun.qv (q_assign rfl) rfl ?_
  refine ARun.nil ?_
  refine ATodo.seq ?_
  refine ATodo.region ?_
  refine ARun.qv (q_move rfl) rfl ?_
  refine ARun.qv (t_len rfl) rfl ?_
  obtain ⟨v1, e1, h⟩ := bnd h
  refine t_call1 rfl (Q_sevens_c e1) (CoL.refl _) .nil (fun _ => rfl) rfl (fun b2 => ?_)
  refine ARun.qv (q_assign rfl) rfl ?_
  refine ARun.nil ?_
  refine ATodo.seq ?_
  refine ATodo.region ?_
  refine ARun.qv (q_assign rfl) rfl ?_
  refine ARun.qv (q_assign rfl) rfl ?_
  refine ARun.qv (q_assign rfl) rfl ?_
  refine ARun.nil ?_
  refine ATodo.seq ?_
  refine ATodo.seq ?_
  refine ATodo.region ?_
  refine ARun.qv (q_move rfl) rfl ?_
  refine ARun.qv (t_len rfl) rfl ?_
  refine ARun.qv (q_move rfl) rfl ?_
  refine ARun.nil ?_
  refine ATodo.block ?_
  refine ATodo.loopI (fun x : (List Int) × Int × Int × Int × Int => Q_PackOf_b1 p0x0 x.1 x.2.1 x.2.2.1 x.2.2.2.1 x.2.2.2.2) (fun x σ' => ∃ (b9 : Bk), σ' = ⟨48, [(3, .sl 1 b9 0 x.1.length), (4, I x.2.1), (5, I x.2.2.1), (6, I x.2.2.2.1), (13, .list 4 (p0x0.map Sample.av)), (14, I (p0x0.length : Int)), (15, I x.2.2.2.2)], [(b9, .arr 1 (x.1.map (AV.int .u8)))]⟩) h ?_ ?_
  · exact ImpX.lessP (by exact ⟨rfl, rfl, rfl, rfl, rfl, rfl, rfl, True.intro⟩) (.cons .here .nil) (ImpX.here ⟨b2, rfl⟩)
  · intro x z1 σ' J1 hmk h hJ1 hA1
    obtain ⟨l10, n11, n12, n13, n14⟩ := x
    obtain ⟨b9, rfl⟩ := hmk
    replace h : Q_PackOf_b1 p0x0 l10 n11 n12 n13 n14 = some z1 := h
    unfold Q_PackOf_b1 at h
    refine ATodo.seq ?_
    refine ATodo.region ?_
    refine ARun.qv (q_lss rfl rfl) rfl ?_
    refine ARun.nil ?_
    refine ATodo.seq ?_
    refine ATodo.cond_d rfl (fun hc => ?_) (fun hc => ?_)
    · replace h := iteT hc h
      refine ATodo.skip ?_
      refine ATodo.seq ?_
      refine ATodo.block ?_
      refine ATodo.seq ?_
      refine ATodo.region ?_
      refine ARun.qv (q_move rfl) rfl ?_
      obtain ⟨v15, e2, h⟩ := bnd h
      refine ARun.qv (t_index rfl rfl rfl e2 rfl rfl) rfl ?_
      refine ARun.qv (q_load_rptr_agg rfl rfl rfl) rfl ?_
      refine n_alloc rfl rfl rfl rfl (fun b16 => ?_)
      refine ARun.qv (q_assign rfl) rfl ?_
      refine n_store_ptr rfl rfl rfl rfl .here rfl rfl ?_
      refine ARun.nil ?_
      refine ATodo.seq ?_
      refine ATodo.region ?_
      refine ARun.qv (n_field_ptr rfl rfl) rfl ?_
      refine ARun.qv (q_load_ptr rfl rfl .here rfl) rfl ?_
      refine ARun.qv (q_move rfl) rfl ?_
      refine ARun.qv (q_subw rfl rfl) rfl ?_
      refine ARun.qv (q_assign rfl) rfl ?_
      refine ARun.nil ?_
      refine ATodo.seq ?_
      refine ATodo.region ?_
      refine ARun.qv (q_move rfl) rfl ?_
      refine ARun.qv (q_move rfl) rfl ?_
      refine ARun.qv (q_move rfl) rfl ?_
      refine ARun.qv (q_subw rfl rfl) rfl ?_
      refine r_callp rfl (Q_turned_c rfl) (CoL.refl _) rfl ?_
      obtain ⟨v17, e3, h⟩ := bnd h
      refine t_call1 rfl (Q_sevens_c e3) (CoL.refl _) .nil (fun _ => rfl) rfl (fun b18 => ?_)
      obtain ⟨l19, e4, h⟩ := bnd h
      refine t_append (g := (AV.int .u8)) rfl rfl rfl rfl rfl rfl rfl rfl (bound_src (.inl .here) rfl) e4 (fun _ => (.next (.next .here))) rfl (fun b20 => ?_)
      refine ARun.qv (q_assign rfl) rfl ?_
      refine ARun.nil ?_
      refine ATodo.seq ?_
      refine ATodo.region ?_
      refine ARun.qv (q_move rfl) rfl ?_
      refine ARun.qv (n_field_ptr rfl rfl) rfl ?_
      refine ARun.qv (q_load_ptr rfl rfl (.next .here) rfl) rfl ?_
      refine ARun.qv (q_move rfl) rfl ?_
      refine ARun.qv (q_subw rfl rfl) rfl ?_
      refine r_callp rfl (Q_turned_c rfl) (CoL.refl _) rfl ?_
      obtain ⟨v21, e5, h⟩ := bnd h
      refine t_call1 rfl (Q_sevens_c e5) (CoL.refl _) .nil (fun _ => rfl) rfl (fun b22 => ?_)
      obtain ⟨l23, e6, h⟩ := bnd h
      refine t_append (g := (AV.int .u8)) rfl rfl rfl rfl rfl rfl rfl rfl (bound_src (.inl .here) rfl) e6 (fun _ => (.next (.next (.next .here)))) rfl (fun b24 => ?_)
      refine ARun.qv (q_assign rfl) rfl ?_
      refine ARun.nil ?_
      refine ATodo.seq ?_
      refine ATodo.regionM (id := 9) (A := [0, 1, 0, 4, 0, 3, 47, 127]) 8 mixed rfl (by kernel_rfl) (by kernel_rfl) ?_
      refine AM.qv (n_field_ptr rfl rfl) rfl ?_
      refine AM.qv (q_load_ptr rfl rfl (.next (.next .here)) rfl) rfl ?_
      refine AM.qv (n_field_ptr rfl rfl) rfl ?_
      refine AM.qv (q_load_ptr rfl rfl (.next (.next .here)) rfl) rfl ?_
      refine AM.qv (q_move rfl) rfl ?_
      refine AM.qv (q_assign rfl) rfl ?_
      refine AM.qv (q_assign rfl) rfl ?_
      refine AM.qv (q_assign rfl) rfl ?_
      refine AM.nil ?_
      refine ARun.nil ?_
      refine ATodo.seq ?_
      refine ATodo.region ?_
      refine ARun.qv (q_move rfl) rfl ?_
      refine ARun.qv (q_eql rfl rfl) rfl ?_
      refine ARun.nil ?_
      refine ATodo.cut (fun σ' => ∃ (n25 : Int), Q_PackOf_j1 n14 v15 l23 n25 = some z1 ∧ σ' = ⟨48, [(3, .sl 1 b24 0 l23.length), (4, I v15.At), (5, I n25), (6, I v15.Value), (13, .list 4 (p0x0.map Sample.av)), (14, I (p0x0.length : Int)), (15, I n14)], [(b24, .arr 1 (l23.map (AV.int .u8)))]⟩) ?_ ?_
      · refine ATodo.cond_d rfl (fun hc => ?_) (fun hc => ?_)
        · replace h := iteT hc h
          refine ATodo.region ?_
          refine ARun.qv (q_assign rfl) rfl ?_
          refine ARun.nil ?_
          refine ATodo.stop ?_
          exact ImpX.lessP (by exact ⟨rfl, rfl, rfl, rfl, rfl, rfl, rfl, True.intro⟩) (.cons (.next (.next (.next .here))) .nil) (ImpX.here ⟨(0 : Int), h, rfl⟩)
        · replace h := iteF hc h
          refine ATodo.skip ?_
          refine ATodo.stop ?_
          exact ImpX.lessP (by exact ⟨rfl, rfl, rfl, rfl, rfl, rfl, rfl, True.intro⟩) (.cons (.next (.next (.next .here))) .nil) (ImpX.here ⟨w64 (v15.At - n11), h, rfl⟩)
      · rintro σ' ⟨n25, h, rfl⟩
        unfold Q_PackOf_j1 at h
        refine ATodo.blk ?_
        refine ATodo.region ?_
        refine ARun.qv (q_addw rfl rfl) rfl ?_
        refine ARun.qv (q_move rfl) rfl ?_
        refine ARun.nil ?_
        refine ATodo.stop ?_
        obtain rfl := Option.some.inj h
        refine hJ1 _ _ rfl ?_
        exact ImpX.lessP (by exact ⟨rfl, rfl, rfl, rfl, rfl, rfl, rfl, True.intro⟩) (.cons .here .nil) (ImpX.here ⟨b24, rfl⟩)
    · replace h := iteF hc h
      refine ATodo.exit rfl ?_
      replace h := outL h hA1
      refine ATodo.seq ?_
      refine ATodo.region ?_
      refine ARun.qv (q_move rfl) rfl ?_
      refine ARun.qv (q_assign rfl) rfl ?_
      refine ARun.nil ?_
      refine ATodo.ret ?_
      obtain rfl := Option.some.inj h
      exact ImpX.here ⟨_, .cons (.tmp _ _ rfl) .nil, _, .cons .here .nil, ⟨b9, rfl, rfl⟩⟩

set_option maxHeartbeats 4000000 in
theorem Stream_Bytes_c {b_0 : Bk} {p0x0 : Fleetmake_Stream} {p1x0 : List Int} {r : (List Int) × Fleetmake_Stream} (h : Stream_Bytes p0x0 p1x0 = some r) : ACall Try.prog 75 [.ptr b_0 0, .list 1 (p1x0.map (AV.int .u8))] [(b_0, .cells [.list 1 (p0x0.L.map I), I p0x0.at_])] (T1 (fun d_0 => [(b_0, .cells [.list 1 (r.2.L.map I), I r.2.at_]), (d_0, .arr 1 (r.1.map (AV.int .u8)))]) (fun d_0 => .sl 1 d_0 0 r.1.length)) := by
  unfold Stream_Bytes at h
  refine ACall.lessH ?_
  refine ACall.bodyN Try.func75 rfl Try.ntmps75 Try.results75 rfl rfl ?_
  refine ATodo.seq ?_
  refine ATodo.region ?_
  refine ARun.qv (q_assign rfl) rfl ?_
  refine ARun.nil ?_
  refine ATodo.seq ?_
  refine ATodo.region ?_
  refine ARun.qv (q_move rfl) rfl ?_
  obtain ⟨l1, e1, h⟩ := bnd h
  refine t_append0 (g := (AV.int .u8)) rfl rfl rfl rfl rfl rfl rfl rfl (.list _) e1 (fun b2 => ?_)
  refine ARun.qv (q_assign rfl) rfl ?_
  refine ARun.nil ?_
  refine ATodo.seq ?_
  refine ATodo.seq ?_
  refine ATodo.region ?_
  refine ARun.qv (q_move rfl) rfl ?_
  obtain ⟨v3, e2, h⟩ := bnd h
  refine t_call0 rfl (Stream_Range_c e2) (CoL.refl _) (.cons (.next .here) .nil) rfl rfl ?_
  refine ARun.qv (q_move rfl) rfl ?_
  refine ARun.nil ?_
  refine ATodo.block ?_
  refine ATodo.loopI (fun x : (List Int) × Int × (List Int) × Int => Stream_Bytes_b1 v3 x.1 x.2.1 x.2.2.1 x.2.2.2) (fun x σ' => ∃ (b11 : Bk), σ' = ⟨64, [(0, .ptr b_0 0), (5, .sl 1 b11 0 x.2.2.1.length), (10, I v3.1), (11, I x.2.2.2)], [(b_0, .cells [.list 1 (x.1.map I), I x.2.1]), (b11, .arr 1 (x.2.2.1.map (AV.int .u8)))]⟩) h ?_ ?_
  · exact ImpX.lessP (by exact ⟨rfl, rfl, rfl, rfl, True.intro⟩) (.cons .here (.cons .here .nil)) (ImpX.here ⟨b2, rfl⟩)
  · intro x z1 σ' J1 hmk h hJ1 hA1
    obtain ⟨l9, n10, l12, n13⟩ := x
    obtain ⟨b11, rfl⟩ := hmk
    replace h : Stream_Bytes_b1 v3 l9 n10 l12 n13 = some z1 := h
    unfold Stream_Bytes_b1 at h
    refine ATodo.seq ?_
    refine ATodo.region ?_
    refine ARun.qv (q_lss rfl rfl) rfl ?_
    refine ARun.nil ?_
    refine ATodo.seq ?_
    refine ATodo.cond_d rfl (fun hc => ?_) (fun hc => ?_)
    · replace h := iteT hc h
      refine ATodo.skip ?_
      refine ATodo.seq ?_
      refine ATodo.block ?_
      refine ATodo.seq ?_
      refine ATodo.seq ?_
      refine ATodo.region ?_
      refine ARun.qv (q_move rfl) rfl ?_
      refine ARun.qv (t_len_sl rfl) rfl ?_
      refine ARun.qv (q_eql rfl rfl) rfl ?_
      refine ARun.nil ?_
      refine ATodo.cond_d rfl (fun hc => ?_) (fun hc => ?_)
      · replace h := iteT hc h
        refine ATodo.seq ?_
        refine ATodo.region ?_
        refine ARun.qv (q_move rfl) rfl ?_
        refine ARun.qv (q_move rfl) rfl ?_
        obtain ⟨v14, e3, h⟩ := bnd h
        refine t_call0 rfl (Stream_Next_c e3) (CoL.refl _) (.cons .here .nil) rfl rfl ?_
        refine ARun.qv (q_conv_int rfl) rfl ?_
        refine n_buildSliceL (xs := ([IntKind.u8.wrap (v14.1)] : List Int).map (AV.int .u8)) rfl rfl rfl rfl rfl rfl ?_
        obtain ⟨l15, e4, h⟩ := bnd h
        refine t_append (g := (AV.int .u8)) rfl rfl rfl rfl rfl rfl rfl rfl (.list _) e4 (fun _ => (.next .here)) rfl (fun b16 => ?_)
        refine ARun.qv (q_assign rfl) rfl ?_
        refine ARun.nil ?_
        refine ATodo.ret ?_
        replace h := outL h hA1
        obtain rfl := Option.some.inj h
        exact ImpX.here ⟨_, .cons (.tmp _ _ rfl) .nil, _, .cons .here (.cons .here .nil), ⟨b16, rfl, rfl⟩⟩
      · replace h := iteF hc h
        refine ATodo.skip ?_
        refine ATodo.seq ?_
        refine ATodo.region ?_
        refine ARun.qv (q_move rfl) rfl ?_
        refine ARun.qv (q_move rfl) rfl ?_
        refine ARun.qv (t_len_sl rfl) rfl ?_
        obtain ⟨v17, e5, h⟩ := bnd h
        refine t_call0 rfl (Stream_Next_c e5) (CoL.refl _) (.cons .here .nil) rfl rfl ?_
        refine ARun.qv (q_assign rfl) rfl ?_
        refine ARun.nil ?_
        refine ATodo.seq ?_
        refine ATodo.region ?_
        refine ARun.qv (q_move rfl) rfl ?_
        obtain ⟨v18, e6, h⟩ := bnd h
        refine t_call0 rfl (Stream_Next_c e6) (CoL.refl _) (.cons .here .nil) rfl rfl ?_
        refine ARun.nil ?_
        refine ATodo.block ?_
        refine ATodo.seq ?_
        refine ATodo.region ?_
        refine ARun.qv (q_eql rfl rfl) rfl ?_
        refine ARun.qv (q_assign rfl) rfl ?_
        refine ARun.nil ?_
        refine ATodo.cut (fun σ' => ∃ (b21 : Bk) (l19 : List Int) (n20 : Int) (l22 : List Int), Stream_Bytes_j1 n13 l19 n20 l22 = some z1 ∧ σ' = ⟨64, [(0, .ptr b_0 0), (5, .sl 1 b21 0 l22.length), (10, I v3.1), (11, I n13)], [(b_0, .cells [.list 1 (l19.map I), I n20]), (b21, .arr 1 (l22.map (AV.int .u8)))]⟩) ?_ ?_
        · refine ATodo.cond_d rfl (fun hc => ?_) (fun hc => ?_)
          · replace h := iteT hc h
            refine ATodo.regionM (id := 10) (A := [0, 0, 3, 0, 0, 16, 56, 127, 255]) 7 mixed rfl (by kernel_rfl) (by kernel_rfl) ?_
            refine AM.qv (q_move rfl) rfl ?_
            refine AM.qv (q_move rfl) rfl ?_
            obtain ⟨l23, e7, h⟩ := bnd h
            refine AM.qv (t_slice_sl rfl rfl .none (.some _ _ _ rfl) rfl rfl e7) rfl ?_
            refine AM.qv (q_move rfl) rfl ?_
            refine AM.qv (q_move rfl) rfl ?_
            refine AM.qv (q_addw rfl rfl) rfl ?_
            obtain ⟨l24, e8, h⟩ := bnd h
            refine AM.qv (t_slice_sl rfl rfl (.some _ _ _ rfl) .none rfl rfl e8) rfl ?_
            refine AM.nil ?_
            obtain ⟨l25, e9, h⟩ := bnd h
            refine t_appendK (g := (AV.int .u8)) rfl rfl rfl rfl rfl rfl rfl rfl e7 (Src.partT e8 (.next .here)) e9 (.next .here) (fun _ => (.next .here)) (fun b26 => ?_)
            refine ARun.qv (q_assign rfl) rfl ?_
            refine ARun.nil ?_
            refine ATodo.stop ?_
            exact ImpX.lessP (by exact ⟨rfl, rfl, rfl, rfl, True.intro⟩) (.cons .here (.cons .here .nil)) (ImpX.here ⟨b26, v18.2.L, v18.2.at_, l25, h, rfl⟩)
          · replace h := iteF hc h
            refine ATodo.seq ?_
            refine ATodo.region ?_
            refine ARun.qv (q_eql rfl rfl) rfl ?_
            refine ARun.qv (q_assign rfl) rfl ?_
            refine ARun.nil ?_
            refine ATodo.cut (fun σ' => ∃ (b29 : Bk) (l27 : List Int) (n28 : Int) (l30 : List Int), Stream_Bytes_j2 n13 l27 n28 l30 = some z1 ∧ σ' = ⟨64, [(0, .ptr b_0 0), (5, .sl 1 b29 0 l30.length), (10, I v3.1), (11, I n13)], [(b_0, .cells [.list 1 (l27.map I), I n28]), (b29, .arr 1 (l30.map (AV.int .u8)))]⟩) ?_ ?_
            · refine ATodo.cond_d rfl (fun hc => ?_) (fun hc => ?_)
              · replace h := iteT hc h
                refine ATodo.regionM (id := 12) (A := [0, 0, 2, 7, 0, 0, 48, 127, 255]) 7 mixed rfl (by kernel_rfl) (by kernel_rfl) ?_
                refine AM.qv (q_move rfl) rfl ?_
                refine AM.qv (q_move rfl) rfl ?_
                refine AM.qv (q_addw rfl rfl) rfl ?_
                obtain ⟨l31, e10, h⟩ := bnd h
                refine AM.qv (t_slice_sl rfl rfl .none (.some _ _ _ rfl) rfl rfl e10) rfl ?_
                refine AM.qv (q_move rfl) rfl ?_
                refine AM.qv (q_move rfl) rfl ?_
                obtain ⟨l32, e11, h⟩ := bnd h
                refine AM.qv (t_slice_sl rfl rfl (.some _ _ _ rfl) .none rfl rfl e11) rfl ?_
                refine AM.nil ?_
                obtain ⟨l33, e12, h⟩ := bnd h
                refine t_appendK (g := (AV.int .u8)) rfl rfl rfl rfl rfl rfl rfl rfl e10 (Src.partT e11 (.next .here)) e12 (.next .here) (fun _ => (.next .here)) (fun b34 => ?_)
                refine ARun.qv (q_assign rfl) rfl ?_
                refine ARun.nil ?_
                refine ATodo.stop ?_
                exact ImpX.lessP (by exact ⟨rfl, rfl, rfl, rfl, True.intro⟩) (.cons .here (.cons .here .nil)) (ImpX.here ⟨b34, v18.2.L, v18.2.at_, l33, h, rfl⟩)
              · replace h := iteF hc h
                refine ATodo.seq ?_
                refine ATodo.region ?_
                refine ARun.qv (q_eql rfl rfl) rfl ?_
                refine ARun.qv (q_assign rfl) rfl ?_
                refine ARun.nil ?_
                refine ATodo.cut (fun σ' => ∃ (l35 : List Int) (n36 : Int) (l37 : List Int), Stream_Bytes_j3 n13 l35 n36 l37 = some z1 ∧ σ' = ⟨64, [(0, .ptr b_0 0), (5, .sl 1 b11 0 l37.length), (10, I v3.1), (11, I n13)], [(b_0, .cells [.list 1 (l35.map I), I n36]), (b11, .arr 1 (l37.map (AV.int .u8)))]⟩) ?_ ?_
                · refine ATodo.cond_d rfl (fun hc => ?_) (fun hc => ?_)
                  · replace h := iteT hc h
                    refine ATodo.region ?_
                    refine ARun.qv (q_move rfl) rfl ?_
                    refine ARun.qv (q_move rfl) rfl ?_
                    obtain ⟨l38, e13, h⟩ := bnd h
                    refine ARun.qv (t_slice_sl rfl rfl .none (.some _ _ _ rfl) rfl rfl e13) rfl ?_
                    refine ARun.qv (q_assign rfl) rfl ?_
                    refine ARun.ghost (ImpX.takeT e13 (.next .here) (ImpX.here ?_))
                    refine ARun.nil ?_
                    refine ATodo.stop ?_
                    exact ImpX.lessP (by exact ⟨rfl, rfl, rfl, rfl, True.intro⟩) (.cons .here (.cons .here .nil)) (ImpX.here ⟨v18.2.L, v18.2.at_, l38, h, rfl⟩)
                  · replace h := iteF hc h
                    obtain ⟨v39, e14, h⟩ := bnd h
                    obtain ⟨v40, e15, h⟩ := bnd h
                    obtain ⟨n41, e16, h⟩ := bnd h
                    refine ATodo.regionT (id := 8) (A := [0, 0, 3, 7, 0, 16, 48, 127, 255, 511]) (H0 := [(b_0, .cells [.list 1 (v18.2.L.map I), I v18.2.at_])]) (HH := fun β => [(b_0, .cells [.list 1 (v40.2.L.map I), I v40.2.at_]), (b11, .arr 1 (l12.map (AV.int .u8)))]) 7 mixed rfl (by kernel_rfl) (by kernel_rfl) [⟨none, some 5, [], fun _ => (b_0, .cells [.list 1 (v18.2.L.map I), I v18.2.at_]), none⟩, ⟨some 5, none, [], fun _ => (b_0, .cells [.list 1 (v40.2.L.map I), I v40.2.at_]), none⟩] [] rfl (by kernel_rfl) rfl (.cons .here .nil) (fun _ => rfl) ?_
                    refine AT.am 5 rfl rfl ?_
                    refine AM.qv (q_move rfl) rfl ?_
                    refine AM.qv (q_move rfl) rfl ?_
                    refine AM.qv (t_index_sl rfl rfl rfl e14) rfl ?_
                    refine AM.qv (t_load_aptr (g := (AV.int .u8)) rfl rfl (.inl .here) e14 rfl) rfl ?_
                    refine AM.qv (q_move rfl) rfl ?_
                    refine AM.nil ?_
                    refine AT.runS (av := I v40.1) (Ti := [(b_0, .cells [.list 1 (v18.2.L.map I), I v18.2.at_])]) (Pi := [(b_0, .cells [.list 1 (v40.2.L.map I), I v40.2.at_])]) (fun _ => rfl) (fun _ => rfl) (fun _ => rfl) rfl rfl rfl ?_ ?_
                    · refine t_call0 rfl (Stream_Next_c e15) (CoL.refl _) (.cons .here .nil) rfl rfl ?_
                      exact ARun.nil ⟨_, rfl, rfl⟩
                    refine AT.am 1 rfl rfl ?_
                    refine AM.qv (t_shlS rfl rfl e16) rfl ?_
                    refine AM.nil ?_
                    refine AT.nilN (fun _ => rfl) (fun β => ?_)
                    refine ARun.qv (t_xor rfl rfl) rfl ?_
                    obtain ⟨v42, e17, h⟩ := bnd h
                    refine ARun.qv (t_index_sl rfl rfl rfl e17) rfl ?_
                    refine t_store_aptr1 (g := (AV.int .u8)) (el' := xorI .u8 v39 n41) rfl rfl rfl rfl e17 rfl (.next .here) rfl ?_
                    refine ARun.ghost (ImpX.eqs (s := 5) (av' := .sl 1 b11 0 (l12.set v17.1.toNat (xorI .u8 v39 n41)).length) rfl (by rw [List.length_set]) (ImpX.here ?_))
                    refine ARun.ghost (ImpX.eqs (s := 13) (av' := .sl 1 b11 0 (l12.set v17.1.toNat (xorI .u8 v39 n41)).length) rfl (by rw [List.length_set]) (ImpX.here ?_))
                    refine ARun.ghost (ImpX.eqs (s := 23) (av' := .sl 1 b11 0 (l12.set v17.1.toNat (xorI .u8 v39 n41)).length) rfl (by rw [List.length_set]) (ImpX.here ?_))
                    refine ARun.ghost (ImpX.eqs (s := 28) (av' := .sl 1 b11 0 (l12.set v17.1.toNat (xorI .u8 v39 n41)).length) rfl (by rw [List.length_set]) (ImpX.here ?_))
                    refine ARun.nil ?_
                    refine ATodo.stop ?_
                    exact ImpX.lessP (by exact ⟨rfl, rfl, rfl, rfl, True.intro⟩) (.cons .here (.cons .here .nil)) (ImpX.here ⟨v40.2.L, v40.2.at_, l12.set v17.1.toNat (xorI .u8 v39 n41), h, rfl⟩)
                · rintro σ' ⟨l35, n36, l37, h, rfl⟩
                  unfold Stream_Bytes_j3 at h
                  refine ATodo.stop ?_
                  exact ImpX.lessP (by exact ⟨rfl, rfl, rfl, rfl, True.intro⟩) (.cons .here (.cons .here .nil)) (ImpX.here ⟨b11, l35, n36, l37, h, rfl⟩)
            · rintro σ' ⟨b29, l27, n28, l30, h, rfl⟩
              unfold Stream_Bytes_j2 at h
              refine ATodo.stop ?_
              exact ImpX.lessP (by exact ⟨rfl, rfl, rfl, rfl, True.intro⟩) (.cons .here (.cons .here .nil)) (ImpX.here ⟨b29, l27, n28, l30, h, rfl⟩)
        · rintro σ' ⟨b21, l19, n20, l22, h, rfl⟩
          unfold Stream_Bytes_j1 at h
          refine ATodo.blk ?_
          refine ATodo.blk ?_
          refine ATodo.region ?_
          refine ARun.qv (q_addw rfl rfl) rfl ?_
          refine ARun.qv (q_move rfl) rfl ?_
          refine ARun.nil ?_
          refine ATodo.stop ?_
          obtain rfl := Option.some.inj h
          refine hJ1 _ _ rfl ?_
          exact ImpX.lessP (by exact ⟨rfl, rfl, rfl, rfl, True.intro⟩) (.cons .here (.cons .here .nil)) (ImpX.here ⟨b21, rfl⟩)
    · replace h := iteF hc h
      refine ATodo.exit rfl ?_
      replace h := outL h hA1
      refine ATodo.seq ?_
      refine ATodo.region ?_
      refine ARun.qv (q_move rfl) rfl ?_
      refine ARun.qv (q_assign rfl) rfl ?_
      refine ARun.nil ?_
      refine ATodo.ret ?_
      obtain rfl := Option.some.inj h
      exact ImpX.here ⟨_, .cons (.tmp _ _ rfl) .nil, _, .cons .here (.cons .here .nil), ⟨b11, rfl, rfl⟩⟩

set_option maxHeartbeats 4000000 in
theorem Stream_Packed_c {b_0 : Bk} {p0x0 : Fleetmake_Stream} {r : (List Int) × Fleetmake_Stream} (h : Stream_Packed p0x0 = some r) : ACall Try.prog 21 [.ptr b_0 0] [(b_0, .cells [.list 1 (p0x0.L.map I), I p0x0.at_])] (T0 ([(b_0, .cells [.list 1 (r.2.L.map I), I r.2.at_])]) (.list 1 (r.1.map (AV.int .u8)))) := by
  unfold Stream_Packed at h
  refine ACall.lessH ?_
  refine ACall.bodyN Try.func21 rfl Try.ntmps21 Try.results21 rfl rfl ?_
  refine ATodo.seq ?_
  refine ATodo.region ?_
  refine ARun.qv (q_assign rfl) rfl ?_
  refine ARun.nil ?_
  refine ATodo.seq ?_
  refine ATodo.region ?_
  refine ARun.qv (q_move rfl) rfl ?_
  obtain ⟨v1, e1, h⟩ := bnd h
  refine t_call1 rfl (Stream_RightSeries_c e1) (CoL.refl _) (.cons .here .nil) (fun _ => rfl) rfl (fun b2 => ?_)
  obtain ⟨v3, e2, h⟩ := bnd h
  refine ARun.ghost (ImpX.freeze (.next .here) (ImpX.here ?_))
  refine t_call1 rfl (Q_PackOf_c e2) (.cons (Co.froT (.next .here)) .nil) .nil (fun _ => rfl) rfl (fun b4 => ?_)
  refine ARun.qv (q_assign rfl) rfl ?_
  refine ARun.nil ?_
  refine ATodo.seq ?_
  refine ATodo.seq ?_
  refine ATodo.region ?_
  refine ARun.qv (q_move rfl) rfl ?_
  obtain ⟨v5, e3, h⟩ := bnd h
  refine t_call0 rfl (Stream_Flip_c e3) (CoL.refl _) (.cons (.next .here) .nil) rfl rfl ?_
  refine ARun.nil ?_
  refine ATodo.cut (fun σ' => ∃ (b8 : Bk) (l6 : List Int) (n7 : Int) (l9 : List Int), Stream_Packed_j1 l6 n7 l9 = some r ∧ σ' = ⟨25, [(0, .ptr b_0 0), (3, .sl 1 b8 0 l9.length)], [(b_0, .cells [.list 1 (l6.map I), I n7]), (b8, .arr 1 (l9.map (AV.int .u8)))]⟩) ?_ ?_
  · refine ATodo.cond rfl (fun hc => ?_) (fun hc => ?_)
    · replace h := iteT hc h
      refine ATodo.region ?_
      refine ARun.qv (q_move rfl) rfl ?_
      refine ARun.qv (q_move rfl) rfl ?_
      obtain ⟨v10, e4, h⟩ := bnd h
      refine ARun.ghost (ImpX.freeze (.next .here) (ImpX.here ?_))
      refine t_call1 rfl (Stream_Bytes_c e4) (.cons (.refl _) (.cons (Co.froT (.next .here)) .nil)) (.cons .here .nil) (fun _ => rfl) rfl (fun b11 => ?_)
      refine ARun.qv (q_assign rfl) rfl ?_
      refine ARun.nil ?_
      refine ATodo.stop ?_
      exact ImpX.lessP (by exact ⟨rfl, rfl, True.intro⟩) (.cons .here (.cons .here .nil)) (ImpX.here ⟨b11, v10.2.L, v10.2.at_, v10.1, h, rfl⟩)
    · replace h := iteFb hc h
      refine ATodo.skip ?_
      refine ATodo.stop ?_
      exact ImpX.lessP (by exact ⟨rfl, rfl, True.intro⟩) (.cons .here (.cons .here .nil)) (ImpX.here ⟨b4, v5.2.L, v5.2.at_, v3, h, rfl⟩)
  · rintro σ' ⟨b8, l6, n7, l9, h, rfl⟩
    unfold Stream_Packed_j1 at h
    refine ATodo.seq ?_
    refine ATodo.seq ?_
    refine ATodo.region ?_
    refine ARun.qv (q_move rfl) rfl ?_
    obtain ⟨v12, e5, h⟩ := bnd h
    refine t_call0 rfl (Stream_Flip_c e5) (CoL.refl _) (.cons .here .nil) rfl rfl ?_
    refine ARun.nil ?_
    refine ATodo.cut (fun σ' => ∃ (l13 : List Int) (n14 : Int) (l15 : List Int), Stream_Packed_j2 l13 n14 l15 = some r ∧ σ' = ⟨25, [(3, .list 1 (l15.map (AV.int .u8)))], [(b_0, .cells [.list 1 (l13.map I), I n14])]⟩) ?_ ?_
    · refine ATodo.cond rfl (fun hc => ?_) (fun hc => ?_)
      · replace h := iteT hc h
        refine ATodo.region ?_
        refine n_buildSliceL (xs := ([(0 : Int)]).map (AV.int .u8)) rfl rfl rfl rfl rfl rfl ?_
        refine n_buildSliceL (xs := ([(0 : Int), (0 : Int)]).map (AV.int .u8)) rfl rfl rfl rfl rfl rfl ?_
        refine n_buildSliceL (xs := ([(128 : Int), (0 : Int)]).map (AV.int .u8)) rfl rfl rfl rfl rfl rfl ?_
        refine n_buildSliceL (xs := ([(1 : Int), (128 : Int), (0 : Int), (0 : Int)]).map (AV.int .u8)) rfl rfl rfl rfl rfl rfl ?_
        refine n_buildSliceL (xs := ([(255 : Int), (255 : Int), (255 : Int), (255 : Int), (255 : Int), (255 : Int), (255 : Int), (255 : Int), (255 : Int), (1 : Int)]).map (AV.int .u8)) rfl rfl rfl rfl rfl rfl ?_
        refine n_buildSliceL (xs := [.nil, .list 1 ([(0 : Int)].map (AV.int .u8)), .list 1 ([(0 : Int), (0 : Int)].map (AV.int .u8)), .list 1 ([(128 : Int), (0 : Int)].map (AV.int .u8)), .list 1 ([(1 : Int), (128 : Int), (0 : Int), (0 : Int)].map (AV.int .u8)), .list 1 ([(255 : Int), (255 : Int), (255 : Int), (255 : Int), (255 : Int), (255 : Int), (255 : Int), (255 : Int), (255 : Int), (1 : Int)].map (AV.int .u8))]) rfl rfl rfl rfl rfl rfl ?_
        refine ARun.ghost (ImpX.cox (s := 19) (av' := .list 1 (([[], [(0 : Int)], [(0 : Int), (0 : Int)], [(128 : Int), (0 : Int)], [(1 : Int), (128 : Int), (0 : Int), (0 : Int)], [(255 : Int), (255 : Int), (255 : Int), (255 : Int), (255 : Int), (255 : Int), (255 : Int), (255 : Int), (255 : Int), (1 : Int)]] : List (List Int)).map (encL 1 (AV.int .u8)))) rfl (CoX.listL (.cons .n (.cons .r (.cons .r (.cons .r (.cons .r (.cons .r .nil)))))) rfl rfl) (ImpX.here ?_))
        refine ARun.qv (q_move rfl) rfl ?_
        obtain ⟨v16, e6, h⟩ := bnd h
        refine t_call0 rfl (Stream_Next_c e6) (CoL.refl _) (.cons .here .nil) rfl rfl ?_
        obtain ⟨v17, e7, h⟩ := bnd h
        refine ARun.qv (t_index rfl rfl rfl e7 rfl rfl) rfl ?_
        refine ARun.qv (q_load_rptr rfl rfl rfl) rfl ?_
        refine ARun.qv (q_assign rfl) rfl ?_
        refine ARun.nil ?_
        refine ATodo.stop ?_
        exact ImpX.lessP (by exact ⟨rfl, True.intro⟩) (.cons .here .nil) (ImpX.here ⟨v16.2.L, v16.2.at_, v17, h, rfl⟩)
      · replace h := iteFb hc h
        refine ATodo.skip ?_
        refine ATodo.stop ?_
        refine ImpX.freeze (.next .here) ?_
        refine ImpX.co (s := 3) rfl (Co.froT (.next .here)) ?_
        exact ImpX.lessP (by exact ⟨rfl, True.intro⟩) (.cons .here .nil) (ImpX.here ⟨v12.2.L, v12.2.at_, l9, h, rfl⟩)
    · rintro σ' ⟨l13, n14, l15, h, rfl⟩
      unfold Stream_Packed_j2 at h
      refine ATodo.seq ?_
      refine ATodo.region ?_
      refine ARun.qv (q_move rfl) rfl ?_
      refine ARun.qv (q_assign rfl) rfl ?_
      refine ARun.nil ?_
      refine ATodo.ret ?_
      obtain rfl := Option.some.inj h
      exact ImpX.here ⟨_, .cons (.tmp _ _ rfl) .nil, _, .cons .here .nil, ⟨rfl, rfl⟩⟩

set_option maxHeartbeats 4000000 in
theorem base_Key_c {p0x0 : Str} {r : Bool} (h : base_Key p0x0 = some r) : Pu Try.prog 78 [.str p0x0] (.bool r) := by
  unfold base_Key at h
  refine ACall.bodyN Try.func78 rfl Try.ntmps78 Try.results78 rfl rfl ?_
  refine ATodo.seq ?_
  refine ATodo.region ?_
  refine ARun.qv (q_assign rfl) rfl ?_
  refine ARun.nil ?_
  refine ATodo.seq ?_
  refine ATodo.seq ?_
  refine ATodo.cut (fun σ' => ∃ (c1 : Bool), base_Key_j1 p0x0 c1 = some r ∧ σ' = ⟨54, [(0, .str p0x0), (21, .bool c1)], []⟩) ?_ ?_
  · refine ATodo.region ?_
    refine ARun.qv (q_move rfl) rfl ?_
    refine ARun.qv (q_seq rfl rfl) rfl ?_
    refine ARun.qv (q_move rfl) rfl ?_
    refine ARun.guard_df rfl rfl rfl (fun hc => ?_) (fun hc => ?_)
    · replace h := iteF hc h
      refine ARun.qv (q_move rfl) rfl ?_
      refine ARun.guard_yes rfl rfl rfl ?_
      refine ARun.qv (q_len_str rfl) rfl ?_
      refine ARun.guard_yes rfl rfl rfl ?_
      refine ARun.qv (q_gtr rfl rfl) rfl ?_
      refine ARun.qv (q_pick_f rfl rfl) rfl ?_
      refine ARun.qv (q_move rfl) rfl ?_
      refine ARun.guard_df rfl rfl rfl (fun hc => ?_) (fun hc => ?_)
      · replace h := iteF hc h
        refine ARun.qv (q_move rfl) rfl ?_
        refine ARun.guard_yes rfl rfl rfl ?_
        obtain ⟨c2, e1, h⟩ := bnd h
        refine ARun.qv (t_index_str rfl rfl e1) rfl ?_
        refine ARun.guard_yes rfl rfl rfl ?_
        refine ARun.qv (q_lss rfl rfl) rfl ?_
        refine ARun.qv (q_pick_f rfl rfl) rfl ?_
        refine ARun.qv (q_move rfl) rfl ?_
        refine ARun.guard_df rfl rfl rfl (fun hc => ?_) (fun hc => ?_)
        · replace h := iteF hc h
          refine ARun.qv (q_move rfl) rfl ?_
          refine ARun.guard_yes rfl rfl rfl ?_
          obtain ⟨c3, e2, h⟩ := bnd h
          refine ARun.qv (t_index_str rfl rfl e2) rfl ?_
          refine ARun.guard_yes rfl rfl rfl ?_
          refine ARun.qv (q_gtr rfl rfl) rfl ?_
          refine ARun.qv (q_pick_f rfl rfl) rfl ?_
          refine ARun.nil ?_
          refine ATodo.stop ?_
          exact ImpX.lessP (by exact ⟨rfl, rfl, True.intro⟩) (.nil) (ImpX.here ⟨decide ((122 : Int) < (c3.toNat : Int)), h, rfl⟩)
        · replace h := iteT hc h
          refine ARun.guard_no rfl rfl rfl rfl ?_
          refine ARun.guard_no rfl rfl rfl rfl ?_
          refine ARun.qv (q_pick_t rfl rfl) rfl ?_
          refine ARun.nil ?_
          refine ATodo.stop ?_
          exact ImpX.lessP (by exact ⟨rfl, rfl, True.intro⟩) (.nil) (ImpX.here ⟨true, h, rfl⟩)
      · replace h := iteT hc h
        refine ARun.guard_no rfl rfl rfl rfl ?_
        refine ARun.guard_no rfl rfl rfl rfl ?_
        refine ARun.qv (q_pick_t rfl rfl) rfl ?_
        refine ARun.qv (q_move rfl) rfl ?_
        refine ARun.guard_no rfl rfl rfl rfl ?_
        refine ARun.guard_no rfl rfl rfl rfl ?_
        refine ARun.guard_no rfl rfl rfl rfl ?_
        refine ARun.qv (q_pick_t rfl rfl) rfl ?_
        refine ARun.nil ?_
        refine ATodo.stop ?_
        exact ImpX.lessP (by exact ⟨rfl, rfl, True.intro⟩) (.nil) (ImpX.here ⟨true, h, rfl⟩)
    · replace h := iteT hc h
      refine ARun.guard_no rfl rfl rfl rfl ?_
      refine ARun.guard_no rfl rfl rfl rfl ?_
      refine ARun.qv (q_pick_t rfl rfl) rfl ?_
      refine ARun.qv (q_move rfl) rfl ?_
      refine ARun.guard_no rfl rfl rfl rfl ?_
      refine ARun.guard_no rfl rfl rfl rfl ?_
      refine ARun.guard_no rfl rfl rfl rfl ?_
      refine ARun.qv (q_pick_t rfl rfl) rfl ?_
      refine ARun.qv (q_move rfl) rfl ?_
      refine ARun.guard_no rfl rfl rfl rfl ?_
      refine ARun.guard_no rfl rfl rfl rfl ?_
      refine ARun.guard_no rfl rfl rfl rfl ?_
      refine ARun.qv (q_pick_t rfl rfl) rfl ?_
      refine ARun.nil ?_
      refine ATodo.stop ?_
      exact ImpX.lessP (by exact ⟨rfl, rfl, True.intro⟩) (.nil) (ImpX.here ⟨true, h, rfl⟩)
  · rintro σ' ⟨c1, h, rfl⟩
    unfold base_Key_j1 at h
    refine ATodo.cond rfl (fun hc => ?_) (fun hc => ?_)
    · replace h := iteT hc h
      refine ATodo.seq ?_
      refine ATodo.region ?_
      refine ARun.qv (q_assign rfl) rfl ?_
      refine ARun.nil ?_
      refine ATodo.ret ?_
      obtain rfl := Option.some.inj h
      exact ImpX.here ⟨_, .cons (.tmp _ _ rfl) .nil, rfl⟩
    · replace h := iteFb hc h
      refine ATodo.skip ?_
      refine ATodo.seq ?_
      refine ATodo.seq ?_
      refine ATodo.region ?_
      refine ARun.qv (q_move rfl) rfl ?_
      refine ARun.qv (q_len_str rfl) rfl ?_
      refine ARun.qv (q_move rfl) rfl ?_
      refine ARun.nil ?_
      refine ATodo.block ?_
      refine ATodo.loopI (fun x : Int => base_Key_b1 p0x0 x) (fun x σ' => σ' = ⟨54, [(0, .str p0x0), (23, I (p0x0.length : Int)), (24, I x)], []⟩) h ?_ ?_
      · exact ImpX.lessP (by exact ⟨rfl, rfl, rfl, True.intro⟩) (.nil) (ImpX.here rfl)
      · intro n5 z1 σ' J1 hmk h hJ1 hA1
        obtain rfl := hmk
        replace h : base_Key_b1 p0x0 n5 = some z1 := h
        unfold base_Key_b1 at h
        refine ATodo.seq ?_
        refine ATodo.region ?_
        refine ARun.qv (q_lss rfl rfl) rfl ?_
        refine ARun.nil ?_
        refine ATodo.seq ?_
        refine ATodo.cond_d rfl (fun hc => ?_) (fun hc => ?_)
        · replace h := iteT hc h
          refine ATodo.skip ?_
          refine ATodo.seq ?_
          refine ATodo.block ?_
          refine ATodo.seq ?_
          refine ATodo.region ?_
          refine ARun.qv (q_move rfl) rfl ?_
          refine ARun.qv (q_assign rfl) rfl ?_
          refine ARun.nil ?_
          refine ATodo.seq ?_
          refine ATodo.region ?_
          refine ARun.qv (q_move rfl) rfl ?_
          refine ARun.qv (q_move rfl) rfl ?_
          obtain ⟨c6, e3, h⟩ := bnd h
          refine ARun.qv (t_index_str rfl rfl e3) rfl ?_
          refine ARun.qv (q_assign rfl) rfl ?_
          refine ARun.nil ?_
          refine ATodo.seq ?_
          refine ATodo.cut (fun σ' => ∃ (c7 : Bool), base_Key_j2 n5 c7 = some z1 ∧ σ' = ⟨54, [(0, .str p0x0), (23, I (p0x0.length : Int)), (24, I n5), (52, .bool c7)], []⟩) ?_ ?_
          · refine ATodo.region ?_
            refine ARun.qv (q_move rfl) rfl ?_
            refine ARun.qv (q_geq rfl rfl) rfl ?_
            refine ARun.qv (q_move rfl) rfl ?_
            refine ARun.guard_dt rfl rfl rfl (fun hc => ?_) (fun hc => ?_)
            · rw [if_pos hc] at h
              refine ARun.qv (q_move rfl) rfl ?_
              refine ARun.guard_yes rfl rfl rfl ?_
              refine ARun.qv (q_leq rfl rfl) rfl ?_
              refine ARun.qv (q_pick_t rfl rfl) rfl ?_
              refine ARun.qv (q_move rfl) rfl ?_
              refine ARun.guard_df rfl rfl rfl (fun hc => ?_) (fun hc => ?_)
              · rw [if_neg hc] at h
                refine ARun.qv (q_move rfl) rfl ?_
                refine ARun.guard_yes rfl rfl rfl ?_
                refine ARun.qv (q_geq rfl rfl) rfl ?_
                refine ARun.guard_yes rfl rfl rfl ?_
                refine ARun.qv (q_move rfl) rfl ?_
                refine ARun.guard_dt rfl rfl rfl (fun hc => ?_) (fun hc => ?_)
                · rw [if_pos hc] at h
                  refine ARun.qv (q_move rfl) rfl ?_
                  refine ARun.guard_yes rfl rfl rfl ?_
                  refine ARun.qv (q_leq rfl rfl) rfl ?_
                  refine ARun.guard_yes rfl rfl rfl ?_
                  refine ARun.qv (q_pick_t rfl rfl) rfl ?_
                  refine ARun.qv (q_pick_f rfl rfl) rfl ?_
                  refine ARun.qv (q_move rfl) rfl ?_
                  refine ARun.guard_df rfl rfl rfl (fun hc => ?_) (fun hc => ?_)
                  · rw [if_neg hc] at h
                    refine ARun.qv (q_move rfl) rfl ?_
                    refine ARun.guard_yes rfl rfl rfl ?_
                    refine ARun.qv (q_eql rfl rfl) rfl ?_
                    refine ARun.qv (q_pick_f rfl rfl) rfl ?_
                    refine ARun.qv (q_move rfl) rfl ?_
                    refine ARun.guard_df rfl rfl rfl (fun hc => ?_) (fun hc => ?_)
                    · rw [if_neg hc] at h
                      refine ARun.qv (q_move rfl) rfl ?_
                      refine ARun.guard_yes rfl rfl rfl ?_
                      refine ARun.qv (q_eql rfl rfl) rfl ?_
                      refine ARun.qv (q_pick_f rfl rfl) rfl ?_
                      refine ARun.qv (q_not_d rfl) rfl ?_
                      refine ARun.nil ?_
                      refine ATodo.stop ?_
                      exact ImpX.lessP (by exact ⟨rfl, rfl, rfl, rfl, True.intro⟩) (.nil) (ImpX.here ⟨decide (¬ ((c6.toNat : Int) = (95 : Int))), h, rfl⟩)
                    · rw [if_pos hc] at h
                      refine ARun.guard_no rfl rfl rfl rfl ?_
                      refine ARun.qv (q_pick_t rfl rfl) rfl ?_
                      refine ARun.qv (q_not rfl) rfl ?_
                      refine ARun.nil ?_
                      refine ATodo.stop ?_
                      exact ImpX.lessP (by exact ⟨rfl, rfl, rfl, rfl, True.intro⟩) (.nil) (ImpX.here ⟨!true, h, rfl⟩)
                  · rw [if_pos hc] at h
                    refine ARun.guard_no rfl rfl rfl rfl ?_
                    refine ARun.qv (q_pick_t rfl rfl) rfl ?_
                    refine ARun.qv (q_move rfl) rfl ?_
                    refine ARun.guard_no rfl rfl rfl rfl ?_
                    refine ARun.guard_no rfl rfl rfl rfl ?_
                    refine ARun.qv (q_pick_t rfl rfl) rfl ?_
                    refine ARun.qv (q_not rfl) rfl ?_
                    refine ARun.nil ?_
                    refine ATodo.stop ?_
                    exact ImpX.lessP (by exact ⟨rfl, rfl, rfl, rfl, True.intro⟩) (.nil) (ImpX.here ⟨!true, h, rfl⟩)
                · rw [if_neg hc] at h
                  refine ARun.guard_no rfl rfl rfl rfl ?_
                  refine ARun.guard_yes rfl rfl rfl ?_
                  refine ARun.qv (q_pick_f rfl rfl) rfl ?_
                  refine ARun.qv (q_pick_f rfl rfl) rfl ?_
                  refine ARun.qv (q_move rfl) rfl ?_
                  refine ARun.guard_yes rfl rfl rfl ?_
                  refine ARun.qv (q_move rfl) rfl ?_
                  refine ARun.guard_yes rfl rfl rfl ?_
                  refine ARun.qv (q_eql rfl rfl) rfl ?_
                  refine ARun.qv (q_pick_f rfl rfl) rfl ?_
                  refine ARun.qv (q_move rfl) rfl ?_
                  refine ARun.guard_df rfl rfl rfl (fun hc => ?_) (fun hc => ?_)
                  · rw [if_neg hc] at h
                    refine ARun.qv (q_move rfl) rfl ?_
                    refine ARun.guard_yes rfl rfl rfl ?_
                    refine ARun.qv (q_eql rfl rfl) rfl ?_
                    refine ARun.qv (q_pick_f rfl rfl) rfl ?_
                    refine ARun.qv (q_not_d rfl) rfl ?_
                    refine ARun.nil ?_
                    refine ATodo.stop ?_
                    exact ImpX.lessP (by exact ⟨rfl, rfl, rfl, rfl, True.intro⟩) (.nil) (ImpX.here ⟨decide (¬ ((c6.toNat : Int) = (95 : Int))), h, rfl⟩)
                  · rw [if_pos hc] at h
                    refine ARun.guard_no rfl rfl rfl rfl ?_
                    refine ARun.qv (q_pick_t rfl rfl) rfl ?_
                    refine ARun.qv (q_not rfl) rfl ?_
                    refine ARun.nil ?_
                    refine ATodo.stop ?_
                    exact ImpX.lessP (by exact ⟨rfl, rfl, rfl, rfl, True.intro⟩) (.nil) (ImpX.here ⟨!true, h, rfl⟩)
              · rw [if_pos hc] at h
                refine ARun.guard_no rfl rfl rfl rfl ?_
                refine ARun.guard_no rfl rfl rfl rfl ?_
                refine ARun.guard_und rfl rfl rfl ?_
                refine ARun.guard_und rfl rfl rfl ?_
                refine ARun.guard_no rfl rfl rfl rfl ?_
                refine ARun.qv (q_pick_t rfl rfl) rfl ?_
                refine ARun.qv (q_move rfl) rfl ?_
                refine ARun.guard_no rfl rfl rfl rfl ?_
                refine ARun.guard_no rfl rfl rfl rfl ?_
                refine ARun.qv (q_pick_t rfl rfl) rfl ?_
                refine ARun.qv (q_move rfl) rfl ?_
                refine ARun.guard_no rfl rfl rfl rfl ?_
                refine ARun.guard_no rfl rfl rfl rfl ?_
                refine ARun.qv (q_pick_t rfl rfl) rfl ?_
                refine ARun.qv (q_not rfl) rfl ?_
                refine ARun.nil ?_
                refine ATodo.stop ?_
                exact ImpX.lessP (by exact ⟨rfl, rfl, rfl, rfl, True.intro⟩) (.nil) (ImpX.here ⟨!true, h, rfl⟩)
            · rw [if_neg hc] at h
              refine ARun.guard_no rfl rfl rfl rfl ?_
              refine ARun.qv (q_pick_f rfl rfl) rfl ?_
              refine ARun.qv (q_move rfl) rfl ?_
              refine ARun.guard_yes rfl rfl rfl ?_
              refine ARun.qv (q_move rfl) rfl ?_
              refine ARun.guard_yes rfl rfl rfl ?_
              refine ARun.qv (q_geq rfl rfl) rfl ?_
              refine ARun.guard_yes rfl rfl rfl ?_
              refine ARun.qv (q_move rfl) rfl ?_
              refine ARun.guard_dt rfl rfl rfl (fun hc => ?_) (fun hc => ?_)
              · rw [if_pos hc] at h
                refine ARun.qv (q_move rfl) rfl ?_
                refine ARun.guard_yes rfl rfl rfl ?_
                refine ARun.qv (q_leq rfl rfl) rfl ?_
                refine ARun.guard_yes rfl rfl rfl ?_
                refine ARun.qv (q_pick_t rfl rfl) rfl ?_
                refine ARun.qv (q_pick_f rfl rfl) rfl ?_
                refine ARun.qv (q_move rfl) rfl ?_
                refine ARun.guard_df rfl rfl rfl (fun hc => ?_) (fun hc => ?_)
                · rw [if_neg hc] at h
                  refine ARun.qv (q_move rfl) rfl ?_
                  refine ARun.guard_yes rfl rfl rfl ?_
                  refine ARun.qv (q_eql rfl rfl) rfl ?_
                  refine ARun.qv (q_pick_f rfl rfl) rfl ?_
                  refine ARun.qv (q_move rfl) rfl ?_
                  refine ARun.guard_df rfl rfl rfl (fun hc => ?_) (fun hc => ?_)
                  · rw [if_neg hc] at h
                    refine ARun.qv (q_move rfl) rfl ?_
                    refine ARun.guard_yes rfl rfl rfl ?_
                    refine ARun.qv (q_eql rfl rfl) rfl ?_
                    refine ARun.qv (q_pick_f rfl rfl) rfl ?_
                    refine ARun.qv (q_not_d rfl) rfl ?_
                    refine ARun.nil ?_
                    refine ATodo.stop ?_
                    exact ImpX.lessP (by exact ⟨rfl, rfl, rfl, rfl, True.intro⟩) (.nil) (ImpX.here ⟨decide (¬ ((c6.toNat : Int) = (95 : Int))), h, rfl⟩)
                  · rw [if_pos hc] at h
                    refine ARun.guard_no rfl rfl rfl rfl ?_
                    refine ARun.qv (q_pick_t rfl rfl) rfl ?_
                    refine ARun.qv (q_not rfl) rfl ?_
                    refine ARun.nil ?_
                    refine ATodo.stop ?_
                    exact ImpX.lessP (by exact ⟨rfl, rfl, rfl, rfl, True.intro⟩) (.nil) (ImpX.here ⟨!true, h, rfl⟩)
                · rw [if_pos hc] at h
                  refine ARun.guard_no rfl rfl rfl rfl ?_
                  refine ARun.qv (q_pick_t rfl rfl) rfl ?_
                  refine ARun.qv (q_move rfl) rfl ?_
                  refine ARun.guard_no rfl rfl rfl rfl ?_
                  refine ARun.guard_no rfl rfl rfl rfl ?_
                  refine ARun.qv (q_pick_t rfl rfl) rfl ?_
                  refine ARun.qv (q_not rfl) rfl ?_
                  refine ARun.nil ?_
                  refine ATodo.stop ?_
                  exact ImpX.lessP (by exact ⟨rfl, rfl, rfl, rfl, True.intro⟩) (.nil) (ImpX.here ⟨!true, h, rfl⟩)
              · rw [if_neg hc] at h
                refine ARun.guard_no rfl rfl rfl rfl ?_
                refine ARun.guard_yes rfl rfl rfl ?_
                refine ARun.qv (q_pick_f rfl rfl) rfl ?_
                refine ARun.qv (q_pick_f rfl rfl) rfl ?_
                refine ARun.qv (q_move rfl) rfl ?_
                refine ARun.guard_yes rfl rfl rfl ?_
                refine ARun.qv (q_move rfl) rfl ?_
                refine ARun.guard_yes rfl rfl rfl ?_
                refine ARun.qv (q_eql rfl rfl) rfl ?_
                refine ARun.qv (q_pick_f rfl rfl) rfl ?_
                refine ARun.qv (q_move rfl) rfl ?_
                refine ARun.guard_df rfl rfl rfl (fun hc => ?_) (fun hc => ?_)
                · rw [if_neg hc] at h
                  refine ARun.qv (q_move rfl) rfl ?_
                  refine ARun.guard_yes rfl rfl rfl ?_
                  refine ARun.qv (q_eql rfl rfl) rfl ?_
                  refine ARun.qv (q_pick_f rfl rfl) rfl ?_
                  refine ARun.qv (q_not_d rfl) rfl ?_
                  refine ARun.nil ?_
                  refine ATodo.stop ?_
                  exact ImpX.lessP (by exact ⟨rfl, rfl, rfl, rfl, True.intro⟩) (.nil) (ImpX.here ⟨decide (¬ ((c6.toNat : Int) = (95 : Int))), h, rfl⟩)
                · rw [if_pos hc] at h
                  refine ARun.guard_no rfl rfl rfl rfl ?_
                  refine ARun.qv (q_pick_t rfl rfl) rfl ?_
                  refine ARun.qv (q_not rfl) rfl ?_
                  refine ARun.nil ?_
                  refine ATodo.stop ?_
                  exact ImpX.lessP (by exact ⟨rfl, rfl, rfl, rfl, True.intro⟩) (.nil) (ImpX.here ⟨!true, h, rfl⟩)
          · rintro σ' ⟨c7, h, rfl⟩
            unfold base_Key_j2 at h
            refine ATodo.cond rfl (fun hc => ?_) (fun hc => ?_)
            · replace h := iteT hc h
              refine ATodo.seq ?_
              refine ATodo.region ?_
              refine ARun.qv (q_assign rfl) rfl ?_
              refine ARun.nil ?_
              refine ATodo.ret ?_
              replace h := outL h hA1
              obtain rfl := Option.some.inj h
              exact ImpX.here ⟨_, .cons (.tmp _ _ rfl) .nil, rfl⟩
            · replace h := iteFb hc h
              refine ATodo.skip ?_
              refine ATodo.blk ?_
              refine ATodo.region ?_
              refine ARun.qv (q_addw rfl rfl) rfl ?_
              refine ARun.qv (q_move rfl) rfl ?_
              refine ARun.nil ?_
              refine ATodo.stop ?_
              obtain rfl := Option.some.inj h
              refine hJ1 _ _ rfl ?_
              exact ImpX.lessP (by exact ⟨rfl, rfl, rfl, True.intro⟩) (.nil) (ImpX.here rfl)
        · replace h := iteF hc h
          refine ATodo.exit rfl ?_
          replace h := outL h hA1
          refine ATodo.seq ?_
          refine ATodo.region ?_
          refine ARun.qv (q_assign rfl) rfl ?_
          refine ARun.nil ?_
          refine ATodo.ret ?_
          obtain rfl := Option.some.inj h
          exact ImpX.here ⟨_, .cons (.tmp _ _ rfl) .nil, rfl⟩

set_option maxHeartbeats 4000000 in
theorem base_Out_c {p0x0 : Int} {p1x0 : Int} {p2x0 : Int} {r : Bool} (h : base_Out p0x0 p1x0 p2x0 = r) : Pu Try.prog 68 [I p0x0, I p1x0, I p2x0] (.bool r) := by
  unfold base_Out at h
  refine ACall.bodyN Try.func68 rfl Try.ntmps68 Try.results68 rfl rfl ?_
  refine ATodo.seq ?_
  refine ATodo.region ?_
  refine ARun.qv (q_assign rfl) rfl ?_
  refine ARun.nil ?_
  refine ATodo.seq ?_
  refine ATodo.cut (fun σ' => ∃ (c1 : Bool), base_Out_j1 c1 = r ∧ σ' = ⟨15, [(6, .bool c1)], []⟩) ?_ ?_
  · refine ATodo.region ?_
    refine ARun.qv (q_move rfl) rfl ?_
    refine ARun.qv (q_move rfl) rfl ?_
    refine ARun.qv (q_lss rfl rfl) rfl ?_
    refine ARun.qv (q_move rfl) rfl ?_
    refine ARun.guard_df rfl rfl rfl (fun hc => ?_) (fun hc => ?_)
    · rw [orFd hc] at h
      refine ARun.qv (q_move rfl) rfl ?_
      refine ARun.guard_yes rfl rfl rfl ?_
      refine ARun.qv (q_move rfl) rfl ?_
      refine ARun.guard_yes rfl rfl rfl ?_
      refine ARun.qv (q_gtr rfl rfl) rfl ?_
      refine ARun.qv (q_pick_f rfl rfl) rfl ?_
      refine ARun.qv (q_assign rfl) rfl ?_
      refine ARun.nil ?_
      refine ATodo.stop ?_
      exact ImpX.lessP (by exact ⟨rfl, True.intro⟩) (.nil) (ImpX.here ⟨decide (p2x0 < p0x0), h, rfl⟩)
    · rw [orTd hc] at h
      refine ARun.guard_no rfl rfl rfl rfl ?_
      refine ARun.guard_no rfl rfl rfl rfl ?_
      refine ARun.qv (q_pick_t rfl rfl) rfl ?_
      refine ARun.qv (q_assign rfl) rfl ?_
      refine ARun.nil ?_
      refine ATodo.stop ?_
      exact ImpX.lessP (by exact ⟨rfl, True.intro⟩) (.nil) (ImpX.here ⟨true, h, rfl⟩)
  · rintro σ' ⟨c1, h, rfl⟩
    unfold base_Out_j1 at h
    refine ATodo.ret ?_
    obtain rfl := h
    exact ImpX.here ⟨_, .cons (.tmp _ _ rfl) .nil, rfl⟩

set_option maxHeartbeats 4000000 in
theorem base_Moment_c {p0x0 : Int} {r : Bool} (h : base_Moment p0x0 = r) : Pu Try.prog 81 [I p0x0] (.bool r) := by
  unfold base_Moment at h
  refine ACall.bodyN Try.func81 rfl Try.ntmps81 Try.results81 rfl rfl ?_
  refine ATodo.seq ?_
  refine ATodo.region ?_
  refine ARun.qv (q_assign rfl) rfl ?_
  refine ARun.nil ?_
  refine ATodo.seq ?_
  refine ATodo.region ?_
  refine ARun.qv (q_move rfl) rfl ?_
  refine r_callp rfl (base_Out_c rfl) (CoL.refl _) rfl ?_
  refine ARun.qv (q_not rfl) rfl ?_
  refine ARun.qv (q_assign rfl) rfl ?_
  refine ARun.nil ?_
  refine ATodo.ret ?_
  obtain rfl := h
  exact ImpX.here ⟨_, .cons (.tmp _ _ rfl) .nil, rfl⟩

set_option maxHeartbeats 4000000 in
theorem cmp_isNaN_int_c {p0x0 : Int} {r : Bool} (h : cmp_isNaN_int p0x0 = r) : Pu Try.prog 146 [I p0x0] (.bool r) := by
  unfold cmp_isNaN_int at h
  refine ACall.bodyN Try.func146 rfl Try.ntmps146 Try.results146 rfl rfl ?_
  refine ATodo.seq ?_
  refine ATodo.region ?_
  refine ARun.qv (q_assign rfl) rfl ?_
  refine ARun.nil ?_
  refine ATodo.seq ?_
  refine ATodo.region ?_
  refine ARun.qv (q_move rfl) rfl ?_
  refine ARun.qv (q_move rfl) rfl ?_
  refine ARun.qv (q_neq rfl rfl) rfl ?_
  refine ARun.qv (q_assign rfl) rfl ?_
  refine ARun.nil ?_
  refine ATodo.ret ?_
  obtain rfl := h
  exact ImpX.here ⟨_, .cons (.tmp _ _ rfl) .nil, rfl⟩

set_option maxHeartbeats 4000000 in
theorem cmp_Compare_int_c {p0x0 : Int} {p1x0 : Int} {r : Int} (h : cmp_Compare_int p0x0 p1x0 = r) : Pu Try.prog 119 [I p0x0, I p1x0] (I r) := by
  unfold cmp_Compare_int at h
  refine ACall.bodyN Try.func119 rfl Try.ntmps119 Try.results119 rfl rfl ?_
  refine ATodo.seq ?_
  refine ATodo.region ?_
  refine ARun.qv (q_assign rfl) rfl ?_
  refine ARun.nil ?_
  refine ATodo.seq ?_
  refine ATodo.region ?_
  refine ARun.qv (q_move rfl) rfl ?_
  refine r_callp rfl (cmp_isNaN_int_c rfl) (CoL.refl _) rfl ?_
  refine ARun.qv (q_assign rfl) rfl ?_
  refine ARun.nil ?_
  refine ATodo.seq ?_
  refine ATodo.region ?_
  refine ARun.qv (q_move rfl) rfl ?_
  refine r_callp rfl (cmp_isNaN_int_c rfl) (CoL.refl _) rfl ?_
  refine ARun.qv (q_assign rfl) rfl ?_
  refine ARun.nil ?_
  refine ATodo.seq ?_
  refine ATodo.seq ?_
  refine ATodo.region ?_
  refine ARun.qv (q_move rfl) rfl ?_
  refine ARun.nil ?_
  refine ATodo.cond rfl (fun hc => ?_) (fun hc => ?_)
  · replace h := iteT hc h
    refine ATodo.seq ?_
    refine ATodo.seq ?_
    refine ATodo.region ?_
    refine ARun.qv (q_move rfl) rfl ?_
    refine ARun.nil ?_
    refine ATodo.cond rfl (fun hc => ?_) (fun hc => ?_)
    · replace h := iteT hc h
      refine ATodo.seq ?_
      refine ATodo.region ?_
      refine ARun.qv (q_assign rfl) rfl ?_
      refine ARun.nil ?_
      refine ATodo.ret ?_
      obtain rfl := h
      exact ImpX.here ⟨_, .cons (.tmp _ _ rfl) .nil, rfl⟩
    · replace h := iteFb hc h
      refine ATodo.skip ?_
      refine ATodo.seq ?_
      refine ATodo.region ?_
      refine ARun.qv (q_assign rfl) rfl ?_
      refine ARun.nil ?_
      refine ATodo.ret ?_
      obtain rfl := h
      exact ImpX.here ⟨_, .cons (.tmp _ _ rfl) .nil, rfl⟩
  · replace h := iteFb hc h
    refine ATodo.skip ?_
    refine ATodo.seq ?_
    refine ATodo.seq ?_
    refine ATodo.region ?_
    refine ARun.qv (q_move rfl) rfl ?_
    refine ARun.nil ?_
    refine ATodo.cond rfl (fun hc => ?_) (fun hc => ?_)
    · replace h := iteT hc h
      refine ATodo.seq ?_
      refine ATodo.region ?_
      refine ARun.qv (q_assign rfl) rfl ?_
      refine ARun.nil ?_
      refine ATodo.ret ?_
      obtain rfl := h
      exact ImpX.here ⟨_, .cons (.tmp _ _ rfl) .nil, rfl⟩
    · replace h := iteFb hc h
      refine ATodo.skip ?_
      refine ATodo.seq ?_
      refine ATodo.seq ?_
      refine ATodo.region ?_
      refine ARun.qv (q_move rfl) rfl ?_
      refine ARun.qv (q_move rfl) rfl ?_
      refine ARun.qv (q_lss rfl rfl) rfl ?_
      refine ARun.nil ?_
      refine ATodo.cond_d rfl (fun hc => ?_) (fun hc => ?_)
      · replace h := iteT hc h
        refine ATodo.seq ?_
        refine ATodo.region ?_
        refine ARun.qv (q_assign rfl) rfl ?_
        refine ARun.nil ?_
        refine ATodo.ret ?_
        obtain rfl := h
        exact ImpX.here ⟨_, .cons (.tmp _ _ rfl) .nil, rfl⟩
      · replace h := iteF hc h
        refine ATodo.skip ?_
        refine ATodo.seq ?_
        refine ATodo.seq ?_
        refine ATodo.region ?_
        refine ARun.qv (q_move rfl) rfl ?_
        refine ARun.qv (q_move rfl) rfl ?_
        refine ARun.qv (q_gtr rfl rfl) rfl ?_
        refine ARun.nil ?_
        refine ATodo.cond_d rfl (fun hc => ?_) (fun hc => ?_)
        · replace h := iteT hc h
          refine ATodo.seq ?_
          refine ATodo.region ?_
          refine ARun.qv (q_assign rfl) rfl ?_
          refine ARun.nil ?_
          refine ATodo.ret ?_
          obtain rfl := h
          exact ImpX.here ⟨_, .cons (.tmp _ _ rfl) .nil, rfl⟩
        · replace h := iteF hc h
          refine ATodo.skip ?_
          refine ATodo.seq ?_
          refine ATodo.region ?_
          refine ARun.qv (q_assign rfl) rfl ?_
          refine ARun.nil ?_
          refine ATodo.ret ?_
          obtain rfl := h
          exact ImpX.here ⟨_, .cons (.tmp _ _ rfl) .nil, rfl⟩

set_option maxHeartbeats 4000000 in
theorem cmp_Or_int_c {p0x0 : List Int} {r : Int} (h : cmp_Or_int p0x0 = some r) : Pu Try.prog 151 [.list 1 (p0x0.map I)] (I r) := by
  unfold cmp_Or_int at h
  refine ACall.bodyN Try.func151 rfl Try.ntmps151 Try.results151 rfl rfl ?_
  refine ATodo.seq ?_
  refine ATodo.region ?_
  refine ARun.qv (q_assign rfl) rfl ?_
  refine ARun.nil ?_
  refine ATodo.seq ?_
  refine ATodo.region ?_
  refine ARun.qv (q_assign rfl) rfl ?_
  refine ARun.nil ?_
  refine ATodo.seq ?_
  refine ATodo.seq ?_
  refine ATodo.region ?_
  refine ARun.qv (q_move rfl) rfl ?_
  refine ARun.qv (t_len rfl) rfl ?_
  refine ARun.qv (q_move rfl) rfl ?_
  refine ARun.nil ?_
  refine ATodo.block ?_
  refine ATodo.loopI (fun x : Int => cmp_Or_int_b1 p0x0 x) (fun x σ' => σ' = ⟨18, [(3, I (0 : Int)), (6, .list 1 (p0x0.map I)), (7, I (p0x0.length : Int)), (8, I x)], []⟩) h ?_ ?_
  · exact ImpX.lessP (by exact ⟨rfl, rfl, rfl, rfl, True.intro⟩) (.nil) (ImpX.here rfl)
  · intro n2 z1 σ' J1 hmk h hJ1 hA1
    obtain rfl := hmk
    replace h : cmp_Or_int_b1 p0x0 n2 = some z1 := h
    unfold cmp_Or_int_b1 at h
    refine ATodo.seq ?_
    refine ATodo.region ?_
    refine ARun.qv (q_lss rfl rfl) rfl ?_
    refine ARun.nil ?_
    refine ATodo.seq ?_
    refine ATodo.cond_d rfl (fun hc => ?_) (fun hc => ?_)
    · replace h := iteT hc h
      refine ATodo.skip ?_
      refine ATodo.seq ?_
      refine ATodo.block ?_
      refine ATodo.seq ?_
      refine ATodo.region ?_
      obtain ⟨v3, e1, h⟩ := bnd h
      refine ARun.qv (t_index rfl rfl rfl e1 rfl rfl) rfl ?_
      refine ARun.qv (q_load_rptr rfl rfl rfl) rfl ?_
      refine ARun.qv (q_assign rfl) rfl ?_
      refine ARun.nil ?_
      refine ATodo.seq ?_
      refine ATodo.region ?_
      refine ARun.qv (q_move rfl) rfl ?_
      refine ARun.qv (q_move rfl) rfl ?_
      refine ARun.qv (q_neq rfl rfl) rfl ?_
      refine ARun.nil ?_
      refine ATodo.cond_d rfl (fun hc => ?_) (fun hc => ?_)
      · replace h := iteT hc h
        refine ATodo.seq ?_
        refine ATodo.region ?_
        refine ARun.qv (q_move rfl) rfl ?_
        refine ARun.qv (q_assign rfl) rfl ?_
        refine ARun.nil ?_
        refine ATodo.ret ?_
        replace h := outL h hA1
        obtain rfl := Option.some.inj h
        exact ImpX.here ⟨_, .cons (.tmp _ _ rfl) .nil, rfl⟩
      · replace h := iteF hc h
        refine ATodo.skip ?_
        refine ATodo.blk ?_
        refine ATodo.region ?_
        refine ARun.qv (q_addw rfl rfl) rfl ?_
        refine ARun.qv (q_move rfl) rfl ?_
        refine ARun.nil ?_
        refine ATodo.stop ?_
        obtain rfl := Option.some.inj h
        refine hJ1 _ _ rfl ?_
        exact ImpX.lessP (by exact ⟨rfl, rfl, rfl, rfl, True.intro⟩) (.nil) (ImpX.here rfl)
    · replace h := iteF hc h
      refine ATodo.exit rfl ?_
      replace h := outL h hA1
      refine ATodo.seq ?_
      refine ATodo.region ?_
      refine ARun.qv (q_move rfl) rfl ?_
      refine ARun.qv (q_assign rfl) rfl ?_
      refine ARun.nil ?_
      refine ATodo.ret ?_
      obtain rfl := Option.some.inj h
      exact ImpX.here ⟨_, .cons (.tmp _ _ rfl) .nil, rfl⟩

set_option maxHeartbeats 4000000 in
theorem series_byDevice_c {p0x0 : Sample} {p1x0 : Sample} {r : Int} (h : series_byDevice p0x0 p1x0 = some r) : Pu Try.prog 148 [.agg [.str p0x0.Device, .str p0x0.Metric, I p0x0.At, I p0x0.Value], .agg [.str p1x0.Device, .str p1x0.Metric, I p1x0.At, I p1x0.Value]] (I r) := by
  unfold series_byDevice at h
  refine ACall.bodyN Try.func148 rfl Try.ntmps148 Try.results148 rfl rfl ?_
  refine ATodo.seq ?_
  refine ATodo.region ?_
  refine n_box rfl rfl rfl rfl (fun b1 => ?_)
  refine n_box rfl rfl rfl rfl (fun b2 => ?_)
  refine ARun.qv (q_assign rfl) rfl ?_
  refine ARun.nil ?_
  refine ATodo.seq ?_
  refine ATodo.regionM (id := 1) (A := [0, 1, 0, 4, 15, 0, 32, 0, 128, 511, 0, 1024, 0, 4096, 16383, 32767, 65535, 131071]) 18 mixed rfl (by kernel_rfl) (by kernel_rfl) ?_
  refine AM.qv (n_field_ptr rfl rfl) rfl ?_
  refine AM.qv (q_load_ptr rfl rfl (.next .here) rfl) rfl ?_
  refine AM.qv (n_field_ptr rfl rfl) rfl ?_
  refine AM.qv (q_load_ptr rfl rfl .here rfl) rfl ?_
  refine AM.callp rfl (strings_Compare_c rfl) (CoL.refl _) rfl ?_
  refine AM.qv (n_field_ptr rfl rfl) rfl ?_
  refine AM.qv (q_load_ptr rfl rfl (.next .here) rfl) rfl ?_
  refine AM.qv (n_field_ptr rfl rfl) rfl ?_
  refine AM.qv (q_load_ptr rfl rfl .here rfl) rfl ?_
  refine AM.callp rfl (strings_Compare_c rfl) (CoL.refl _) rfl ?_
  refine AM.qv (n_field_ptr rfl rfl) rfl ?_
  refine AM.qv (q_load_ptr rfl rfl (.next .here) rfl) rfl ?_
  refine AM.qv (n_field_ptr rfl rfl) rfl ?_
  refine AM.qv (q_load_ptr rfl rfl .here rfl) rfl ?_
  refine AM.callp rfl (cmp_Compare_int_c rfl) (CoL.refl _) rfl ?_
  refine AM.buildSliceL (xs := ([(Lib.compareBytes p0x0.Device p1x0.Device), (Lib.compareBytes p0x0.Metric p1x0.Metric), (cmp_Compare_int p0x0.At p1x0.At)] : List Int).map I) rfl rfl rfl rfl rfl rfl ?_
  obtain ⟨v3, e1, h⟩ := bnd h
  refine AM.callp rfl (cmp_Or_int_c e1) (CoL.refl _) rfl ?_
  refine AM.qv (q_assign rfl) rfl ?_
  refine AM.nil ?_
  refine ARun.nil ?_
  refine ATodo.ret ?_
  obtain rfl := Option.some.inj h
  exact ImpX.here ⟨_, .cons (.tmp _ _ rfl) .nil, rfl⟩

set_option maxHeartbeats 4000000 in
theorem series_Check_c {p0x0 : List Sample} {r : Int} (h : series_Check p0x0 = some r) : Pu Try.prog 130 [.list 4 (p0x0.map Sample.av)] (I r) := by
  unfold series_Check at h
  refine ACall.bodyN Try.func130 rfl Try.ntmps130 Try.results130 rfl rfl ?_
  refine ATodo.seq ?_
  refine ATodo.region ?_
  refine ARun.qv (q_assign rfl) rfl ?_
  refine ARun.nil ?_
  refine ATodo.seq ?_
  refine ATodo.seq ?_
  refine ATodo.region ?_
  refine ARun.qv (q_move rfl) rfl ?_
  refine ARun.qv (t_len rfl) rfl ?_
  refine ARun.qv (q_gtr rfl rfl) rfl ?_
  refine ARun.nil ?_
  refine ATodo.cond_d rfl (fun hc => ?_) (fun hc => ?_)
  · replace h := iteT hc h
    refine ATodo.seq ?_
    refine ATodo.region ?_
    refine ARun.qv (q_assign rfl) rfl ?_
    refine ARun.nil ?_
    refine ATodo.ret ?_
    obtain rfl := Option.some.inj h
    exact ImpX.here ⟨_, .cons (.tmp _ _ rfl) .nil, rfl⟩
  · replace h := iteF hc h
    refine ATodo.skip ?_
    refine ATodo.seq ?_
    refine ATodo.seq ?_
    refine ATodo.region ?_
    refine ARun.qv (q_move rfl) rfl ?_
    refine ARun.qv (t_len rfl) rfl ?_
    refine ARun.qv (q_move rfl) rfl ?_
    refine ARun.nil ?_
    refine ATodo.block ?_
    refine ATodo.loopI (fun x : Int => series_Check_b1 p0x0 x) (fun x σ' => σ' = ⟨50, [(0, .list 4 (p0x0.map Sample.av)), (8, .list 4 (p0x0.map Sample.av)), (9, I (p0x0.length : Int)), (10, I x)], []⟩) h ?_ ?_
    · exact ImpX.lessP (by exact ⟨rfl, rfl, rfl, rfl, True.intro⟩) (.nil) (ImpX.here rfl)
    · intro n2 z1 σ' J1 hmk h hJ1 hA1
      obtain rfl := hmk
      replace h : series_Check_b1 p0x0 n2 = some z1 := h
      unfold series_Check_b1 at h
      refine ATodo.seq ?_
      refine ATodo.region ?_
      refine ARun.qv (q_lss rfl rfl) rfl ?_
      refine ARun.nil ?_
      refine ATodo.seq ?_
      refine ATodo.cond_d rfl (fun hc => ?_) (fun hc => ?_)
      · replace h := iteT hc h
        refine ATodo.skip ?_
        refine ATodo.seq ?_
        refine ATodo.block ?_
        refine ATodo.seq ?_
        refine ATodo.region ?_
        refine ARun.qv (q_move rfl) rfl ?_
        obtain ⟨v3, e1, h⟩ := bnd h
        refine ARun.qv (t_index rfl rfl rfl e1 rfl rfl) rfl ?_
        refine ARun.qv (q_load_rptr_agg rfl rfl rfl) rfl ?_
        refine n_alloc rfl rfl rfl rfl (fun b4 => ?_)
        refine ARun.qv (q_assign rfl) rfl ?_
        refine n_store_ptr rfl rfl rfl rfl .here rfl rfl ?_
        refine ARun.nil ?_
        refine ATodo.block ?_
        refine ATodo.seq ?_
        refine ATodo.cut (fun σ' => ∃ (c5 : Bool), series_Check_j1 p0x0 n2 v3 c5 = some z1 ∧ σ' = ⟨50, [(0, .list 4 (p0x0.map Sample.av)), (3, I n2), (4, .ptr b4 0), (8, .list 4 (p0x0.map Sample.av)), (9, I (p0x0.length : Int)), (10, I n2), (15, .bool c5)], [(b4, .cells [.str v3.Device, .str v3.Metric, I v3.At, I v3.Value])]⟩) ?_ ?_
        · refine ATodo.region ?_
          refine ARun.qv (n_field_ptr rfl rfl) rfl ?_
          refine ARun.qv (q_load_ptr rfl rfl .here rfl) rfl ?_
          obtain ⟨v6, e2, h⟩ := bnd h
          refine r_callp rfl (base_Key_c e2) (CoL.refl _) rfl ?_
          refine ARun.qv (q_not rfl) rfl ?_
          refine ARun.qv (q_move rfl) rfl ?_
          refine ARun.guard rfl rfl rfl (fun hc => ?_) (fun hc => ?_)
          · replace h := iteFb hc h
            refine ARun.qv (n_field_ptr rfl rfl) rfl ?_
            refine ARun.guard_yes rfl rfl rfl ?_
            refine ARun.qv (q_load_ptr rfl rfl .here rfl) rfl ?_
            refine ARun.guard_yes rfl rfl rfl ?_
            obtain ⟨v7, e3, h⟩ := bnd h
            refine r_callp rfl (base_Key_c e3) (CoL.refl _) rfl ?_
            refine ARun.guard_yes rfl rfl rfl ?_
            refine ARun.qv (q_not rfl) rfl ?_
            refine ARun.qv (q_pick_f rfl rfl) rfl ?_
            refine ARun.qv (q_assign rfl) rfl ?_
            refine ARun.nil ?_
            refine ATodo.stop ?_
            exact ImpX.lessP (by exact ⟨rfl, rfl, rfl, rfl, rfl, rfl, rfl, True.intro⟩) (.cons .here .nil) (ImpX.here ⟨!v7, h, rfl⟩)
          · replace h := iteT hc h
            refine ARun.guard_no rfl rfl rfl rfl ?_
            refine ARun.guard_no rfl rfl rfl rfl ?_
            refine ARun.guard_no rfl rfl rfl rfl ?_
            refine ARun.qv (q_pick_t rfl rfl) rfl ?_
            refine ARun.qv (q_assign rfl) rfl ?_
            refine ARun.nil ?_
            refine ATodo.stop ?_
            exact ImpX.lessP (by exact ⟨rfl, rfl, rfl, rfl, rfl, rfl, rfl, True.intro⟩) (.cons .here .nil) (ImpX.here ⟨true, h, rfl⟩)
        · rintro σ' ⟨c5, h, rfl⟩
          unfold series_Check_j1 at h
          refine ATodo.cond rfl (fun hc => ?_) (fun hc => ?_)
          · replace h := iteT hc h
            refine ATodo.seq ?_
            refine ATodo.region ?_
            refine ARun.qv (q_assign rfl) rfl ?_
            refine ARun.nil ?_
            refine ATodo.ret ?_
            replace h := outL h hA1
            obtain rfl := Option.some.inj h
            exact ImpX.here ⟨_, .cons (.tmp _ _ rfl) .nil, rfl⟩
          · replace h := iteFb hc h
            refine ATodo.seq ?_
            refine ATodo.cut (fun σ' => ∃ (c8 : Bool), series_Check_j2 p0x0 n2 v3 c8 = some z1 ∧ σ' = ⟨50, [(0, .list 4 (p0x0.map Sample.av)), (3, I n2), (4, .ptr b4 0), (8, .list 4 (p0x0.map Sample.av)), (9, I (p0x0.length : Int)), (10, I n2), (26, .bool c8)], [(b4, .cells [.str v3.Device, .str v3.Metric, I v3.At, I v3.Value])]⟩) ?_ ?_
            · refine ATodo.region ?_
              refine ARun.qv (n_field_ptr rfl rfl) rfl ?_
              refine ARun.qv (q_load_ptr rfl rfl .here rfl) rfl ?_
              refine r_callp rfl (base_Moment_c rfl) (CoL.refl _) rfl ?_
              refine ARun.qv (q_not rfl) rfl ?_
              refine ARun.qv (q_move rfl) rfl ?_
              refine ARun.guard rfl rfl rfl (fun hc => ?_) (fun hc => ?_)
              · rw [orFb hc] at h
                refine ARun.qv (n_field_ptr rfl rfl) rfl ?_
                refine ARun.guard_yes rfl rfl rfl ?_
                refine ARun.qv (q_load_ptr rfl rfl .here rfl) rfl ?_
                refine ARun.guard_yes rfl rfl rfl ?_
                refine r_callp rfl (base_Out_c rfl) (CoL.refl _) rfl ?_
                refine ARun.qv (q_pick_f rfl rfl) rfl ?_
                refine ARun.qv (q_assign rfl) rfl ?_
                refine ARun.nil ?_
                refine ATodo.stop ?_
                exact ImpX.lessP (by exact ⟨rfl, rfl, rfl, rfl, rfl, rfl, rfl, True.intro⟩) (.cons .here .nil) (ImpX.here ⟨(base_Out v3.Value (-1000000000 : Int) (1000000000 : Int)), h, rfl⟩)
              · rw [orTb hc] at h
                refine ARun.guard_no rfl rfl rfl rfl ?_
                refine ARun.guard_no rfl rfl rfl rfl ?_
                refine ARun.qv (q_pick_t rfl rfl) rfl ?_
                refine ARun.qv (q_assign rfl) rfl ?_
                refine ARun.nil ?_
                refine ATodo.stop ?_
                exact ImpX.lessP (by exact ⟨rfl, rfl, rfl, rfl, rfl, rfl, rfl, True.intro⟩) (.cons .here .nil) (ImpX.here ⟨true, h, rfl⟩)
            · rintro σ' ⟨c8, h, rfl⟩
              unfold series_Check_j2 at h
              refine ATodo.cond rfl (fun hc => ?_) (fun hc => ?_)
              · replace h := iteT hc h
                refine ATodo.seq ?_
                refine ATodo.region ?_
                refine ARun.qv (q_assign rfl) rfl ?_
                refine ARun.nil ?_
                refine ATodo.ret ?_
                replace h := outL h hA1
                obtain rfl := Option.some.inj h
                exact ImpX.here ⟨_, .cons (.tmp _ _ rfl) .nil, rfl⟩
              · replace h := iteFb hc h
                refine ATodo.seq ?_
                refine ATodo.cut (fun σ' => ∃ (c9 : Bool), series_Check_j3 n2 c9 = some z1 ∧ σ' = ⟨50, [(0, .list 4 (p0x0.map Sample.av)), (8, .list 4 (p0x0.map Sample.av)), (9, I (p0x0.length : Int)), (10, I n2), (36, .bool c9)], []⟩) ?_ ?_
                · refine ATodo.regionM (id := 10) (A := [0, 1, 3, 7, 7, 7, 39, 119, 247, 511, 1023, 2047, 4095]) 13 mixed rfl (by kernel_rfl) (by kernel_rfl) ?_
                  refine AM.qv (q_move rfl) rfl ?_
                  refine AM.qv (q_gtr rfl rfl) rfl ?_
                  refine AM.qv (q_move rfl) rfl ?_
                  refine AM.guard_dt rfl rfl rfl (fun hc => ?_) (fun hc => ?_)
                  · replace h := iteT hc h
                    refine AM.qv (q_load_ptr_all rfl rfl .here rfl) rfl ?_
                    refine AM.guard_yes rfl rfl rfl ?_
                    refine AM.qv (q_move rfl) rfl ?_
                    refine AM.guard_yes rfl rfl rfl ?_
                    refine AM.qv (q_move rfl) rfl ?_
                    refine AM.guard_yes rfl rfl rfl ?_
                    refine AM.qv (q_subw rfl rfl) rfl ?_
                    refine AM.guard_yes rfl rfl rfl ?_
                    obtain ⟨v10, e4, h⟩ := bnd h
                    refine AM.qv (t_index rfl rfl rfl e4 rfl rfl) rfl ?_
                    refine AM.guard_yes rfl rfl rfl ?_
                    refine AM.qv (q_load_rptr_agg rfl rfl rfl) rfl ?_
                    refine AM.guard_yes rfl rfl rfl ?_
                    obtain ⟨v11, e5, h⟩ := bnd h
                    refine AM.callp rfl (series_byDevice_c e5) (CoL.refl _) rfl ?_
                    refine AM.guard_yes rfl rfl rfl ?_
                    refine AM.qv (q_leq rfl rfl) rfl ?_
                    refine AM.qv (q_pick_t rfl rfl) rfl ?_
                    refine AM.qv (q_assign rfl) rfl ?_
                    refine AM.nil ?_
                    refine ARun.nil ?_
                    refine ATodo.stop ?_
                    exact ImpX.lessP (by exact ⟨rfl, rfl, rfl, rfl, rfl, True.intro⟩) (.nil) (ImpX.here ⟨decide (v11 ≤ (0 : Int)), h, rfl⟩)
                  · replace h := iteF hc h
                    refine AM.guard_no rfl rfl rfl rfl ?_
                    refine AM.guard_no rfl rfl rfl rfl ?_
                    refine AM.guard_no rfl rfl rfl rfl ?_
                    refine AM.guard_no rfl rfl rfl rfl ?_
                    refine AM.guard_no rfl rfl rfl rfl ?_
                    refine AM.guard_no rfl rfl rfl rfl ?_
                    refine AM.guard_no rfl rfl rfl rfl ?_
                    refine AM.qv (q_pick_f rfl rfl) rfl ?_
                    refine AM.qv (q_assign rfl) rfl ?_
                    refine AM.nil ?_
                    refine ARun.nil ?_
                    refine ATodo.stop ?_
                    exact ImpX.lessP (by exact ⟨rfl, rfl, rfl, rfl, rfl, True.intro⟩) (.nil) (ImpX.here ⟨false, h, rfl⟩)
                · rintro σ' ⟨c9, h, rfl⟩
                  unfold series_Check_j3 at h
                  refine ATodo.cond rfl (fun hc => ?_) (fun hc => ?_)
                  · replace h := iteT hc h
                    refine ATodo.seq ?_
                    refine ATodo.region ?_
                    refine ARun.qv (q_assign rfl) rfl ?_
                    refine ARun.nil ?_
                    refine ATodo.ret ?_
                    replace h := outL h hA1
                    obtain rfl := Option.some.inj h
                    exact ImpX.here ⟨_, .cons (.tmp _ _ rfl) .nil, rfl⟩
                  · replace h := iteFb hc h
                    refine ATodo.skip ?_
                    refine ATodo.blk ?_
                    refine ATodo.blk ?_
                    refine ATodo.region ?_
                    refine ARun.qv (q_addw rfl rfl) rfl ?_
                    refine ARun.qv (q_move rfl) rfl ?_
                    refine ARun.nil ?_
                    refine ATodo.stop ?_
                    obtain rfl := Option.some.inj h
                    refine hJ1 _ _ rfl ?_
                    exact ImpX.lessP (by exact ⟨rfl, rfl, rfl, rfl, True.intro⟩) (.nil) (ImpX.here rfl)
      · replace h := iteF hc h
        refine ATodo.exit rfl ?_
        replace h := outL h hA1
        refine ATodo.seq ?_
        refine ATodo.region ?_
        refine ARun.qv (q_assign rfl) rfl ?_
        refine ARun.nil ?_
        refine ATodo.ret ?_
        obtain rfl := Option.some.inj h
        exact ImpX.here ⟨_, .cons (.tmp _ _ rfl) .nil, rfl⟩

set_option maxHeartbeats 4000000 in
theorem series_CheckSeries_1x_c {p0x0 : Sample} {p1x0 : List Sample} {r : Bool} (h : series_CheckSeries_1x p0x0 p1x0 = some r) : Pu Try.prog 131 [.agg [.str p0x0.Device, .str p0x0.Metric, I p0x0.At, I p0x0.Value], .rptr [.list 4 (p1x0.map Sample.av)]] (.bool r) := by
  unfold series_CheckSeries_1x at h
  refine ACall.bodyN Try.func131 rfl Try.ntmps131 Try.results131 rfl rfl ?_
  refine ATodo.seq ?_
  refine ATodo.region ?_
  refine n_box rfl rfl rfl rfl (fun b1 => ?_)
  refine ARun.qv (q_assign rfl) rfl ?_
  refine ARun.nil ?_
  refine ATodo.seq ?_
  refine ATodo.cut (fun σ' => ∃ (c2 : Bool), series_CheckSeries_1x_j1 c2 = some r ∧ σ' = ⟨20, [(3, .bool c2)], []⟩) ?_ ?_
  · refine ATodo.regionM (id := 1) (A := [0, 1, 0, 4, 12, 28, 63, 127, 255, 511, 255, 1279, 3327, 7423, 16383, 32767, 65535]) 17 mixed rfl (by kernel_rfl) (by kernel_rfl) ?_
    refine AM.qv (n_field_ptr rfl rfl) rfl ?_
    refine AM.qv (q_load_ptr rfl rfl .here rfl) rfl ?_
    refine AM.qv (q_load_rptr rfl rfl rfl) rfl ?_
    obtain ⟨v3, e1, h⟩ := bnd h
    refine AM.qv (t_index rfl rfl rfl e1 rfl rfl) rfl ?_
    refine AM.qv (n_field_rptr rfl rfl) rfl ?_
    refine AM.qv (q_load_rptr rfl rfl rfl) rfl ?_
    refine AM.qv (q_sne rfl rfl) rfl ?_
    refine AM.qv (q_move rfl) rfl ?_
    refine AM.guard_df rfl rfl rfl (fun hc => ?_) (fun hc => ?_)
    · replace h := iteF hc h
      refine AM.qv (n_field_ptr rfl rfl) rfl ?_
      refine AM.guard_yes rfl rfl rfl ?_
      refine AM.qv (q_load_ptr rfl rfl .here rfl) rfl ?_
      refine AM.guard_yes rfl rfl rfl ?_
      refine AM.qv (q_load_rptr rfl rfl rfl) rfl ?_
      refine AM.guard_yes rfl rfl rfl ?_
      obtain ⟨v4, e2, h⟩ := bnd h
      refine AM.qv (t_index rfl rfl rfl e2 rfl rfl) rfl ?_
      refine AM.guard_yes rfl rfl rfl ?_
      refine AM.qv (n_field_rptr rfl rfl) rfl ?_
      refine AM.guard_yes rfl rfl rfl ?_
      refine AM.qv (q_load_rptr rfl rfl rfl) rfl ?_
      refine AM.guard_yes rfl rfl rfl ?_
      refine AM.qv (q_sne rfl rfl) rfl ?_
      refine AM.qv (q_pick_f rfl rfl) rfl ?_
      refine AM.qv (q_assign rfl) rfl ?_
      refine AM.nil ?_
      refine ARun.nil ?_
      refine ATodo.stop ?_
      exact ImpX.lessP (by exact ⟨rfl, True.intro⟩) (.nil) (ImpX.here ⟨decide (p0x0.Metric ≠ v4.Metric), h, rfl⟩)
    · replace h := iteT hc h
      refine AM.guard_no rfl rfl rfl rfl ?_
      refine AM.guard_no rfl rfl rfl rfl ?_
      refine AM.guard_no rfl rfl rfl rfl ?_
      refine AM.guard_no rfl rfl rfl rfl ?_
      refine AM.guard_no rfl rfl rfl rfl ?_
      refine AM.guard_no rfl rfl rfl rfl ?_
      refine AM.qv (q_pick_t rfl rfl) rfl ?_
      refine AM.qv (q_assign rfl) rfl ?_
      refine AM.nil ?_
      refine ARun.nil ?_
      refine ATodo.stop ?_
      exact ImpX.lessP (by exact ⟨rfl, True.intro⟩) (.nil) (ImpX.here ⟨true, h, rfl⟩)
  · rintro σ' ⟨c2, h, rfl⟩
    unfold series_CheckSeries_1x_j1 at h
    refine ATodo.ret ?_
    obtain rfl := Option.some.inj h
    exact ImpX.here ⟨_, .cons (.tmp _ _ rfl) .nil, rfl⟩

set_option maxHeartbeats 4000000 in
theorem slices_IndexFunc_Sample_Sample_c {p0x0 : List Sample} {fnb : Sample → Option Bool} {fnb_F : FuncId} [IsFn Try.prog fnb_F] {fnb_C : List AV} (fnb_h : ∀ {y0 : _} {u : Bool}, fnb y0 = some u → Pu Try.prog fnb_F (.agg [.str y0.Device, .str y0.Metric, I y0.At, I y0.Value] ::  fnb_C) (.bool u)) {r : Int} (h : slices_IndexFunc_Sample_Sample p0x0 fnb = some r) : Pu Try.prog 129 [.list 4 (p0x0.map Sample.av), .func (.func fnb_F) fnb_C] (I r) := by
  unfold slices_IndexFunc_Sample_Sample at h
  refine ACall.bodyN Try.func129 rfl Try.ntmps129 Try.results129 rfl rfl ?_
  refine ATodo.seq ?_
  refine ATodo.region ?_
  refine ARun.qv (q_assign rfl) rfl ?_
  refine ARun.nil ?_
  refine ATodo.seq ?_
  refine ATodo.seq ?_
  refine ATodo.region ?_
  refine ARun.qv (q_move rfl) rfl ?_
  refine ARun.qv (t_len rfl) rfl ?_
  refine ARun.qv (q_move rfl) rfl ?_
  refine ARun.nil ?_
  refine ATodo.block ?_
  refine ATodo.loopI (fun x : Int => slices_IndexFunc_Sample_Sample_b1 p0x0 fnb x) (fun x σ' => σ' = ⟨19, [(0, .list 4 (p0x0.map Sample.av)), (1, .func (.func fnb_F) fnb_C), (7, I (p0x0.length : Int)), (8, I x)], []⟩) h ?_ ?_
  · exact ImpX.lessP (by exact ⟨rfl, rfl, rfl, rfl, True.intro⟩) (.nil) (ImpX.here rfl)
  · intro n2 z1 σ' J1 hmk h hJ1 hA1
    obtain rfl := hmk
    replace h : slices_IndexFunc_Sample_Sample_b1 p0x0 fnb n2 = some z1 := h
    unfold slices_IndexFunc_Sample_Sample_b1 at h
    refine ATodo.seq ?_
    refine ATodo.region ?_
    refine ARun.qv (q_lss rfl rfl) rfl ?_
    refine ARun.nil ?_
    refine ATodo.seq ?_
    refine ATodo.cond_d rfl (fun hc => ?_) (fun hc => ?_)
    · replace h := iteT hc h
      refine ATodo.skip ?_
      refine ATodo.seq ?_
      refine ATodo.block ?_
      refine ATodo.seq ?_
      refine ATodo.region ?_
      refine ARun.qv (q_move rfl) rfl ?_
      refine ARun.qv (q_assign rfl) rfl ?_
      refine ARun.nil ?_
      refine ATodo.seq ?_
      refine ATodo.region ?_
      refine ARun.qv (q_move rfl) rfl ?_
      refine ARun.qv (q_move rfl) rfl ?_
      refine ARun.qv (q_move rfl) rfl ?_
      obtain ⟨v3, e1, h⟩ := bnd h
      refine ARun.qv (t_index rfl rfl rfl e1 rfl rfl) rfl ?_
      refine ARun.qv (q_load_rptr_agg rfl rfl rfl) rfl ?_
      obtain ⟨v4, e2, h⟩ := bnd h
      refine r_callvp rfl rfl (fnb_h e2) (CoL.refl _) rfl ?_
      refine ARun.nil ?_
      refine ATodo.cond rfl (fun hc => ?_) (fun hc => ?_)
      · replace h := iteT hc h
        refine ATodo.seq ?_
        refine ATodo.region ?_
        refine ARun.qv (q_move rfl) rfl ?_
        refine ARun.qv (q_assign rfl) rfl ?_
        refine ARun.nil ?_
        refine ATodo.ret ?_
        replace h := outL h hA1
        obtain rfl := Option.some.inj h
        exact ImpX.here ⟨_, .cons (.tmp _ _ rfl) .nil, rfl⟩
      · replace h := iteFb hc h
        refine ATodo.skip ?_
        refine ATodo.blk ?_
        refine ATodo.region ?_
        refine ARun.qv (q_addw rfl rfl) rfl ?_
        refine ARun.qv (q_move rfl) rfl ?_
        refine ARun.nil ?_
        refine ATodo.stop ?_
        obtain rfl := Option.some.inj h
        refine hJ1 _ _ rfl ?_
        exact ImpX.lessP (by exact ⟨rfl, rfl, rfl, rfl, True.intro⟩) (.nil) (ImpX.here rfl)
    · replace h := iteF hc h
      refine ATodo.exit rfl ?_
      replace h := outL h hA1
      refine ATodo.seq ?_
      refine ATodo.region ?_
      refine ARun.qv (q_assign rfl) rfl ?_
      refine ARun.nil ?_
      refine ATodo.ret ?_
      obtain rfl := Option.some.inj h
      exact ImpX.here ⟨_, .cons (.tmp _ _ rfl) .nil, rfl⟩

set_option maxHeartbeats 4000000 in
theorem slices_ContainsFunc_Sample_Sample_c {p0x0 : List Sample} {fnb : Sample → Option Bool} {fnb_F : FuncId} [IsFn Try.prog fnb_F] {fnb_C : List AV} (fnb_h : ∀ {y0 : _} {u : Bool}, fnb y0 = some u → Pu Try.prog fnb_F (.agg [.str y0.Device, .str y0.Metric, I y0.At, I y0.Value] ::  fnb_C) (.bool u)) {r : Bool} (h : slices_ContainsFunc_Sample_Sample p0x0 fnb = some r) : Pu Try.prog 71 [.list 4 (p0x0.map Sample.av), .func (.func fnb_F) fnb_C] (.bool r) := by
  unfold slices_ContainsFunc_Sample_Sample at h
  refine ACall.bodyN Try.func71 rfl Try.ntmps71 Try.results71 rfl rfl ?_
  refine ATodo.seq ?_
  refine ATodo.region ?_
  refine ARun.qv (q_assign rfl) rfl ?_
  refine ARun.nil ?_
  refine ATodo.seq ?_
  refine ATodo.region ?_
  refine ARun.qv (q_move rfl) rfl ?_
  refine ARun.qv (q_move rfl) rfl ?_
  obtain ⟨v1, e1, h⟩ := bnd h
  refine r_callpB rfl (slices_IndexFunc_Sample_Sample_c fnb_h e1) (.cons (.co (.refl _)) (.cons (.co (.refl _)) .nil)) rfl rfl ?_
  refine ARun.qv (q_geq rfl rfl) rfl ?_
  refine ARun.qv (q_assign rfl) rfl ?_
  refine ARun.nil ?_
  refine ATodo.ret ?_
  obtain rfl := Option.some.inj h
  exact ImpX.here ⟨_, .cons (.tmp _ _ rfl) .nil, rfl⟩

set_option maxHeartbeats 4000000 in
theorem series_CheckSeries_c {p0x0 : List Sample} {r : Int} (h : series_CheckSeries p0x0 = some r) : Pu Try.prog 76 [.list 4 (p0x0.map Sample.av)] (I r) := by
  unfold series_CheckSeries at h
  refine ACall.bodyN Try.func76 rfl Try.ntmps76 Try.results76 rfl rfl ?_
  refine ATodo.seq ?_
  refine ATodo.region ?_
  refine n_box rfl rfl rfl rfl (fun b1 => ?_)
  refine ARun.qv (q_assign rfl) rfl ?_
  refine ARun.nil ?_
  refine ATodo.seq ?_
  refine ATodo.seq ?_
  refine ATodo.region ?_
  refine ARun.qv (q_load_ptr rfl rfl .here rfl) rfl ?_
  obtain ⟨v2, e1, h⟩ := bnd h
  refine r_callp rfl (series_Check_c e1) (CoL.refl _) rfl ?_
  refine ARun.qv (q_assign rfl) rfl ?_
  refine ARun.nil ?_
  refine ATodo.seq ?_
  refine ATodo.region ?_
  refine ARun.qv (q_move rfl) rfl ?_
  refine ARun.qv (q_neq rfl rfl) rfl ?_
  refine ARun.nil ?_
  refine ATodo.cond_d rfl (fun hc => ?_) (fun hc => ?_)
  · replace h := iteT hc h
    refine ATodo.seq ?_
    refine ATodo.region ?_
    refine ARun.qv (q_move rfl) rfl ?_
    refine ARun.qv (q_assign rfl) rfl ?_
    refine ARun.nil ?_
    refine ATodo.ret ?_
    obtain rfl := Option.some.inj h
    exact ImpX.here ⟨_, .cons (.tmp _ _ rfl) .nil, rfl⟩
  · replace h := iteF hc h
    refine ATodo.skip ?_
    refine ATodo.seq ?_
    refine ATodo.seq ?_
    refine ATodo.region ?_
    refine ARun.qv (q_load_ptr rfl rfl .here rfl) rfl ?_
    refine ARun.qv (q_makeFunc rfl) rfl ?_
    obtain ⟨v3, e2, h⟩ := bnd h
    refine r_callpB rfl (slices_ContainsFunc_Sample_Sample_c (fun e => series_CheckSeries_1x_c e) e2) (.cons (.co (.refl _)) (.cons (.funcL _ _ _ (.cons (.boxL _ _ _ .here (.cons (.co (.refl _)) .nil)) .nil)) .nil)) rfl rfl ?_
    refine ARun.nil ?_
    refine ATodo.cond rfl (fun hc => ?_) (fun hc => ?_)
    · replace h := iteT hc h
      refine ATodo.seq ?_
      refine ATodo.region ?_
      refine ARun.qv (q_assign rfl) rfl ?_
      refine ARun.nil ?_
      refine ATodo.ret ?_
      obtain rfl := Option.some.inj h
      exact ImpX.here ⟨_, .cons (.tmp _ _ rfl) .nil, rfl⟩
    · replace h := iteFb hc h
      refine ATodo.skip ?_
      refine ATodo.seq ?_
      refine ATodo.region ?_
      refine ARun.qv (q_assign rfl) rfl ?_
      refine ARun.nil ?_
      refine ATodo.ret ?_
      obtain rfl := Option.some.inj h
      exact ImpX.here ⟨_, .cons (.tmp _ _ rfl) .nil, rfl⟩

set_option maxHeartbeats 4000000 in
theorem series_seven_n0x_c {p1x0 : Int} {r : (List Int)} (h : series_seven_n0x p1x0 = some r) : ACall Try.prog 132 [.nil, .int .u64 p1x0] [] (T1 (fun d_0 => [(d_0, .arr 1 (r.map (AV.int .u8)))]) (fun d_0 => .sl 1 d_0 0 r.length)) := by
  unfold series_seven_n0x at h
  refine ACall.lessH ?_
  refine ACall.bodyN Try.func132 rfl Try.ntmps132 Try.results132 rfl rfl ?_
  refine ATodo.seq ?_
  refine ATodo.region ?_
  refine ARun.qv (q_assign rfl) rfl ?_
  refine ARun.nil ?_
  refine ATodo.seq ?_
  refine ATodo.block ?_
  refine ATodo.loopI (fun x : (List Int) × Int => series_seven_n0x_b1 x.1 x.2) (fun x σ' => ∃ (b4 : Bk), σ' = ⟨21, [(0, .sl 1 b4 0 x.1.length), (1, .int .u64 x.2)], [(b4, .arr 1 (x.1.map (AV.int .u8)))]⟩) h ?_ ?_
  · refine ImpX.arr (s := 0) 1 rfl (fun b7 => ?_)
    exact ImpX.lessP (by exact ⟨rfl, rfl, True.intro⟩) (.cons .here .nil) (ImpX.here ⟨b7, rfl⟩)
  · intro x z1 σ' J1 hmk h hJ1 hA1
    obtain ⟨l5, n6⟩ := x
    obtain ⟨b4, rfl⟩ := hmk
    replace h : series_seven_n0x_b1 l5 n6 = some z1 := h
    unfold series_seven_n0x_b1 at h
    refine ATodo.seq ?_
    refine ATodo.seq ?_
    refine ATodo.region ?_
    refine ARun.qv (q_move rfl) rfl ?_
    refine ARun.qv (q_geq rfl rfl) rfl ?_
    refine ARun.nil ?_
    refine ATodo.cond_d rfl (fun hc => ?_) (fun hc => ?_)
    · replace h := iteT hc h
      refine ATodo.skip ?_
      refine ATodo.block ?_
      refine ATodo.region ?_
      refine ARun.qv (q_move rfl) rfl ?_
      refine ARun.qv (q_move rfl) rfl ?_
      refine ARun.qv (t_and rfl rfl) rfl ?_
      refine ARun.qv (q_conv_int rfl) rfl ?_
      refine ARun.qv (t_or rfl rfl) rfl ?_
      refine n_buildSliceL (xs := ([orI .u8 (IntKind.u8.wrap (andI .u64 n6 (127 : Int))) (128 : Int)]).map (AV.int .u8)) rfl rfl rfl rfl rfl rfl ?_
      obtain ⟨l8, e1, h⟩ := bnd h
      refine t_append (g := (AV.int .u8)) rfl rfl rfl rfl rfl rfl rfl rfl (.list _) e1 (fun _ => .here) rfl (fun b9 => ?_)
      refine ARun.qv (q_move rfl) rfl ?_
      refine ARun.qv (t_shr rfl rfl (by decide)) rfl ?_
      refine ARun.qv (q_assign rfl) rfl ?_
      refine ARun.qv (q_assign rfl) rfl ?_
      refine ARun.nil ?_
      refine ATodo.blk ?_
      refine ATodo.stop ?_
      obtain rfl := Option.some.inj h
      refine hJ1 _ _ rfl ?_
      exact ImpX.lessP (by exact ⟨rfl, rfl, True.intro⟩) (.cons .here .nil) (ImpX.here ⟨b9, rfl⟩)
    · replace h := iteF hc h
      refine ATodo.exit rfl ?_
      replace h := outL h hA1
      unfold series_seven_n0x_k1 at h
      refine ATodo.seq ?_
      refine ATodo.region ?_
      refine ARun.qv (q_move rfl) rfl ?_
      refine ARun.qv (q_move rfl) rfl ?_
      refine ARun.qv (q_conv_int rfl) rfl ?_
      refine n_buildSliceL (xs := ([IntKind.u8.wrap (n6)] : List Int).map (AV.int .u8)) rfl rfl rfl rfl rfl rfl ?_
      obtain ⟨l10, e2, h⟩ := bnd h
      refine t_append (g := (AV.int .u8)) rfl rfl rfl rfl rfl rfl rfl rfl (.list _) e2 (fun _ => .here) rfl (fun b11 => ?_)
      refine ARun.qv (q_assign rfl) rfl ?_
      refine ARun.nil ?_
      refine ATodo.ret ?_
      obtain rfl := Option.some.inj h
      exact ImpX.here ⟨_, .cons (.tmp _ _ rfl) .nil, _, .cons .here .nil, ⟨b11, rfl, rfl⟩⟩

set_option maxHeartbeats 4000000 in
theorem series_doubled_c {p0x0 : Int} {r : Int} (h : series_doubled p0x0 = r) : Pu Try.prog 133 [I p0x0] (.int .u64 r) := by
  unfold series_doubled at h
  refine ACall.bodyN Try.func133 rfl Try.ntmps133 Try.results133 rfl rfl ?_
  refine ATodo.seq ?_
  refine ATodo.region ?_
  refine ARun.qv (q_assign rfl) rfl ?_
  refine ARun.nil ?_
  refine ATodo.seq ?_
  refine ATodo.seq ?_
  refine ATodo.region ?_
  refine ARun.qv (q_move rfl) rfl ?_
  refine ARun.qv (q_lss rfl rfl) rfl ?_
  refine ARun.nil ?_
  refine ATodo.cond_d rfl (fun hc => ?_) (fun hc => ?_)
  · replace h := iteT hc h
    refine ATodo.seq ?_
    refine ATodo.region ?_
    refine ARun.qv (q_move rfl) rfl ?_
    refine ARun.qv (q_mulw rfl rfl) rfl ?_
    refine ARun.qv (q_subw rfl rfl) rfl ?_
    refine ARun.qv (q_conv_int rfl) rfl ?_
    refine ARun.qv (q_assign rfl) rfl ?_
    refine ARun.nil ?_
    refine ATodo.ret ?_
    obtain rfl := h
    exact ImpX.here ⟨_, .cons (.tmp _ _ rfl) .nil, rfl⟩
  · replace h := iteF hc h
    refine ATodo.skip ?_
    refine ATodo.seq ?_
    refine ATodo.region ?_
    refine ARun.qv (q_move rfl) rfl ?_
    refine ARun.qv (q_mulw rfl rfl) rfl ?_
    refine ARun.qv (q_conv_int rfl) rfl ?_
    refine ARun.qv (q_assign rfl) rfl ?_
    refine ARun.nil ?_
    refine ATodo.ret ?_
    obtain rfl := h
    exact ImpX.here ⟨_, .cons (.tmp _ _ rfl) .nil, rfl⟩

set_option maxHeartbeats 4000000 in
theorem series_seven_o0x_c {b_0 : Bk} {p0x0 : List Int} {p1x0 : Int} {r : (List Int)} (h : series_seven_o0x p0x0 p1x0 = some r) : ACall Try.prog 132 [.sl 1 b_0 0 p0x0.length, .int .u64 p1x0] [(b_0, .arr 1 (p0x0.map (AV.int .u8)))] (T1 (fun d_0 => [(d_0, .arr 1 (r.map (AV.int .u8)))]) (fun d_0 => .sl 1 d_0 0 r.length)) := by
  unfold series_seven_o0x at h
  refine ACall.lessH ?_
  refine ACall.bodyN Try.func132 rfl Try.ntmps132 Try.results132 rfl rfl ?_
  refine ATodo.seq ?_
  refine ATodo.region ?_
  refine ARun.qv (q_assign rfl) rfl ?_
  refine ARun.nil ?_
  refine ATodo.seq ?_
  refine ATodo.block ?_
  refine ATodo.loopI (fun x : (List Int) × Int => series_seven_o0x_b1 x.1 x.2) (fun x σ' => ∃ (b4 : Bk), σ' = ⟨21, [(0, .sl 1 b4 0 x.1.length), (1, .int .u64 x.2)], [(b4, .arr 1 (x.1.map (AV.int .u8)))]⟩) h ?_ ?_
  · exact ImpX.lessP (by exact ⟨rfl, rfl, True.intro⟩) (.cons .here .nil) (ImpX.here ⟨b_0, rfl⟩)
  · intro x z1 σ' J1 hmk h hJ1 hA1
    obtain ⟨l5, n6⟩ := x
    obtain ⟨b4, rfl⟩ := hmk
    replace h : series_seven_o0x_b1 l5 n6 = some z1 := h
    unfold series_seven_o0x_b1 at h
    refine ATodo.seq ?_
    refine ATodo.seq ?_
    refine ATodo.region ?_
    refine ARun.qv (q_move rfl) rfl ?_
    refine ARun.qv (q_geq rfl rfl) rfl ?_
    refine ARun.nil ?_
    refine ATodo.cond_d rfl (fun hc => ?_) (fun hc => ?_)
    · replace h := iteT hc h
      refine ATodo.skip ?_
      refine ATodo.block ?_
      refine ATodo.region ?_
      refine ARun.qv (q_move rfl) rfl ?_
      refine ARun.qv (q_move rfl) rfl ?_
      refine ARun.qv (t_and rfl rfl) rfl ?_
      refine ARun.qv (q_conv_int rfl) rfl ?_
      refine ARun.qv (t_or rfl rfl) rfl ?_
      refine n_buildSliceL (xs := ([orI .u8 (IntKind.u8.wrap (andI .u64 n6 (127 : Int))) (128 : Int)]).map (AV.int .u8)) rfl rfl rfl rfl rfl rfl ?_
      obtain ⟨l7, e1, h⟩ := bnd h
      refine t_append (g := (AV.int .u8)) rfl rfl rfl rfl rfl rfl rfl rfl (.list _) e1 (fun _ => .here) rfl (fun b8 => ?_)
      refine ARun.qv (q_move rfl) rfl ?_
      refine ARun.qv (t_shr rfl rfl (by decide)) rfl ?_
      refine ARun.qv (q_assign rfl) rfl ?_
      refine ARun.qv (q_assign rfl) rfl ?_
      refine ARun.nil ?_
      refine ATodo.blk ?_
      refine ATodo.stop ?_
      obtain rfl := Option.some.inj h
      refine hJ1 _ _ rfl ?_
      exact ImpX.lessP (by exact ⟨rfl, rfl, True.intro⟩) (.cons .here .nil) (ImpX.here ⟨b8, rfl⟩)
    · replace h := iteF hc h
      refine ATodo.exit rfl ?_
      replace h := outL h hA1
      unfold series_seven_o0x_k1 at h
      refine ATodo.seq ?_
      refine ATodo.region ?_
      refine ARun.qv (q_move rfl) rfl ?_
      refine ARun.qv (q_move rfl) rfl ?_
      refine ARun.qv (q_conv_int rfl) rfl ?_
      refine n_buildSliceL (xs := ([IntKind.u8.wrap (n6)] : List Int).map (AV.int .u8)) rfl rfl rfl rfl rfl rfl ?_
      obtain ⟨l9, e2, h⟩ := bnd h
      refine t_append (g := (AV.int .u8)) rfl rfl rfl rfl rfl rfl rfl rfl (.list _) e2 (fun _ => .here) rfl (fun b10 => ?_)
      refine ARun.qv (q_assign rfl) rfl ?_
      refine ARun.nil ?_
      refine ATodo.ret ?_
      obtain rfl := Option.some.inj h
      exact ImpX.here ⟨_, .cons (.tmp _ _ rfl) .nil, _, .cons .here .nil, ⟨b10, rfl, rfl⟩⟩

set_option maxHeartbeats 4000000 in
theorem series_pack_c {p0x0 : List Sample} {r : (List Int)} (h : series_pack p0x0 = some r) : ACall Try.prog 77 [.list 4 (p0x0.map Sample.av)] [] (T1 (fun d_0 => [(d_0, .arr 1 (r.map (AV.int .u8)))]) (fun d_0 => .sl 1 d_0 0 r.length)) := by
  unfold series_pack at h
  refine ACall.lessH ?_
  refine ACall.bodyN Try.func77 rfl Try.ntmps77 Try.results77 rfl rfl ?_
  refine ATodo.seq ?_
  refine ATodo.region ?_
  refine ARun.qv (q_assign rfl) rfl ?_
  refine ARun.nil ?_
  refine ATodo.seq ?_
  refine ATodo.region ?_
  refine ARun.qv (q_move rfl) rfl ?_
  refine ARun.qv (t_len rfl) rfl ?_
  refine ARun.qv (q_conv_int rfl) rfl ?_
  obtain ⟨v1, e1, h⟩ := bnd h
  refine t_call1 rfl (series_seven_n0x_c e1) (CoL.refl _) .nil (fun _ => rfl) rfl (fun b2 => ?_)
  refine ARun.qv (q_assign rfl) rfl ?_
  refine ARun.nil ?_
  refine ATodo.seq ?_
  refine ATodo.region ?_
  refine ARun.qv (q_assign rfl) rfl ?_
  refine ARun.qv (q_assign rfl) rfl ?_
  refine ARun.qv (q_assign rfl) rfl ?_
  refine ARun.nil ?_
  refine ATodo.seq ?_
  refine ATodo.seq ?_
  refine ATodo.region ?_
  refine ARun.qv (q_move rfl) rfl ?_
  refine ARun.qv (t_len rfl) rfl ?_
  refine ARun.qv (q_move rfl) rfl ?_
  refine ARun.nil ?_
  refine ATodo.block ?_
  refine ATodo.loopI (fun x : (List Int) × Int × Int × Int × Int => series_pack_b1 p0x0 x.1 x.2.1 x.2.2.1 x.2.2.2.1 x.2.2.2.2) (fun x σ' => ∃ (b9 : Bk), σ' = ⟨47, [(3, .sl 1 b9 0 x.1.length), (4, I x.2.1), (5, I x.2.2.1), (6, I x.2.2.2.1), (14, .list 4 (p0x0.map Sample.av)), (15, I (p0x0.length : Int)), (16, I x.2.2.2.2)], [(b9, .arr 1 (x.1.map (AV.int .u8)))]⟩) h ?_ ?_
  · exact ImpX.lessP (by exact ⟨rfl, rfl, rfl, rfl, rfl, rfl, rfl, True.intro⟩) (.cons .here .nil) (ImpX.here ⟨b2, rfl⟩)
  · intro x z1 σ' J1 hmk h hJ1 hA1
    obtain ⟨l10, n11, n12, n13, n14⟩ := x
    obtain ⟨b9, rfl⟩ := hmk
    replace h : series_pack_b1 p0x0 l10 n11 n12 n13 n14 = some z1 := h
    unfold series_pack_b1 at h
    refine ATodo.seq ?_
    refine ATodo.region ?_
    refine ARun.qv (q_lss rfl rfl) rfl ?_
    refine ARun.nil ?_
    refine ATodo.seq ?_
    refine ATodo.cond_d rfl (fun hc => ?_) (fun hc => ?_)
    · replace h := iteT hc h
      refine ATodo.skip ?_
      refine ATodo.seq ?_
      refine ATodo.block ?_
      refine ATodo.seq ?_
      refine ATodo.region ?_
      refine ARun.qv (q_move rfl) rfl ?_
      obtain ⟨v15, e2, h⟩ := bnd h
      refine ARun.qv (t_index rfl rfl rfl e2 rfl rfl) rfl ?_
      refine ARun.qv (q_load_rptr_agg rfl rfl rfl) rfl ?_
      refine n_alloc rfl rfl rfl rfl (fun b16 => ?_)
      refine ARun.qv (q_assign rfl) rfl ?_
      refine n_store_ptr rfl rfl rfl rfl .here rfl rfl ?_
      refine ARun.nil ?_
      refine ATodo.seq ?_
      refine ATodo.region ?_
      refine ARun.qv (n_field_ptr rfl rfl) rfl ?_
      refine ARun.qv (q_load_ptr rfl rfl .here rfl) rfl ?_
      refine ARun.qv (q_move rfl) rfl ?_
      refine ARun.qv (q_subw rfl rfl) rfl ?_
      refine ARun.qv (q_assign rfl) rfl ?_
      refine ARun.nil ?_
      refine ATodo.seq ?_
      refine ATodo.region ?_
      refine ARun.qv (q_move rfl) rfl ?_
      refine ARun.qv (q_move rfl) rfl ?_
      refine ARun.qv (q_move rfl) rfl ?_
      refine ARun.qv (q_subw rfl rfl) rfl ?_
      refine r_callp rfl (series_doubled_c rfl) (CoL.refl _) rfl ?_
      obtain ⟨v17, e3, h⟩ := bnd h
      refine t_call1 rfl (series_seven_o0x_c e3) (CoL.refl _) (.cons (.next .here) .nil) (fun _ => rfl) rfl (fun b18 => ?_)
      refine ARun.qv (q_assign rfl) rfl ?_
      refine ARun.nil ?_
      refine ATodo.seq ?_
      refine ATodo.region ?_
      refine ARun.qv (q_move rfl) rfl ?_
      refine ARun.qv (n_field_ptr rfl rfl) rfl ?_
      refine ARun.qv (q_load_ptr rfl rfl (.next .here) rfl) rfl ?_
      refine ARun.qv (q_move rfl) rfl ?_
      refine ARun.qv (q_subw rfl rfl) rfl ?_
      refine r_callp rfl (series_doubled_c rfl) (CoL.refl _) rfl ?_
      obtain ⟨v19, e4, h⟩ := bnd h
      refine t_call1 rfl (series_seven_o0x_c e4) (CoL.refl _) (.cons .here .nil) (fun _ => rfl) rfl (fun b20 => ?_)
      refine ARun.qv (q_assign rfl) rfl ?_
      refine ARun.nil ?_
      refine ATodo.seq ?_
      refine ATodo.seq ?_
      refine ATodo.region ?_
      refine ARun.qv (q_move rfl) rfl ?_
      refine ARun.qv (q_gtr rfl rfl) rfl ?_
      refine ARun.nil ?_
      refine ATodo.cut (fun σ' => ∃ (n21 : Int), series_pack_j1 n14 v15 v19 n21 = some z1 ∧ σ' = ⟨47, [(3, .sl 1 b20 0 v19.length), (5, I n21), (8, .ptr b16 0), (14, .list 4 (p0x0.map Sample.av)), (15, I (p0x0.length : Int)), (16, I n14)], [(b20, .arr 1 (v19.map (AV.int .u8))), (b16, .cells [.str v15.Device, .str v15.Metric, I v15.At, I v15.Value])]⟩) ?_ ?_
      · refine ATodo.cond_d rfl (fun hc => ?_) (fun hc => ?_)
        · replace h := iteT hc h
          refine ATodo.region ?_
          refine ARun.qv (q_move rfl) rfl ?_
          refine ARun.qv (q_assign rfl) rfl ?_
          refine ARun.nil ?_
          refine ATodo.stop ?_
          exact ImpX.lessP (by exact ⟨rfl, rfl, rfl, rfl, rfl, rfl, True.intro⟩) (.cons .here (.cons .here .nil)) (ImpX.here ⟨w64 (v15.At - n11), h, rfl⟩)
        · replace h := iteF hc h
          refine ATodo.skip ?_
          refine ATodo.stop ?_
          exact ImpX.lessP (by exact ⟨rfl, rfl, rfl, rfl, rfl, rfl, True.intro⟩) (.cons .here (.cons .here .nil)) (ImpX.here ⟨n12, h, rfl⟩)
      · rintro σ' ⟨n21, h, rfl⟩
        unfold series_pack_j1 at h
        refine ATodo.regionM (id := 11) (A := [0, 1, 0, 4, 3, 31]) 6 mixed rfl (by kernel_rfl) (by kernel_rfl) ?_
        refine AM.qv (n_field_ptr rfl rfl) rfl ?_
        refine AM.qv (q_load_ptr rfl rfl (.next .here) rfl) rfl ?_
        refine AM.qv (n_field_ptr rfl rfl) rfl ?_
        refine AM.qv (q_load_ptr rfl rfl (.next .here) rfl) rfl ?_
        refine AM.qv (q_assign rfl) rfl ?_
        refine AM.qv (q_assign rfl) rfl ?_
        refine AM.nil ?_
        refine ARun.nil ?_
        refine ATodo.blk ?_
        refine ATodo.region ?_
        refine ARun.qv (q_addw rfl rfl) rfl ?_
        refine ARun.qv (q_move rfl) rfl ?_
        refine ARun.nil ?_
        refine ATodo.stop ?_
        obtain rfl := Option.some.inj h
        refine hJ1 _ _ rfl ?_
        exact ImpX.lessP (by exact ⟨rfl, rfl, rfl, rfl, rfl, rfl, rfl, True.intro⟩) (.cons .here .nil) (ImpX.here ⟨b20, rfl⟩)
    · replace h := iteF hc h
      refine ATodo.exit rfl ?_
      replace h := outL h hA1
      refine ATodo.seq ?_
      refine ATodo.region ?_
      refine ARun.qv (q_move rfl) rfl ?_
      refine ARun.qv (q_assign rfl) rfl ?_
      refine ARun.nil ?_
      refine ATodo.ret ?_
      obtain rfl := Option.some.inj h
      exact ImpX.here ⟨_, .cons (.tmp _ _ rfl) .nil, _, .cons .here .nil, ⟨b9, rfl, rfl⟩⟩

set_option maxHeartbeats 4000000 in
theorem series_Pack_c {p0x0 : List Sample} {r : (List Int) × Int} (h : series_Pack p0x0 = some r) : ACall Try.prog 23 [.list 4 (p0x0.map Sample.av)] [] (T1 (fun d_0 => [(d_0, .arr 1 (r.1.map (AV.int .u8)))]) (fun d_0 => .tup [.sl 1 d_0 0 r.1.length, I r.2])) := by
  unfold series_Pack at h
  refine ACall.lessH ?_
  refine ACall.bodyN Try.func23 rfl Try.ntmps23 Try.results23 rfl rfl ?_
  refine ATodo.seq ?_
  refine ATodo.region ?_
  refine ARun.qv (q_assign rfl) rfl ?_
  refine ARun.qv (q_assign rfl) rfl ?_
  refine ARun.nil ?_
  refine ATodo.seq ?_
  refine ATodo.seq ?_
  refine ATodo.region ?_
  refine ARun.qv (q_move rfl) rfl ?_
  obtain ⟨v1, e1, h⟩ := bnd h
  refine r_callp rfl (series_CheckSeries_c e1) (CoL.refl _) rfl ?_
  refine ARun.qv (q_assign rfl) rfl ?_
  refine ARun.nil ?_
  refine ATodo.seq ?_
  refine ATodo.region ?_
  refine ARun.qv (q_move rfl) rfl ?_
  refine ARun.qv (q_neq rfl rfl) rfl ?_
  refine ARun.nil ?_
  refine ATodo.cond_d rfl (fun hc => ?_) (fun hc => ?_)
  · replace h := iteT hc h
    refine ATodo.seq ?_
    refine ATodo.region ?_
    refine ARun.qv (q_move rfl) rfl ?_
    refine ARun.qv (q_assign rfl) rfl ?_
    refine ARun.qv (q_assign rfl) rfl ?_
    refine ARun.nil ?_
    refine ATodo.ret ?_
    obtain rfl := Option.some.inj h
    refine ImpX.arr (s := 2) 1 rfl (fun b2 => ?_)
    exact ImpX.here ⟨_, .cons (.tmp _ _ rfl) (.cons (.tmp _ _ rfl) .nil), _, .cons .here .nil, ⟨b2, rfl, rfl⟩⟩
  · replace h := iteF hc h
    refine ATodo.skip ?_
    refine ATodo.seq ?_
    refine ATodo.region ?_
    refine ARun.qv (q_move rfl) rfl ?_
    obtain ⟨v3, e2, h⟩ := bnd h
    refine t_call1 rfl (series_pack_c e2) (CoL.refl _) .nil (fun _ => rfl) rfl (fun b4 => ?_)
    refine ARun.qv (q_assign rfl) rfl ?_
    refine ARun.qv (q_assign rfl) rfl ?_
    refine ARun.nil ?_
    refine ATodo.ret ?_
    obtain rfl := Option.some.inj h
    exact ImpX.here ⟨_, .cons (.tmp _ _ rfl) (.cons (.tmp _ _ rfl) .nil), _, .cons .here .nil, ⟨b4, rfl, rfl⟩⟩

set_option maxHeartbeats 4000000 in
theorem series_unseven_c {p0x0 : List Int} {r : Int × (List Int) × Bool} (h : series_unseven p0x0 = some r) : Pu Try.prog 79 [.list 1 (p0x0.map (AV.int .u8))] (.tup [.int .u64 r.1, .list 1 (r.2.1.map (AV.int .u8)), .bool r.2.2]) := by
  unfold series_unseven at h
  refine ACall.bodyN Try.func79 rfl Try.ntmps79 Try.results79 rfl rfl ?_
  refine ATodo.seq ?_
  refine ATodo.region ?_
  refine ARun.qv (q_assign rfl) rfl ?_
  refine ARun.qv (q_assign rfl) rfl ?_
  refine ARun.qv (q_assign rfl) rfl ?_
  refine ARun.nil ?_
  refine ATodo.seq ?_
  refine ATodo.seq ?_
  refine ATodo.region ?_
  refine ARun.qv (q_move rfl) rfl ?_
  refine ARun.qv (t_len rfl) rfl ?_
  refine ARun.qv (q_move rfl) rfl ?_
  refine ARun.nil ?_
  refine ATodo.block ?_
  refine ATodo.loopI (fun x : Int × Int => series_unseven_b1 p0x0 x.1 x.2) (fun x σ' => σ' = ⟨32, [(0, .list 1 (p0x0.map (AV.int .u8))), (2, .int .u64 x.1), (7, .list 1 (p0x0.map (AV.int .u8))), (8, I (p0x0.length : Int)), (9, I x.2)], []⟩) h ?_ ?_
  · exact ImpX.lessP (by exact ⟨rfl, rfl, rfl, rfl, rfl, True.intro⟩) (.nil) (ImpX.here rfl)
  · intro x z1 σ' J1 hmk h hJ1 hA1
    obtain ⟨n3, n4⟩ := x
    obtain rfl := hmk
    replace h : series_unseven_b1 p0x0 n3 n4 = some z1 := h
    unfold series_unseven_b1 at h
    refine ATodo.seq ?_
    refine ATodo.region ?_
    refine ARun.qv (q_lss rfl rfl) rfl ?_
    refine ARun.nil ?_
    refine ATodo.seq ?_
    refine ATodo.cond_d rfl (fun hc => ?_) (fun hc => ?_)
    · replace h := iteT hc h
      refine ATodo.skip ?_
      refine ATodo.seq ?_
      refine ATodo.block ?_
      refine ATodo.seq ?_
      refine ATodo.region ?_
      refine ARun.qv (q_move rfl) rfl ?_
      obtain ⟨v5, e1, h⟩ := bnd h
      refine ARun.qv (t_index rfl rfl rfl e1 rfl rfl) rfl ?_
      refine ARun.qv (q_load_rptr rfl rfl rfl) rfl ?_
      refine ARun.qv (q_assign rfl) rfl ?_
      refine ARun.qv (q_assign rfl) rfl ?_
      refine ARun.nil ?_
      refine ATodo.seq ?_
      refine ATodo.seq ?_
      refine ATodo.region ?_
      refine ARun.qv (q_move rfl) rfl ?_
      refine ARun.qv (q_eql rfl rfl) rfl ?_
      refine ARun.nil ?_
      refine ATodo.cond_d rfl (fun hc => ?_) (fun hc => ?_)
      · replace h := iteT hc h
        refine ATodo.seq ?_
        refine ATodo.region ?_
        refine ARun.qv (q_assign rfl) rfl ?_
        refine ARun.qv (q_assign rfl) rfl ?_
        refine ARun.qv (q_assign rfl) rfl ?_
        refine ARun.nil ?_
        refine ATodo.ret ?_
        replace h := outL h hA1
        obtain rfl := Option.some.inj h
        refine ImpX.co (s := 3) rfl (.nil 1) ?_
        exact ImpX.here ⟨_, .cons (.tmp _ _ rfl) (.cons (.tmp _ _ rfl) (.cons (.tmp _ _ rfl) .nil)), rfl⟩
      · replace h := iteF hc h
        refine ATodo.skip ?_
        refine ATodo.seq ?_
        refine ATodo.region ?_
        refine ARun.qv (q_move rfl) rfl ?_
        refine ARun.qv (q_move rfl) rfl ?_
        refine ARun.qv (t_and rfl rfl) rfl ?_
        refine ARun.qv (q_conv_int rfl) rfl ?_
        refine ARun.qv (q_move rfl) rfl ?_
        refine ARun.qv (q_mulw rfl rfl) rfl ?_
        obtain ⟨n6, e2, h⟩ := bnd h
        refine ARun.qv (t_shlS rfl rfl e2) rfl ?_
        refine ARun.qv (t_or rfl rfl) rfl ?_
        refine ARun.qv (q_assign rfl) rfl ?_
        refine ARun.nil ?_
        refine ATodo.seq ?_
        refine ATodo.region ?_
        refine ARun.qv (q_move rfl) rfl ?_
        refine ARun.qv (q_lss rfl rfl) rfl ?_
        refine ARun.nil ?_
        refine ATodo.cond_d rfl (fun hc => ?_) (fun hc => ?_)
        · replace h := iteT hc h
          refine ATodo.seq ?_
          refine ATodo.regionM (id := 8) (A := [0, 0, 0, 4, 14, 1, 63, 127]) 8 mixed rfl (by kernel_rfl) (by kernel_rfl) ?_
          refine AM.qv (q_move rfl) rfl ?_
          refine AM.qv (q_move rfl) rfl ?_
          refine AM.qv (q_move rfl) rfl ?_
          refine AM.qv (q_addw rfl rfl) rfl ?_
          obtain ⟨l7, e3, h⟩ := bnd h
          refine AM.qv (t_slice_list rfl rfl (.some _ _ _ rfl) .none rfl rfl e3) rfl ?_
          refine AM.qv (q_assign rfl) rfl ?_
          refine AM.qv (q_assign rfl) rfl ?_
          refine AM.qv (q_assign rfl) rfl ?_
          refine AM.nil ?_
          refine ARun.nil ?_
          refine ATodo.ret ?_
          replace h := outL h hA1
          obtain rfl := Option.some.inj h
          exact ImpX.here ⟨_, .cons (.tmp _ _ rfl) (.cons (.tmp _ _ rfl) (.cons (.tmp _ _ rfl) .nil)), rfl⟩
        · replace h := iteF hc h
          refine ATodo.skip ?_
          refine ATodo.blk ?_
          refine ATodo.region ?_
          refine ARun.qv (q_addw rfl rfl) rfl ?_
          refine ARun.qv (q_move rfl) rfl ?_
          refine ARun.nil ?_
          refine ATodo.stop ?_
          obtain rfl := Option.some.inj h
          refine hJ1 _ _ rfl ?_
          exact ImpX.lessP (by exact ⟨rfl, rfl, rfl, rfl, rfl, True.intro⟩) (.nil) (ImpX.here rfl)
    · replace h := iteF hc h
      refine ATodo.exit rfl ?_
      replace h := outL h hA1
      refine ATodo.seq ?_
      refine ATodo.region ?_
      refine ARun.qv (q_assign rfl) rfl ?_
      refine ARun.qv (q_assign rfl) rfl ?_
      refine ARun.qv (q_assign rfl) rfl ?_
      refine ARun.nil ?_
      refine ATodo.ret ?_
      obtain rfl := Option.some.inj h
      refine ImpX.co (s := 3) rfl (.nil 1) ?_
      exact ImpX.here ⟨_, .cons (.tmp _ _ rfl) (.cons (.tmp _ _ rfl) (.cons (.tmp _ _ rfl) .nil)), rfl⟩

set_option maxHeartbeats 4000000 in
theorem series_halved_c {p0x0 : Int} {r : Int} (h : series_halved p0x0 = r) : Pu Try.prog 80 [.int .u64 p0x0] (I r) := by
  unfold series_halved at h
  refine ACall.bodyN Try.func80 rfl Try.ntmps80 Try.results80 rfl rfl ?_
  refine ATodo.seq ?_
  refine ATodo.region ?_
  refine ARun.qv (q_assign rfl) rfl ?_
  refine ARun.nil ?_
  refine ATodo.seq ?_
  refine ATodo.seq ?_
  refine ATodo.region ?_
  refine ARun.qv (q_move rfl) rfl ?_
  refine ARun.qv (q_rem rfl rfl (by decide)) rfl ?_
  refine ARun.qv (q_eql rfl rfl) rfl ?_
  refine ARun.nil ?_
  refine ATodo.cond_d rfl (fun hc => ?_) (fun hc => ?_)
  · replace h := iteT hc h
    refine ATodo.seq ?_
    refine ATodo.region ?_
    refine ARun.qv (q_move rfl) rfl ?_
    refine ARun.qv (t_quo rfl rfl (by decide)) rfl ?_
    refine ARun.qv (q_conv_int rfl) rfl ?_
    refine ARun.qv (t_negw rfl) rfl ?_
    refine ARun.qv (q_subw rfl rfl) rfl ?_
    refine ARun.qv (q_assign rfl) rfl ?_
    refine ARun.nil ?_
    refine ATodo.ret ?_
    obtain rfl := h
    exact ImpX.here ⟨_, .cons (.tmp _ _ rfl) .nil, rfl⟩
  · replace h := iteF hc h
    refine ATodo.skip ?_
    refine ATodo.seq ?_
    refine ATodo.region ?_
    refine ARun.qv (q_move rfl) rfl ?_
    refine ARun.qv (t_quo rfl rfl (by decide)) rfl ?_
    refine ARun.qv (q_conv_int rfl) rfl ?_
    refine ARun.qv (q_assign rfl) rfl ?_
    refine ARun.nil ?_
    refine ATodo.ret ?_
    obtain rfl := h
    exact ImpX.here ⟨_, .cons (.tmp _ _ rfl) .nil, rfl⟩

set_option maxHeartbeats 4000000 in
theorem slices_Equal_byte_byte_c {p0x0 : List Int} {p1x0 : List Int} {r : Bool} (h : slices_Equal_byte_byte p0x0 p1x0 = some r) : Pu Try.prog 28 [.list 1 (p0x0.map (AV.int .u8)), .list 1 (p1x0.map (AV.int .u8))] (.bool r) := by
  unfold slices_Equal_byte_byte at h
  refine ACall.bodyN Try.func28 rfl Try.ntmps28 Try.results28 rfl rfl ?_
  refine ATodo.seq ?_
  refine ATodo.region ?_
  refine ARun.qv (q_assign rfl) rfl ?_
  refine ARun.nil ?_
  refine ATodo.seq ?_
  refine ATodo.seq ?_
  refine ATodo.region ?_
  refine ARun.qv (q_move rfl) rfl ?_
  refine ARun.qv (t_len rfl) rfl ?_
  refine ARun.qv (q_move rfl) rfl ?_
  refine ARun.qv (t_len rfl) rfl ?_
  refine ARun.qv (q_neq rfl rfl) rfl ?_
  refine ARun.nil ?_
  refine ATodo.cond_d rfl (fun hc => ?_) (fun hc => ?_)
  · replace h := iteT hc h
    refine ATodo.seq ?_
    refine ATodo.region ?_
    refine ARun.qv (q_assign rfl) rfl ?_
    refine ARun.nil ?_
    refine ATodo.ret ?_
    obtain rfl := Option.some.inj h
    exact ImpX.here ⟨_, .cons (.tmp _ _ rfl) .nil, rfl⟩
  · replace h := iteF hc h
    refine ATodo.skip ?_
    refine ATodo.seq ?_
    refine ATodo.seq ?_
    refine ATodo.region ?_
    refine ARun.qv (q_move rfl) rfl ?_
    refine ARun.qv (t_len rfl) rfl ?_
    refine ARun.qv (q_move rfl) rfl ?_
    refine ARun.nil ?_
    refine ATodo.block ?_
    refine ATodo.loopI (fun x : Int => slices_Equal_byte_byte_b1 p0x0 p1x0 x) (fun x σ' => σ' = ⟨26, [(0, .list 1 (p0x0.map (AV.int .u8))), (1, .list 1 (p1x0.map (AV.int .u8))), (12, I (p0x0.length : Int)), (13, I x)], []⟩) h ?_ ?_
    · exact ImpX.lessP (by exact ⟨rfl, rfl, rfl, rfl, True.intro⟩) (.nil) (ImpX.here rfl)
    · intro n2 z1 σ' J1 hmk h hJ1 hA1
      obtain rfl := hmk
      replace h : slices_Equal_byte_byte_b1 p0x0 p1x0 n2 = some z1 := h
      unfold slices_Equal_byte_byte_b1 at h
      refine ATodo.seq ?_
      refine ATodo.region ?_
      refine ARun.qv (q_lss rfl rfl) rfl ?_
      refine ARun.nil ?_
      refine ATodo.seq ?_
      refine ATodo.cond_d rfl (fun hc => ?_) (fun hc => ?_)
      · replace h := iteT hc h
        refine ATodo.skip ?_
        refine ATodo.seq ?_
        refine ATodo.block ?_
        refine ATodo.seq ?_
        refine ATodo.region ?_
        refine ARun.qv (q_move rfl) rfl ?_
        refine ARun.qv (q_assign rfl) rfl ?_
        refine ARun.nil ?_
        refine ATodo.seq ?_
        refine ATodo.regionM (id := 6) (A := [0, 0, 3, 7, 0, 0, 48, 112, 255]) 9 mixed rfl (by kernel_rfl) (by kernel_rfl) ?_
        refine AM.qv (q_move rfl) rfl ?_
        refine AM.qv (q_move rfl) rfl ?_
        obtain ⟨v3, e1, h⟩ := bnd h
        refine AM.qv (t_index rfl rfl rfl e1 rfl rfl) rfl ?_
        refine AM.qv (q_load_rptr rfl rfl rfl) rfl ?_
        refine AM.qv (q_move rfl) rfl ?_
        refine AM.qv (q_move rfl) rfl ?_
        obtain ⟨v4, e2, h⟩ := bnd h
        refine AM.qv (t_index rfl rfl rfl e2 rfl rfl) rfl ?_
        refine AM.qv (q_load_rptr rfl rfl rfl) rfl ?_
        refine AM.qv (q_neq rfl rfl) rfl ?_
        refine AM.nil ?_
        refine ARun.nil ?_
        refine ATodo.cond_d rfl (fun hc => ?_) (fun hc => ?_)
        · replace h := iteT hc h
          refine ATodo.seq ?_
          refine ATodo.region ?_
          refine ARun.qv (q_assign rfl) rfl ?_
          refine ARun.nil ?_
          refine ATodo.ret ?_
          replace h := outL h hA1
          obtain rfl := Option.some.inj h
          exact ImpX.here ⟨_, .cons (.tmp _ _ rfl) .nil, rfl⟩
        · replace h := iteF hc h
          refine ATodo.skip ?_
          refine ATodo.blk ?_
          refine ATodo.region ?_
          refine ARun.qv (q_addw rfl rfl) rfl ?_
          refine ARun.qv (q_move rfl) rfl ?_
          refine ARun.nil ?_
          refine ATodo.stop ?_
          obtain rfl := Option.some.inj h
          refine hJ1 _ _ rfl ?_
          exact ImpX.lessP (by exact ⟨rfl, rfl, rfl, rfl, True.intro⟩) (.nil) (ImpX.here rfl)
      · replace h := iteF hc h
        refine ATodo.exit rfl ?_
        replace h := outL h hA1
        refine ATodo.seq ?_
        refine ATodo.region ?_
        refine ARun.qv (q_assign rfl) rfl ?_
        refine ARun.nil ?_
        refine ATodo.ret ?_
        obtain rfl := Option.some.inj h
        exact ImpX.here ⟨_, .cons (.tmp _ _ rfl) .nil, rfl⟩

set_option maxHeartbeats 4000000 in
theorem series_Unpack_c {p0x0 : List Int} {p1x0 : Str} {p2x0 : Str} {r : (List Sample) × Int} (h : series_Unpack p0x0 p1x0 p2x0 = some r) : Pu Try.prog 24 [.list 1 (p0x0.map (AV.int .u8)), .str p1x0, .str p2x0] (.tup [.list 4 (r.1.map Sample.av), I r.2]) := by
  unfold series_Unpack at h
  refine ACall.bodyN Try.func24 rfl Try.ntmps24 Try.results24 rfl rfl ?_
  refine ATodo.seq ?_
  refine ATodo.region ?_
  refine ARun.qv (q_assign rfl) rfl ?_
  refine ARun.qv (q_assign rfl) rfl ?_
  refine ARun.nil ?_
  refine ATodo.seq ?_
  refine ATodo.block ?_
  refine ATodo.seq ?_
  refine ATodo.cut (fun σ' => ∃ (c1 : Bool), series_Unpack_j1 p0x0 p1x0 p2x0 c1 = some r ∧ σ' = ⟨105, [(0, .list 1 (p0x0.map (AV.int .u8))), (1, .str p1x0), (2, .str p2x0), (19, .bool c1)], []⟩) ?_ ?_
  · refine ATodo.region ?_
    refine ARun.qv (q_move rfl) rfl ?_
    obtain ⟨v2, e1, h⟩ := bnd h
    refine r_callp rfl (base_Key_c e1) (CoL.refl _) rfl ?_
    refine ARun.qv (q_not rfl) rfl ?_
    refine ARun.qv (q_move rfl) rfl ?_
    refine ARun.guard rfl rfl rfl (fun hc => ?_) (fun hc => ?_)
    · replace h := iteFb hc h
      refine ARun.qv (q_move rfl) rfl ?_
      refine ARun.guard_yes rfl rfl rfl ?_
      obtain ⟨v3, e2, h⟩ := bnd h
      refine r_callp rfl (base_Key_c e2) (CoL.refl _) rfl ?_
      refine ARun.guard_yes rfl rfl rfl ?_
      refine ARun.qv (q_not rfl) rfl ?_
      refine ARun.qv (q_pick_f rfl rfl) rfl ?_
      refine ARun.qv (q_assign rfl) rfl ?_
      refine ARun.nil ?_
      refine ATodo.stop ?_
      exact ImpX.lessP (by exact ⟨rfl, rfl, rfl, rfl, True.intro⟩) (.nil) (ImpX.here ⟨!v3, h, rfl⟩)
    · replace h := iteT hc h
      refine ARun.guard_no rfl rfl rfl rfl ?_
      refine ARun.guard_no rfl rfl rfl rfl ?_
      refine ARun.qv (q_pick_t rfl rfl) rfl ?_
      refine ARun.qv (q_assign rfl) rfl ?_
      refine ARun.nil ?_
      refine ATodo.stop ?_
      exact ImpX.lessP (by exact ⟨rfl, rfl, rfl, rfl, True.intro⟩) (.nil) (ImpX.here ⟨true, h, rfl⟩)
  · rintro σ' ⟨c1, h, rfl⟩
    unfold series_Unpack_j1 at h
    refine ATodo.cond rfl (fun hc => ?_) (fun hc => ?_)
    · replace h := iteT hc h
      refine ATodo.seq ?_
      refine ATodo.region ?_
      refine ARun.qv (q_assign rfl) rfl ?_
      refine ARun.qv (q_assign rfl) rfl ?_
      refine ARun.nil ?_
      refine ATodo.ret ?_
      obtain rfl := Option.some.inj h
      refine ImpX.co (s := 6) rfl (.nil 4) ?_
      exact ImpX.here ⟨_, .cons (.tmp _ _ rfl) (.cons (.tmp _ _ rfl) .nil), rfl⟩
    · replace h := iteFb hc h
      refine ATodo.seq ?_
      refine ATodo.region ?_
      refine ARun.qv (q_move rfl) rfl ?_
      refine ARun.qv (t_len rfl) rfl ?_
      refine ARun.qv (q_gtr rfl rfl) rfl ?_
      refine ARun.qv (q_assign rfl) rfl ?_
      refine ARun.nil ?_
      refine ATodo.cond_d rfl (fun hc => ?_) (fun hc => ?_)
      · replace h := iteT hc h
        refine ATodo.seq ?_
        refine ATodo.region ?_
        refine ARun.qv (q_assign rfl) rfl ?_
        refine ARun.qv (q_assign rfl) rfl ?_
        refine ARun.nil ?_
        refine ATodo.ret ?_
        obtain rfl := Option.some.inj h
        refine ImpX.co (s := 6) rfl (.nil 4) ?_
        exact ImpX.here ⟨_, .cons (.tmp _ _ rfl) (.cons (.tmp _ _ rfl) .nil), rfl⟩
      · replace h := iteF hc h
        refine ATodo.skip ?_
        refine ATodo.blk ?_
        refine ATodo.seq ?_
        refine ATodo.region ?_
        refine ARun.qv (q_move rfl) rfl ?_
        obtain ⟨v4, e3, h⟩ := bnd h
        refine r_callp rfl (series_unseven_c e3) (CoL.refl _) rfl ?_
        refine ARun.qv (q_move rfl) rfl ?_
        refine ARun.qv (q_extract rfl rfl) rfl ?_
        refine ARun.qv (q_extract rfl rfl) rfl ?_
        refine ARun.qv (q_extract rfl rfl) rfl ?_
        refine ARun.qv (q_assign rfl) rfl ?_
        refine ARun.qv (q_assign rfl) rfl ?_
        refine ARun.qv (q_assign rfl) rfl ?_
        refine ARun.nil ?_
        refine ATodo.seq ?_
        refine ATodo.seq ?_
        refine ATodo.cut (fun σ' => ∃ (c5 : Bool), series_Unpack_j2 p0x0 p1x0 p2x0 v4 c5 = some r ∧ σ' = ⟨105, [(0, .list 1 (p0x0.map (AV.int .u8))), (1, .str p1x0), (2, .str p2x0), (8, .int .u64 v4.1), (9, .list 1 (v4.2.1.map (AV.int .u8))), (43, .bool c5)], []⟩) ?_ ?_
        · refine ATodo.region ?_
          refine ARun.qv (q_move rfl) rfl ?_
          refine ARun.qv (q_not rfl) rfl ?_
          refine ARun.qv (q_move rfl) rfl ?_
          refine ARun.guard rfl rfl rfl (fun hc => ?_) (fun hc => ?_)
          · rw [orFb hc] at h
            refine ARun.qv (q_move rfl) rfl ?_
            refine ARun.guard_yes rfl rfl rfl ?_
            refine ARun.qv (q_gtr rfl rfl) rfl ?_
            refine ARun.qv (q_pick_f rfl rfl) rfl ?_
            refine ARun.nil ?_
            refine ATodo.stop ?_
            exact ImpX.lessP (by exact ⟨rfl, rfl, rfl, rfl, rfl, rfl, True.intro⟩) (.nil) (ImpX.here ⟨decide ((5000 : Int) < v4.1), h, rfl⟩)
          · rw [orTb hc] at h
            refine ARun.guard_no rfl rfl rfl rfl ?_
            refine ARun.qv (q_pick_t rfl rfl) rfl ?_
            refine ARun.nil ?_
            refine ATodo.stop ?_
            exact ImpX.lessP (by exact ⟨rfl, rfl, rfl, rfl, rfl, rfl, True.intro⟩) (.nil) (ImpX.here ⟨true, h, rfl⟩)
        · rintro σ' ⟨c5, h, rfl⟩
          unfold series_Unpack_j2 at h
          refine ATodo.cond rfl (fun hc => ?_) (fun hc => ?_)
          · replace h := iteT hc h
            refine ATodo.seq ?_
            refine ATodo.region ?_
            refine ARun.qv (q_assign rfl) rfl ?_
            refine ARun.qv (q_assign rfl) rfl ?_
            refine ARun.nil ?_
            refine ATodo.ret ?_
            obtain rfl := Option.some.inj h
            refine ImpX.co (s := 6) rfl (.nil 4) ?_
            exact ImpX.here ⟨_, .cons (.tmp _ _ rfl) (.cons (.tmp _ _ rfl) .nil), rfl⟩
          · replace h := iteFb hc h
            refine ATodo.skip ?_
            refine ATodo.seq ?_
            refine ATodo.region ?_
            refine ARun.qv (q_assign rfl) rfl ?_
            refine ARun.nil ?_
            refine ATodo.seq ?_
            refine ATodo.region ?_
            refine ARun.qv (q_assign rfl) rfl ?_
            refine ARun.qv (q_assign rfl) rfl ?_
            refine ARun.qv (q_assign rfl) rfl ?_
            refine ARun.nil ?_
            refine ATodo.seq ?_
            refine ATodo.seq ?_
            refine ATodo.region ?_
            refine ARun.qv (q_move rfl) rfl ?_
            refine ARun.qv (q_conv_int rfl) rfl ?_
            refine ARun.qv (q_move rfl) rfl ?_
            refine ARun.nil ?_
            refine ATodo.block ?_
            refine ATodo.loopI (fun x : (List Int) × (List Sample) × Int × Int × Int × Int => series_Unpack_b1 p0x0 p1x0 p2x0 v4 x.1 x.2.1 x.2.2.1 x.2.2.2.1 x.2.2.2.2.1 x.2.2.2.2.2) (fun x σ' => ∃ (b14 : Bk), σ' = ⟨105, [(0, .list 1 (p0x0.map (AV.int .u8))), (1, .str p1x0), (2, .str p2x0), (9, .list 1 (x.1.map (AV.int .u8))), (11, .sl 4 b14 0 x.2.1.length), (12, I x.2.2.1), (13, I x.2.2.2.1), (14, I x.2.2.2.2.1), (45, I (w64 (v4.1))), (46, I x.2.2.2.2.2)], [(b14, .arr 4 (x.2.1.map Sample.av))]⟩) h ?_ ?_
            · refine ImpX.arr (s := 11) 4 rfl (fun b20 => ?_)
              exact ImpX.lessP (by exact ⟨rfl, rfl, rfl, rfl, rfl, rfl, rfl, rfl, rfl, rfl, True.intro⟩) (.cons .here .nil) (ImpX.here ⟨b20, rfl⟩)
            · intro x z1 σ' J1 hmk h hJ1 hA1
              obtain ⟨l13, l15, n16, n17, n18, n19⟩ := x
              obtain ⟨b14, rfl⟩ := hmk
              replace h : series_Unpack_b1 p0x0 p1x0 p2x0 v4 l13 l15 n16 n17 n18 n19 = some z1 := h
              unfold series_Unpack_b1 at h
              refine ATodo.seq ?_
              refine ATodo.region ?_
              refine ARun.qv (q_lss rfl rfl) rfl ?_
              refine ARun.nil ?_
              refine ATodo.seq ?_
              refine ATodo.cond_d rfl (fun hc => ?_) (fun hc => ?_)
              · replace h := iteT hc h
                refine ATodo.skip ?_
                refine ATodo.seq ?_
                refine ATodo.block ?_
                refine ATodo.seq ?_
                refine ATodo.region ?_
                refine ARun.qv (q_move rfl) rfl ?_
                refine ARun.qv (q_assign rfl) rfl ?_
                refine ARun.nil ?_
                refine ATodo.seq ?_
                refine ATodo.region ?_
                refine ARun.qv (q_assign rfl) rfl ?_
                refine ARun.qv (q_assign rfl) rfl ?_
                refine ARun.nil ?_
                refine ATodo.seq ?_
                refine ATodo.region ?_
                refine ARun.qv (q_move rfl) rfl ?_
                obtain ⟨v21, e4, h⟩ := bnd h
                refine r_callp rfl (series_unseven_c e4) (CoL.refl _) rfl ?_
                refine ARun.qv (q_move rfl) rfl ?_
                refine ARun.qv (q_extract rfl rfl) rfl ?_
                refine ARun.qv (q_extract rfl rfl) rfl ?_
                refine ARun.qv (q_extract rfl rfl) rfl ?_
                refine ARun.qv (q_assign rfl) rfl ?_
                refine ARun.qv (q_assign rfl) rfl ?_
                refine ARun.qv (q_assign rfl) rfl ?_
                refine ARun.nil ?_
                refine ATodo.seq ?_
                refine ATodo.seq ?_
                refine ATodo.region ?_
                refine ARun.qv (q_move rfl) rfl ?_
                refine ARun.nil ?_
                refine ATodo.cut (fun σ' => ∃ (l22 : List Int) (c23 : Bool) (n24 : Int), series_Unpack_j3 p1x0 p2x0 l15 n16 n17 n18 n19 v21 l22 c23 n24 = some z1 ∧ σ' = ⟨105, [(0, .list 1 (p0x0.map (AV.int .u8))), (1, .str p1x0), (2, .str p2x0), (9, .list 1 (l22.map (AV.int .u8))), (10, .bool c23), (11, .sl 4 b14 0 l15.length), (12, I n16), (13, I n17), (14, I n18), (15, I n19), (16, .int .u64 v21.1), (17, .int .u64 n24), (45, I (w64 (v4.1))), (46, I n19)], [(b14, .arr 4 (l15.map Sample.av))]⟩) ?_ ?_
                · refine ATodo.cond rfl (fun hc => ?_) (fun hc => ?_)
                  · replace h := iteT hc h
                    refine ATodo.region ?_
                    refine ARun.qv (q_move rfl) rfl ?_
                    obtain ⟨v25, e5, h⟩ := bnd h
                    refine r_callp rfl (series_unseven_c e5) (CoL.refl _) rfl ?_
                    refine ARun.qv (q_move rfl) rfl ?_
                    refine ARun.qv (q_extract rfl rfl) rfl ?_
                    refine ARun.qv (q_extract rfl rfl) rfl ?_
                    refine ARun.qv (q_extract rfl rfl) rfl ?_
                    refine ARun.qv (q_assign rfl) rfl ?_
                    refine ARun.qv (q_assign rfl) rfl ?_
                    refine ARun.qv (q_assign rfl) rfl ?_
                    refine ARun.nil ?_
                    refine ATodo.stop ?_
                    exact ImpX.lessP (by exact ⟨rfl, rfl, rfl, rfl, rfl, rfl, rfl, rfl, rfl, rfl, rfl, rfl, rfl, rfl, True.intro⟩) (.cons .here .nil) (ImpX.here ⟨v25.2.1, v25.2.2, v25.1, h, rfl⟩)
                  · replace h := iteFb hc h
                    refine ATodo.skip ?_
                    refine ATodo.stop ?_
                    exact ImpX.lessP (by exact ⟨rfl, rfl, rfl, rfl, rfl, rfl, rfl, rfl, rfl, rfl, rfl, rfl, rfl, rfl, True.intro⟩) (.cons .here .nil) (ImpX.here ⟨v21.2.1, v21.2.2, (0 : Int), h, rfl⟩)
                · rintro σ' ⟨l22, c23, n24, h, rfl⟩
                  unfold series_Unpack_j3 at h
                  refine ATodo.seq ?_
                  refine ATodo.seq ?_
                  refine ATodo.region ?_
                  refine ARun.qv (q_move rfl) rfl ?_
                  refine ARun.qv (q_not rfl) rfl ?_
                  refine ARun.nil ?_
                  refine ATodo.cond rfl (fun hc => ?_) (fun hc => ?_)
                  · replace h := iteT hc h
                    refine ATodo.seq ?_
                    refine ATodo.region ?_
                    refine ARun.qv (q_assign rfl) rfl ?_
                    refine ARun.qv (q_assign rfl) rfl ?_
                    refine ARun.nil ?_
                    refine ATodo.ret ?_
                    replace h := outL h hA1
                    obtain rfl := Option.some.inj h
                    refine ImpX.co (s := 6) rfl (.nil 4) ?_
                    exact ImpX.here ⟨_, .cons (.tmp _ _ rfl) (.cons (.tmp _ _ rfl) .nil), rfl⟩
                  · replace h := iteFb hc h
                    refine ATodo.skip ?_
                    refine ATodo.seq ?_
                    refine ATodo.region ?_
                    refine ARun.qv (q_move rfl) rfl ?_
                    refine ARun.qv (q_move rfl) rfl ?_
                    refine r_callp rfl (series_halved_c rfl) (CoL.refl _) rfl ?_
                    refine ARun.qv (q_addw rfl rfl) rfl ?_
                    refine ARun.qv (q_assign rfl) rfl ?_
                    refine ARun.nil ?_
                    refine ATodo.seq ?_
                    refine ATodo.region ?_
                    refine ARun.qv (q_move rfl) rfl ?_
                    refine ARun.qv (q_move rfl) rfl ?_
                    refine ARun.qv (q_addw rfl rfl) rfl ?_
                    refine ARun.qv (q_move rfl) rfl ?_
                    refine ARun.qv (q_move rfl) rfl ?_
                    refine r_callp rfl (series_halved_c rfl) (CoL.refl _) rfl ?_
                    refine ARun.qv (q_addw rfl rfl) rfl ?_
                    refine ARun.qv (q_assign rfl) rfl ?_
                    refine ARun.qv (q_assign rfl) rfl ?_
                    refine ARun.nil ?_
                    refine ATodo.seq ?_
                    refine ATodo.seq ?_
                    refine ATodo.cut (fun σ' => ∃ (c26 : Bool), series_Unpack_j4 p1x0 p2x0 l15 n16 n17 n18 n19 v21 l22 n24 c26 = some z1 ∧ σ' = ⟨105, [(0, .list 1 (p0x0.map (AV.int .u8))), (1, .str p1x0), (2, .str p2x0), (9, .list 1 (l22.map (AV.int .u8))), (11, .sl 4 b14 0 l15.length), (12, I (w64 (n16 + (w64 (n17 + (series_halved v21.1)))))), (13, I n17), (14, I (w64 (n18 + (series_halved n24)))), (15, I n19), (18, I (w64 (n17 + (series_halved v21.1)))), (45, I (w64 (v4.1))), (46, I n19), (81, .bool c26)], [(b14, .arr 4 (l15.map Sample.av))]⟩) ?_ ?_
                    · refine ATodo.region ?_
                      refine ARun.qv (q_move rfl) rfl ?_
                      refine r_callp rfl (base_Out_c rfl) (CoL.refl _) rfl ?_
                      refine ARun.qv (q_move rfl) rfl ?_
                      refine ARun.guard rfl rfl rfl (fun hc => ?_) (fun hc => ?_)
                      · rw [orFb hc] at h
                        refine ARun.qv (q_move rfl) rfl ?_
                        refine ARun.guard_yes rfl rfl rfl ?_
                        refine r_callp rfl (base_Moment_c rfl) (CoL.refl _) rfl ?_
                        refine ARun.guard_yes rfl rfl rfl ?_
                        refine ARun.qv (q_not rfl) rfl ?_
                        refine ARun.qv (q_pick_f rfl rfl) rfl ?_
                        refine ARun.nil ?_
                        refine ATodo.stop ?_
                        exact ImpX.lessP (by exact ⟨rfl, rfl, rfl, rfl, rfl, rfl, rfl, rfl, rfl, rfl, rfl, rfl, rfl, True.intro⟩) (.cons .here .nil) (ImpX.here ⟨!(base_Moment (w64 (n16 + (w64 (n17 + (series_halved v21.1)))))), h, rfl⟩)
                      · rw [orTb hc] at h
                        refine ARun.guard_no rfl rfl rfl rfl ?_
                        refine ARun.guard_no rfl rfl rfl rfl ?_
                        refine ARun.qv (q_pick_t rfl rfl) rfl ?_
                        refine ARun.nil ?_
                        refine ATodo.stop ?_
                        exact ImpX.lessP (by exact ⟨rfl, rfl, rfl, rfl, rfl, rfl, rfl, rfl, rfl, rfl, rfl, rfl, rfl, True.intro⟩) (.cons .here .nil) (ImpX.here ⟨true, h, rfl⟩)
                    · rintro σ' ⟨c26, h, rfl⟩
                      unfold series_Unpack_j4 at h
                      refine ATodo.cond rfl (fun hc => ?_) (fun hc => ?_)
                      · replace h := iteT hc h
                        refine ATodo.seq ?_
                        refine ATodo.region ?_
                        refine ARun.qv (q_assign rfl) rfl ?_
                        refine ARun.qv (q_assign rfl) rfl ?_
                        refine ARun.nil ?_
                        refine ATodo.ret ?_
                        replace h := outL h hA1
                        obtain rfl := Option.some.inj h
                        refine ImpX.co (s := 6) rfl (.nil 4) ?_
                        exact ImpX.here ⟨_, .cons (.tmp _ _ rfl) (.cons (.tmp _ _ rfl) .nil), rfl⟩
                      · replace h := iteFb hc h
                        refine ATodo.skip ?_
                        refine ATodo.seq ?_
                        refine ATodo.seq ?_
                        refine ATodo.region ?_
                        refine ARun.qv (q_move rfl) rfl ?_
                        refine ARun.qv (q_gtr rfl rfl) rfl ?_
                        refine ARun.nil ?_
                        refine ATodo.cut (fun σ' => ∃ (n27 : Int), series_Unpack_j5 p1x0 p2x0 l15 n16 n17 n18 n19 v21 l22 n24 n27 = some z1 ∧ σ' = ⟨105, [(0, .list 1 (p0x0.map (AV.int .u8))), (1, .str p1x0), (2, .str p2x0), (9, .list 1 (l22.map (AV.int .u8))), (11, .sl 4 b14 0 l15.length), (12, I (w64 (n16 + (w64 (n17 + (series_halved v21.1)))))), (13, I n27), (14, I (w64 (n18 + (series_halved n24)))), (45, I (w64 (v4.1))), (46, I n19)], [(b14, .arr 4 (l15.map Sample.av))]⟩) ?_ ?_
                        · refine ATodo.cond_d rfl (fun hc => ?_) (fun hc => ?_)
                          · replace h := iteT hc h
                            refine ATodo.region ?_
                            refine ARun.qv (q_move rfl) rfl ?_
                            refine ARun.qv (q_assign rfl) rfl ?_
                            refine ARun.nil ?_
                            refine ATodo.stop ?_
                            exact ImpX.lessP (by exact ⟨rfl, rfl, rfl, rfl, rfl, rfl, rfl, rfl, rfl, rfl, True.intro⟩) (.cons .here .nil) (ImpX.here ⟨w64 (n17 + (series_halved v21.1)), h, rfl⟩)
                          · replace h := iteF hc h
                            refine ATodo.skip ?_
                            refine ATodo.stop ?_
                            exact ImpX.lessP (by exact ⟨rfl, rfl, rfl, rfl, rfl, rfl, rfl, rfl, rfl, rfl, True.intro⟩) (.cons .here .nil) (ImpX.here ⟨n17, h, rfl⟩)
                        · rintro σ' ⟨n27, h, rfl⟩
                          unfold series_Unpack_j5 at h
                          refine ATodo.region ?_
                          refine ARun.qv (q_move rfl) rfl ?_
                          refine ARun.qv (q_move rfl) rfl ?_
                          refine ARun.qv (q_move rfl) rfl ?_
                          refine ARun.qv (q_move rfl) rfl ?_
                          refine ARun.qv (q_move rfl) rfl ?_
                          refine ARun.qv (n_build rfl rfl rfl rfl rfl) rfl ?_
                          refine n_buildSliceL (xs := ([(⟨p1x0, p2x0, w64 (n16 + (w64 (n17 + (series_halved v21.1)))), w64 (n18 + (series_halved n24))⟩ : Sample)]).map Sample.av) rfl rfl rfl rfl rfl rfl ?_
                          obtain ⟨l28, e6, h⟩ := bnd h
                          refine t_append (g := Sample.av) rfl rfl rfl rfl rfl rfl rfl rfl (.list _) e6 (fun _ => .here) rfl (fun b29 => ?_)
                          refine ARun.qv (q_assign rfl) rfl ?_
                          refine ARun.nil ?_
                          refine ATodo.blk ?_
                          refine ATodo.region ?_
                          refine ARun.qv (q_addw rfl rfl) rfl ?_
                          refine ARun.qv (q_move rfl) rfl ?_
                          refine ARun.nil ?_
                          refine ATodo.stop ?_
                          obtain rfl := Option.some.inj h
                          refine hJ1 _ _ rfl ?_
                          exact ImpX.lessP (by exact ⟨rfl, rfl, rfl, rfl, rfl, rfl, rfl, rfl, rfl, rfl, True.intro⟩) (.cons .here .nil) (ImpX.here ⟨b29, rfl⟩)
              · replace h := iteF hc h
                refine ATodo.exit rfl ?_
                replace h := outL h hA1
                unfold series_Unpack_k7 at h
                refine ATodo.seq ?_
                refine ATodo.seq ?_
                refine ATodo.cut (fun σ' => ∃ (c30 : Bool), series_Unpack_j6 l15 c30 = some r ∧ σ' = ⟨105, [(11, .sl 4 b14 0 l15.length), (103, .bool c30)], [(b14, .fro 4 (l15.map Sample.av))]⟩) ?_ ?_
                · refine ATodo.region ?_
                  refine ARun.qv (q_move rfl) rfl ?_
                  obtain ⟨v31, e7, h⟩ := bnd h
                  refine r_callpB rfl (series_CheckSeries_c e7) (.cons (CoB.arrT .here) .nil) rfl rfl ?_
                  refine ARun.qv (q_neq rfl rfl) rfl ?_
                  refine ARun.qv (q_move rfl) rfl ?_
                  refine ARun.guard_df rfl rfl rfl (fun hc => ?_) (fun hc => ?_)
                  · replace h := iteF hc h
                    refine ARun.qv (q_move rfl) rfl ?_
                    refine ARun.guard_yes rfl rfl rfl ?_
                    obtain ⟨v32, e8, h⟩ := bnd h
                    refine ARun.ghost (ImpX.freeze .here (ImpX.here ?_))
                    refine t_call1 rfl (series_pack_c e8) (.cons (Co.froT .here) .nil) .nil (fun _ => rfl) rfl (fun b33 => ?_)
                    refine ARun.guard_yes rfl rfl rfl ?_
                    refine ARun.qv (q_move rfl) rfl ?_
                    refine ARun.guard_yes rfl rfl rfl ?_
                    obtain ⟨v34, e9, h⟩ := bnd h
                    refine r_callpB rfl (slices_Equal_byte_byte_c e9) (.cons (CoB.arrT .here) (.cons (.co (.refl _)) .nil)) rfl rfl ?_
                    refine ARun.guard_yes rfl rfl rfl ?_
                    refine ARun.qv (q_not rfl) rfl ?_
                    refine ARun.qv (q_pick_f rfl rfl) rfl ?_
                    refine ARun.nil ?_
                    refine ATodo.stop ?_
                    exact ImpX.lessP (by exact ⟨rfl, rfl, True.intro⟩) (.cons (.next .here) .nil) (ImpX.here ⟨!v34, h, rfl⟩)
                  · replace h := iteT hc h
                    refine ARun.guard_no rfl rfl rfl rfl ?_
                    refine ARun.guard_no rfl rfl rfl rfl ?_
                    refine ARun.guard_no rfl rfl rfl rfl ?_
                    refine ARun.guard_no rfl rfl rfl rfl ?_
                    refine ARun.qv (q_pick_t rfl rfl) rfl ?_
                    refine ARun.nil ?_
                    refine ATodo.stop ?_
                    refine ImpX.freeze .here ?_
                    exact ImpX.lessP (by exact ⟨rfl, rfl, True.intro⟩) (.cons .here .nil) (ImpX.here ⟨true, h, rfl⟩)
                · rintro σ' ⟨c30, h, rfl⟩
                  unfold series_Unpack_j6 at h
                  refine ATodo.cond rfl (fun hc => ?_) (fun hc => ?_)
                  · replace h := iteT hc h
                    refine ATodo.seq ?_
                    refine ATodo.region ?_
                    refine ARun.qv (q_assign rfl) rfl ?_
                    refine ARun.qv (q_assign rfl) rfl ?_
                    refine ARun.nil ?_
                    refine ATodo.ret ?_
                    obtain rfl := Option.some.inj h
                    refine ImpX.co (s := 6) rfl (.nil 4) ?_
                    exact ImpX.here ⟨_, .cons (.tmp _ _ rfl) (.cons (.tmp _ _ rfl) .nil), rfl⟩
                  · replace h := iteFb hc h
                    refine ATodo.skip ?_
                    refine ATodo.seq ?_
                    refine ATodo.region ?_
                    refine ARun.qv (q_move rfl) rfl ?_
                    refine ARun.qv (q_assign rfl) rfl ?_
                    refine ARun.qv (q_assign rfl) rfl ?_
                    refine ARun.nil ?_
                    refine ATodo.ret ?_
                    obtain rfl := Option.some.inj h
                    refine ImpX.co (s := 6) rfl (Co.froT .here) ?_
                    exact ImpX.here ⟨_, .cons (.tmp _ _ rfl) (.cons (.tmp _ _ rfl) .nil), rfl⟩

set_option maxHeartbeats 4000000 in
theorem Q_in_c {p0x0 : Int} {p1x0 : Int} {p2x0 : Int} {r : Bool} (h : Q_in p0x0 p1x0 p2x0 = r) : Pu Try.prog 73 [I p0x0, I p1x0, I p2x0] (.bool r) := by
  unfold Q_in at h
  refine ACall.bodyN Try.func73 rfl Try.ntmps73 Try.results73 rfl rfl ?_
  refine ATodo.seq ?_
  refine ATodo.region ?_
  refine ARun.qv (q_assign rfl) rfl ?_
  refine ARun.nil ?_
  refine ATodo.seq ?_
  refine ATodo.cut (fun σ' => ∃ (c1 : Bool), Q_in_j1 c1 = r ∧ σ' = ⟨15, [(6, .bool c1)], []⟩) ?_ ?_
  · refine ATodo.region ?_
    refine ARun.qv (q_move rfl) rfl ?_
    refine ARun.qv (q_move rfl) rfl ?_
    refine ARun.qv (q_leq rfl rfl) rfl ?_
    refine ARun.qv (q_move rfl) rfl ?_
    refine ARun.guard_dt rfl rfl rfl (fun hc => ?_) (fun hc => ?_)
    · rw [andTd hc] at h
      refine ARun.qv (q_move rfl) rfl ?_
      refine ARun.guard_yes rfl rfl rfl ?_
      refine ARun.qv (q_move rfl) rfl ?_
      refine ARun.guard_yes rfl rfl rfl ?_
      refine ARun.qv (q_leq rfl rfl) rfl ?_
      refine ARun.qv (q_pick_t rfl rfl) rfl ?_
      refine ARun.qv (q_assign rfl) rfl ?_
      refine ARun.nil ?_
      refine ATodo.stop ?_
      exact ImpX.lessP (by exact ⟨rfl, True.intro⟩) (.nil) (ImpX.here ⟨decide (p0x0 ≤ p2x0), h, rfl⟩)
    · rw [andFd hc] at h
      refine ARun.guard_no rfl rfl rfl rfl ?_
      refine ARun.guard_no rfl rfl rfl rfl ?_
      refine ARun.qv (q_pick_f rfl rfl) rfl ?_
      refine ARun.qv (q_assign rfl) rfl ?_
      refine ARun.nil ?_
      refine ATodo.stop ?_
      exact ImpX.lessP (by exact ⟨rfl, True.intro⟩) (.nil) (ImpX.here ⟨false, h, rfl⟩)
  · rintro σ' ⟨c1, h, rfl⟩
    unfold Q_in_j1 at h
    refine ATodo.ret ?_
    obtain rfl := h
    exact ImpX.here ⟨_, .cons (.tmp _ _ rfl) .nil, rfl⟩

set_option maxHeartbeats 4000000 in
theorem Q_only_c {p0x0 : Str} {p1x0 : Str} {r : Bool} (h : Q_only p0x0 p1x0 = some r) : Pu Try.prog 82 [.str p0x0, .str p1x0] (.bool r) := by
  unfold Q_only at h
  refine ACall.bodyN Try.func82 rfl Try.ntmps82 Try.results82 rfl rfl ?_
  refine ATodo.seq ?_
  refine ATodo.region ?_
  refine ARun.qv (q_assign rfl) rfl ?_
  refine ARun.nil ?_
  refine ATodo.seq ?_
  refine ATodo.seq ?_
  refine ATodo.region ?_
  refine ARun.qv (q_move rfl) rfl ?_
  refine ARun.qv (q_len_str rfl) rfl ?_
  refine ARun.qv (q_move rfl) rfl ?_
  refine ARun.nil ?_
  refine ATodo.block ?_
  refine ATodo.loopI (fun x : Int => Q_only_b1 p0x0 p1x0 x) (fun x σ' => σ' = ⟨18, [(0, .str p0x0), (1, .str p1x0), (7, I (p0x0.length : Int)), (8, I x)], []⟩) h ?_ ?_
  · exact ImpX.lessP (by exact ⟨rfl, rfl, rfl, rfl, True.intro⟩) (.nil) (ImpX.here rfl)
  · intro n2 z1 σ' J1 hmk h hJ1 hA1
    obtain rfl := hmk
    replace h : Q_only_b1 p0x0 p1x0 n2 = some z1 := h
    unfold Q_only_b1 at h
    refine ATodo.seq ?_
    refine ATodo.region ?_
    refine ARun.qv (q_lss rfl rfl) rfl ?_
    refine ARun.nil ?_
    refine ATodo.seq ?_
    refine ATodo.cond_d rfl (fun hc => ?_) (fun hc => ?_)
    · replace h := iteT hc h
      refine ATodo.skip ?_
      refine ATodo.seq ?_
      refine ATodo.block ?_
      refine ATodo.seq ?_
      refine ATodo.region ?_
      refine ARun.qv (q_move rfl) rfl ?_
      refine ARun.qv (q_assign rfl) rfl ?_
      refine ARun.nil ?_
      refine ATodo.seq ?_
      refine ATodo.region ?_
      refine ARun.qv (q_move rfl) rfl ?_
      refine ARun.qv (q_move rfl) rfl ?_
      refine ARun.qv (q_move rfl) rfl ?_
      obtain ⟨c3, e1, h⟩ := bnd h
      refine ARun.qv (t_index_str rfl rfl e1) rfl ?_
      refine r_callp rfl (strings_IndexByte_c rfl) (CoL.refl _) rfl ?_
      refine ARun.qv (q_lss rfl rfl) rfl ?_
      refine ARun.nil ?_
      refine ATodo.cond_d rfl (fun hc => ?_) (fun hc => ?_)
      · replace h := iteT hc h
        refine ATodo.seq ?_
        refine ATodo.region ?_
        refine ARun.qv (q_assign rfl) rfl ?_
        refine ARun.nil ?_
        refine ATodo.ret ?_
        replace h := outL h hA1
        obtain rfl := Option.some.inj h
        exact ImpX.here ⟨_, .cons (.tmp _ _ rfl) .nil, rfl⟩
      · replace h := iteF hc h
        refine ATodo.skip ?_
        refine ATodo.blk ?_
        refine ATodo.region ?_
        refine ARun.qv (q_addw rfl rfl) rfl ?_
        refine ARun.qv (q_move rfl) rfl ?_
        refine ARun.nil ?_
        refine ATodo.stop ?_
        obtain rfl := Option.some.inj h
        refine hJ1 _ _ rfl ?_
        exact ImpX.lessP (by exact ⟨rfl, rfl, rfl, rfl, True.intro⟩) (.nil) (ImpX.here rfl)
    · replace h := iteF hc h
      refine ATodo.exit rfl ?_
      replace h := outL h hA1
      refine ATodo.seq ?_
      refine ATodo.region ?_
      refine ARun.qv (q_assign rfl) rfl ?_
      refine ARun.nil ?_
      refine ATodo.ret ?_
      obtain rfl := Option.some.inj h
      exact ImpX.here ⟨_, .cons (.tmp _ _ rfl) .nil, rfl⟩

set_option maxHeartbeats 4000000 in
theorem Q_Key_c {p0x0 : Str} {r : Bool} (h : Q_Key p0x0 = some r) : Pu Try.prog 25 [.str p0x0] (.bool r) := by
  unfold Q_Key at h
  refine ACall.bodyN Try.func25 rfl Try.ntmps25 Try.results25 rfl rfl ?_
  refine ATodo.seq ?_
  refine ATodo.region ?_
  refine ARun.qv (q_assign rfl) rfl ?_
  refine ARun.nil ?_
  refine ATodo.seq ?_
  refine ATodo.cut (fun σ' => ∃ (c1 : Bool), Q_Key_j1 c1 = some r ∧ σ' = ⟨15, [(2, .bool c1)], []⟩) ?_ ?_
  · refine ATodo.region ?_
    refine ARun.qv (q_move rfl) rfl ?_
    refine ARun.qv (q_len_str rfl) rfl ?_
    refine r_callp rfl (Q_in_c rfl) (CoL.refl _) rfl ?_
    refine ARun.qv (q_move rfl) rfl ?_
    refine ARun.guard rfl rfl rfl (fun hc => ?_) (fun hc => ?_)
    · replace h := iteT hc h
      refine ARun.qv (q_move rfl) rfl ?_
      refine ARun.guard_yes rfl rfl rfl ?_
      obtain ⟨l2, e1, h⟩ := bnd h
      refine ARun.qv (t_slice_str rfl .none (.some _ _ _ rfl) rfl rfl e1) rfl ?_
      refine ARun.guard_yes rfl rfl rfl ?_
      obtain ⟨v3, e2, h⟩ := bnd h
      refine r_callp rfl (Q_only_c e2) (CoL.refl _) rfl ?_
      refine ARun.qv (q_pick_t rfl rfl) rfl ?_
      refine ARun.qv (q_move rfl) rfl ?_
      refine ARun.guard rfl rfl rfl (fun hc => ?_) (fun hc => ?_)
      · replace h := iteT hc h
        refine ARun.qv (q_move rfl) rfl ?_
        refine ARun.guard_yes rfl rfl rfl ?_
        obtain ⟨v4, e3, h⟩ := bnd h
        refine r_callp rfl (Q_only_c e3) (CoL.refl _) rfl ?_
        refine ARun.qv (q_pick_t rfl rfl) rfl ?_
        refine ARun.qv (q_assign rfl) rfl ?_
        refine ARun.nil ?_
        refine ATodo.stop ?_
        exact ImpX.lessP (by exact ⟨rfl, True.intro⟩) (.nil) (ImpX.here ⟨v4, h, rfl⟩)
      · replace h := iteFb hc h
        refine ARun.guard_no rfl rfl rfl rfl ?_
        refine ARun.qv (q_pick_f rfl rfl) rfl ?_
        refine ARun.qv (q_assign rfl) rfl ?_
        refine ARun.nil ?_
        refine ATodo.stop ?_
        exact ImpX.lessP (by exact ⟨rfl, True.intro⟩) (.nil) (ImpX.here ⟨false, h, rfl⟩)
    · replace h := iteFb hc h
      refine ARun.guard_no rfl rfl rfl rfl ?_
      refine ARun.guard_no rfl rfl rfl rfl ?_
      refine ARun.qv (q_pick_f rfl rfl) rfl ?_
      refine ARun.qv (q_move rfl) rfl ?_
      refine ARun.guard_no rfl rfl rfl rfl ?_
      refine ARun.guard_no rfl rfl rfl rfl ?_
      refine ARun.qv (q_pick_f rfl rfl) rfl ?_
      refine ARun.qv (q_assign rfl) rfl ?_
      refine ARun.nil ?_
      refine ATodo.stop ?_
      exact ImpX.lessP (by exact ⟨rfl, True.intro⟩) (.nil) (ImpX.here ⟨false, h, rfl⟩)
  · rintro σ' ⟨c1, h, rfl⟩
    unfold Q_Key_j1 at h
    refine ATodo.ret ?_
    obtain rfl := Option.some.inj h
    exact ImpX.here ⟨_, .cons (.tmp _ _ rfl) .nil, rfl⟩

set_option maxHeartbeats 4000000 in
theorem Q_Moment_c {p0x0 : Int} {r : Bool} (h : Q_Moment p0x0 = r) : Pu Try.prog 87 [I p0x0] (.bool r) := by
  unfold Q_Moment at h
  refine ACall.bodyN Try.func87 rfl Try.ntmps87 Try.results87 rfl rfl ?_
  refine ATodo.seq ?_
  refine ATodo.region ?_
  refine ARun.qv (q_assign rfl) rfl ?_
  refine ARun.nil ?_
  refine ATodo.seq ?_
  refine ATodo.region ?_
  refine ARun.qv (q_move rfl) rfl ?_
  refine r_callp rfl (Q_in_c rfl) (CoL.refl _) rfl ?_
  refine ARun.qv (q_assign rfl) rfl ?_
  refine ARun.nil ?_
  refine ATodo.ret ?_
  obtain rfl := h
  exact ImpX.here ⟨_, .cons (.tmp _ _ rfl) .nil, rfl⟩

set_option maxHeartbeats 4000000 in
theorem cmp_isNaN_string_c {p0x0 : Str} {r : Bool} (h : cmp_isNaN_string p0x0 = r) : Pu Try.prog 154 [.str p0x0] (.bool r) := by
  unfold cmp_isNaN_string at h
  refine ACall.bodyN Try.func154 rfl Try.ntmps154 Try.results154 rfl rfl ?_
  refine ATodo.seq ?_
  refine ATodo.region ?_
  refine ARun.qv (q_assign rfl) rfl ?_
  refine ARun.nil ?_
  refine ATodo.seq ?_
  refine ATodo.region ?_
  refine ARun.qv (q_move rfl) rfl ?_
  refine ARun.qv (q_move rfl) rfl ?_
  refine ARun.qv (q_sne rfl rfl) rfl ?_
  refine ARun.qv (q_assign rfl) rfl ?_
  refine ARun.nil ?_
  refine ATodo.ret ?_
  obtain rfl := h
  exact ImpX.here ⟨_, .cons (.tmp _ _ rfl) .nil, rfl⟩

set_option maxHeartbeats 4000000 in
theorem cmp_Compare_string_c {p0x0 : Str} {p1x0 : Str} {r : Int} (h : cmp_Compare_string p0x0 p1x0 = r) : Pu Try.prog 150 [.str p0x0, .str p1x0] (I r) := by
  unfold cmp_Compare_string at h
  refine ACall.bodyN Try.func150 rfl Try.ntmps150 Try.results150 rfl rfl ?_
  refine ATodo.seq ?_
  refine ATodo.region ?_
  refine ARun.qv (q_assign rfl) rfl ?_
  refine ARun.nil ?_
  refine ATodo.seq ?_
  refine ATodo.region ?_
  refine ARun.qv (q_move rfl) rfl ?_
  refine r_callp rfl (cmp_isNaN_string_c rfl) (CoL.refl _) rfl ?_
  refine ARun.qv (q_assign rfl) rfl ?_
  refine ARun.nil ?_
  refine ATodo.seq ?_
  refine ATodo.region ?_
  refine ARun.qv (q_move rfl) rfl ?_
  refine r_callp rfl (cmp_isNaN_string_c rfl) (CoL.refl _) rfl ?_
  refine ARun.qv (q_assign rfl) rfl ?_
  refine ARun.nil ?_
  refine ATodo.seq ?_
  refine ATodo.seq ?_
  refine ATodo.region ?_
  refine ARun.qv (q_move rfl) rfl ?_
  refine ARun.nil ?_
  refine ATodo.cond rfl (fun hc => ?_) (fun hc => ?_)
  · replace h := iteT hc h
    refine ATodo.seq ?_
    refine ATodo.seq ?_
    refine ATodo.region ?_
    refine ARun.qv (q_move rfl) rfl ?_
    refine ARun.nil ?_
    refine ATodo.cond rfl (fun hc => ?_) (fun hc => ?_)
    · replace h := iteT hc h
      refine ATodo.seq ?_
      refine ATodo.region ?_
      refine ARun.qv (q_assign rfl) rfl ?_
      refine ARun.nil ?_
      refine ATodo.ret ?_
      obtain rfl := h
      exact ImpX.here ⟨_, .cons (.tmp _ _ rfl) .nil, rfl⟩
    · replace h := iteFb hc h
      refine ATodo.skip ?_
      refine ATodo.seq ?_
      refine ATodo.region ?_
      refine ARun.qv (q_assign rfl) rfl ?_
      refine ARun.nil ?_
      refine ATodo.ret ?_
      obtain rfl := h
      exact ImpX.here ⟨_, .cons (.tmp _ _ rfl) .nil, rfl⟩
  · replace h := iteFb hc h
    refine ATodo.skip ?_
    refine ATodo.seq ?_
    refine ATodo.seq ?_
    refine ATodo.region ?_
    refine ARun.qv (q_move rfl) rfl ?_
    refine ARun.nil ?_
    refine ATodo.cond rfl (fun hc => ?_) (fun hc => ?_)
    · replace h := iteT hc h
      refine ATodo.seq ?_
      refine ATodo.region ?_
      refine ARun.qv (q_assign rfl) rfl ?_
      refine ARun.nil ?_
      refine ATodo.ret ?_
      obtain rfl := h
      exact ImpX.here ⟨_, .cons (.tmp _ _ rfl) .nil, rfl⟩
    · replace h := iteFb hc h
      refine ATodo.skip ?_
      refine ATodo.seq ?_
      refine ATodo.seq ?_
      refine ATodo.region ?_
      refine ARun.qv (q_move rfl) rfl ?_
      refine ARun.qv (q_move rfl) rfl ?_
      refine ARun.qv (t_slss rfl rfl) rfl ?_
      refine ARun.nil ?_
      refine ATodo.cond rfl (fun hc => ?_) (fun hc => ?_)
      · replace h := iteT hc h
        refine ATodo.seq ?_
        refine ATodo.region ?_
        refine ARun.qv (q_assign rfl) rfl ?_
        refine ARun.nil ?_
        refine ATodo.ret ?_
        obtain rfl := h
        exact ImpX.here ⟨_, .cons (.tmp _ _ rfl) .nil, rfl⟩
      · replace h := iteFb hc h
        refine ATodo.skip ?_
        refine ATodo.seq ?_
        refine ATodo.seq ?_
        refine ATodo.region ?_
        refine ARun.qv (q_move rfl) rfl ?_
        refine ARun.qv (q_move rfl) rfl ?_
        refine ARun.qv (t_sgtr rfl rfl) rfl ?_
        refine ARun.nil ?_
        refine ATodo.cond rfl (fun hc => ?_) (fun hc => ?_)
        · replace h := iteT hc h
          refine ATodo.seq ?_
          refine ATodo.region ?_
          refine ARun.qv (q_assign rfl) rfl ?_
          refine ARun.nil ?_
          refine ATodo.ret ?_
          obtain rfl := h
          exact ImpX.here ⟨_, .cons (.tmp _ _ rfl) .nil, rfl⟩
        · replace h := iteFb hc h
          refine ATodo.skip ?_
          refine ATodo.seq ?_
          refine ATodo.region ?_
          refine ARun.qv (q_assign rfl) rfl ?_
          refine ARun.nil ?_
          refine ATodo.ret ?_
          obtain rfl := h
          exact ImpX.here ⟨_, .cons (.tmp _ _ rfl) .nil, rfl⟩

set_option maxHeartbeats 4000000 in
theorem slices_Compare_string_string_c {p0x0 : List Str} {p1x0 : List Str} {r : Int} (h : slices_Compare_string_string p0x0 p1x0 = some r) : Pu Try.prog 147 [.list 1 (p0x0.map AV.str), .list 1 (p1x0.map AV.str)] (I r) := by
  unfold slices_Compare_string_string at h
  refine ACall.bodyN Try.func147 rfl Try.ntmps147 Try.results147 rfl rfl ?_
  refine ATodo.seq ?_
  refine ATodo.region ?_
  refine ARun.qv (q_assign rfl) rfl ?_
  refine ARun.nil ?_
  refine ATodo.seq ?_
  refine ATodo.seq ?_
  refine ATodo.region ?_
  refine ARun.qv (q_move rfl) rfl ?_
  refine ARun.qv (t_len rfl) rfl ?_
  refine ARun.qv (q_move rfl) rfl ?_
  refine ARun.nil ?_
  refine ATodo.block ?_
  refine ATodo.loopI (fun x : Int => slices_Compare_string_string_b1 p0x0 p1x0 x) (fun x σ' => σ' = ⟨36, [(0, .list 1 (p0x0.map AV.str)), (1, .list 1 (p1x0.map AV.str)), (9, .list 1 (p0x0.map AV.str)), (10, I (p0x0.length : Int)), (11, I x)], []⟩) h ?_ ?_
  · exact ImpX.lessP (by exact ⟨rfl, rfl, rfl, rfl, rfl, True.intro⟩) (.nil) (ImpX.here rfl)
  · intro n2 z1 σ' J1 hmk h hJ1 hA1
    obtain rfl := hmk
    replace h : slices_Compare_string_string_b1 p0x0 p1x0 n2 = some z1 := h
    unfold slices_Compare_string_string_b1 at h
    refine ATodo.seq ?_
    refine ATodo.region ?_
    refine ARun.qv (q_lss rfl rfl) rfl ?_
    refine ARun.nil ?_
    refine ATodo.seq ?_
    refine ATodo.cond_d rfl (fun hc => ?_) (fun hc => ?_)
    · replace h := iteT hc h
      refine ATodo.skip ?_
      refine ATodo.seq ?_
      refine ATodo.block ?_
      refine ATodo.seq ?_
      refine ATodo.region ?_
      refine ARun.qv (q_move rfl) rfl ?_
      obtain ⟨v3, e1, h⟩ := bnd h
      refine ARun.qv (t_index rfl rfl rfl e1 rfl rfl) rfl ?_
      refine ARun.qv (q_load_rptr rfl rfl rfl) rfl ?_
      refine ARun.qv (q_assign rfl) rfl ?_
      refine ARun.qv (q_assign rfl) rfl ?_
      refine ARun.nil ?_
      refine ATodo.seq ?_
      refine ATodo.seq ?_
      refine ATodo.region ?_
      refine ARun.qv (q_move rfl) rfl ?_
      refine ARun.qv (q_move rfl) rfl ?_
      refine ARun.qv (t_len rfl) rfl ?_
      refine ARun.qv (q_geq rfl rfl) rfl ?_
      refine ARun.nil ?_
      refine ATodo.cond_d rfl (fun hc => ?_) (fun hc => ?_)
      · replace h := iteT hc h
        refine ATodo.seq ?_
        refine ATodo.region ?_
        refine ARun.qv (q_assign rfl) rfl ?_
        refine ARun.nil ?_
        refine ATodo.ret ?_
        replace h := outL h hA1
        obtain rfl := Option.some.inj h
        exact ImpX.here ⟨_, .cons (.tmp _ _ rfl) .nil, rfl⟩
      · replace h := iteF hc h
        refine ATodo.skip ?_
        refine ATodo.seq ?_
        refine ATodo.region ?_
        refine ARun.qv (q_move rfl) rfl ?_
        refine ARun.qv (q_move rfl) rfl ?_
        obtain ⟨v4, e2, h⟩ := bnd h
        refine ARun.qv (t_index rfl rfl rfl e2 rfl rfl) rfl ?_
        refine ARun.qv (q_load_rptr rfl rfl rfl) rfl ?_
        refine ARun.qv (q_assign rfl) rfl ?_
        refine ARun.nil ?_
        refine ATodo.seq ?_
        refine ATodo.region ?_
        refine ARun.qv (q_move rfl) rfl ?_
        refine ARun.qv (q_move rfl) rfl ?_
        refine r_callp rfl (cmp_Compare_string_c rfl) (CoL.refl _) rfl ?_
        refine ARun.qv (q_assign rfl) rfl ?_
        refine ARun.nil ?_
        refine ATodo.seq ?_
        refine ATodo.region ?_
        refine ARun.qv (q_move rfl) rfl ?_
        refine ARun.qv (q_neq rfl rfl) rfl ?_
        refine ARun.nil ?_
        refine ATodo.cond_d rfl (fun hc => ?_) (fun hc => ?_)
        · replace h := iteT hc h
          refine ATodo.seq ?_
          refine ATodo.region ?_
          refine ARun.qv (q_move rfl) rfl ?_
          refine ARun.qv (q_assign rfl) rfl ?_
          refine ARun.nil ?_
          refine ATodo.ret ?_
          replace h := outL h hA1
          obtain rfl := Option.some.inj h
          exact ImpX.here ⟨_, .cons (.tmp _ _ rfl) .nil, rfl⟩
        · replace h := iteF hc h
          refine ATodo.skip ?_
          refine ATodo.blk ?_
          refine ATodo.region ?_
          refine ARun.qv (q_addw rfl rfl) rfl ?_
          refine ARun.qv (q_move rfl) rfl ?_
          refine ARun.nil ?_
          refine ATodo.stop ?_
          obtain rfl := Option.some.inj h
          refine hJ1 _ _ rfl ?_
          exact ImpX.lessP (by exact ⟨rfl, rfl, rfl, rfl, rfl, True.intro⟩) (.nil) (ImpX.here rfl)
    · replace h := iteF hc h
      refine ATodo.exit rfl ?_
      replace h := outL h hA1
      unfold slices_Compare_string_string_k1 at h
      refine ATodo.seq ?_
      refine ATodo.seq ?_
      refine ATodo.region ?_
      refine ARun.qv (q_move rfl) rfl ?_
      refine ARun.qv (t_len rfl) rfl ?_
      refine ARun.qv (q_move rfl) rfl ?_
      refine ARun.qv (t_len rfl) rfl ?_
      refine ARun.qv (q_lss rfl rfl) rfl ?_
      refine ARun.nil ?_
      refine ATodo.cond_d rfl (fun hc => ?_) (fun hc => ?_)
      · replace h := iteT hc h
        refine ATodo.seq ?_
        refine ATodo.region ?_
        refine ARun.qv (q_assign rfl) rfl ?_
        refine ARun.nil ?_
        refine ATodo.ret ?_
        obtain rfl := Option.some.inj h
        exact ImpX.here ⟨_, .cons (.tmp _ _ rfl) .nil, rfl⟩
      · replace h := iteF hc h
        refine ATodo.skip ?_
        refine ATodo.seq ?_
        refine ATodo.region ?_
        refine ARun.qv (q_assign rfl) rfl ?_
        refine ARun.nil ?_
        refine ATodo.ret ?_
        obtain rfl := Option.some.inj h
        exact ImpX.here ⟨_, .cons (.tmp _ _ rfl) .nil, rfl⟩

set_option maxHeartbeats 4000000 in
theorem Q_sign_c {p0x0 : Int} {r : Int} (h : Q_sign p0x0 = r) : Pu Try.prog 143 [I p0x0] (I r) := by
  unfold Q_sign at h
  refine ACall.bodyN Try.func143 rfl Try.ntmps143 Try.results143 rfl rfl ?_
  refine ATodo.seq ?_
  refine ATodo.region ?_
  refine ARun.qv (q_assign rfl) rfl ?_
  refine ARun.nil ?_
  refine ATodo.seq ?_
  refine ATodo.block ?_
  refine ATodo.seq ?_
  refine ATodo.region ?_
  refine ARun.qv (q_move rfl) rfl ?_
  refine ARun.qv (q_lss rfl rfl) rfl ?_
  refine ARun.qv (q_assign rfl) rfl ?_
  refine ARun.nil ?_
  refine ATodo.cond_d rfl (fun hc => ?_) (fun hc => ?_)
  · replace h := iteT hc h
    refine ATodo.seq ?_
    refine ATodo.region ?_
    refine ARun.qv (q_assign rfl) rfl ?_
    refine ARun.nil ?_
    refine ATodo.ret ?_
    obtain rfl := h
    exact ImpX.here ⟨_, .cons (.tmp _ _ rfl) .nil, rfl⟩
  · replace h := iteF hc h
    refine ATodo.seq ?_
    refine ATodo.region ?_
    refine ARun.qv (q_move rfl) rfl ?_
    refine ARun.qv (q_gtr rfl rfl) rfl ?_
    refine ARun.qv (q_assign rfl) rfl ?_
    refine ARun.nil ?_
    refine ATodo.cond_d rfl (fun hc => ?_) (fun hc => ?_)
    · replace h := iteT hc h
      refine ATodo.seq ?_
      refine ATodo.region ?_
      refine ARun.qv (q_assign rfl) rfl ?_
      refine ARun.nil ?_
      refine ATodo.ret ?_
      obtain rfl := h
      exact ImpX.here ⟨_, .cons (.tmp _ _ rfl) .nil, rfl⟩
    · replace h := iteF hc h
      refine ATodo.skip ?_
      refine ATodo.blk ?_
      refine ATodo.seq ?_
      refine ATodo.region ?_
      refine ARun.qv (q_assign rfl) rfl ?_
      refine ARun.nil ?_
      refine ATodo.ret ?_
      obtain rfl := h
      exact ImpX.here ⟨_, .cons (.tmp _ _ rfl) .nil, rfl⟩

set_option maxHeartbeats 4000000 in
theorem Q_SampleOrder_c {p0x0 : Sample} {p1x0 : Sample} {r : Int} (h : Q_SampleOrder p0x0 p1x0 = some r) : Pu Try.prog 128 [.agg [.str p0x0.Device, .str p0x0.Metric, I p0x0.At, I p0x0.Value], .agg [.str p1x0.Device, .str p1x0.Metric, I p1x0.At, I p1x0.Value]] (I r) := by
  unfold Q_SampleOrder at h
  refine ACall.bodyN Try.func128 rfl Try.ntmps128 Try.results128 rfl rfl ?_
  refine ATodo.seq ?_
  refine ATodo.region ?_
  refine n_box rfl rfl rfl rfl (fun b1 => ?_)
  refine n_box rfl rfl rfl rfl (fun b2 => ?_)
  refine ARun.qv (q_assign rfl) rfl ?_
  refine ARun.nil ?_
  refine ATodo.seq ?_
  refine ATodo.seq ?_
  refine ATodo.region ?_
  refine ARun.qv (n_field_ptr rfl rfl) rfl ?_
  refine ARun.qv (q_load_ptr rfl rfl (.next .here) rfl) rfl ?_
  refine ARun.qv (n_field_ptr rfl rfl) rfl ?_
  refine ARun.qv (q_load_ptr rfl rfl (.next .here) rfl) rfl ?_
  refine n_buildSliceL (xs := ([p0x0.Device, p0x0.Metric] : List Str).map AV.str) rfl rfl rfl rfl rfl rfl ?_
  refine ARun.qv (n_field_ptr rfl rfl) rfl ?_
  refine ARun.qv (q_load_ptr rfl rfl .here rfl) rfl ?_
  refine ARun.qv (n_field_ptr rfl rfl) rfl ?_
  refine ARun.qv (q_load_ptr rfl rfl .here rfl) rfl ?_
  refine n_buildSliceL (xs := ([p1x0.Device, p1x0.Metric] : List Str).map AV.str) rfl rfl rfl rfl rfl rfl ?_
  obtain ⟨v3, e1, h⟩ := bnd h
  refine r_callp rfl (slices_Compare_string_string_c e1) (CoL.refl _) rfl ?_
  refine ARun.qv (q_assign rfl) rfl ?_
  refine ARun.nil ?_
  refine ATodo.seq ?_
  refine ATodo.region ?_
  refine ARun.qv (q_move rfl) rfl ?_
  refine ARun.qv (q_neq rfl rfl) rfl ?_
  refine ARun.nil ?_
  refine ATodo.cond_d rfl (fun hc => ?_) (fun hc => ?_)
  · replace h := iteT hc h
    refine ATodo.seq ?_
    refine ATodo.region ?_
    refine ARun.qv (q_move rfl) rfl ?_
    refine ARun.qv (q_assign rfl) rfl ?_
    refine ARun.nil ?_
    refine ATodo.ret ?_
    obtain rfl := Option.some.inj h
    exact ImpX.here ⟨_, .cons (.tmp _ _ rfl) .nil, rfl⟩
  · replace h := iteF hc h
    refine ATodo.skip ?_
    refine ATodo.seq ?_
    refine ATodo.region ?_
    refine ARun.qv (n_field_ptr rfl rfl) rfl ?_
    refine ARun.qv (q_load_ptr rfl rfl (.next .here) rfl) rfl ?_
    refine ARun.qv (n_field_ptr rfl rfl) rfl ?_
    refine ARun.qv (q_load_ptr rfl rfl .here rfl) rfl ?_
    refine ARun.qv (q_subw rfl rfl) rfl ?_
    refine r_callp rfl (Q_sign_c rfl) (CoL.refl _) rfl ?_
    refine ARun.qv (q_assign rfl) rfl ?_
    refine ARun.nil ?_
    refine ATodo.ret ?_
    obtain rfl := Option.some.inj h
    exact ImpX.here ⟨_, .cons (.tmp _ _ rfl) .nil, rfl⟩

set_option maxHeartbeats 4000000 in
theorem Q_SamplesFault_c {p0x0 : List Sample} {r : Int} (h : Q_SamplesFault p0x0 = some r) : Pu Try.prog 70 [.list 4 (p0x0.map Sample.av)] (I r) := by
  unfold Q_SamplesFault at h
  refine ACall.bodyN Try.func70 rfl Try.ntmps70 Try.results70 rfl rfl ?_
  refine ATodo.seq ?_
  refine ATodo.region ?_
  refine ARun.qv (q_assign rfl) rfl ?_
  refine ARun.nil ?_
  refine ATodo.seq ?_
  refine ATodo.seq ?_
  refine ATodo.region ?_
  refine ARun.qv (q_move rfl) rfl ?_
  refine ARun.qv (t_len rfl) rfl ?_
  refine ARun.qv (q_gtr rfl rfl) rfl ?_
  refine ARun.nil ?_
  refine ATodo.cond_d rfl (fun hc => ?_) (fun hc => ?_)
  · replace h := iteT hc h
    refine ATodo.seq ?_
    refine ATodo.region ?_
    refine ARun.qv (q_assign rfl) rfl ?_
    refine ARun.nil ?_
    refine ATodo.ret ?_
    obtain rfl := Option.some.inj h
    exact ImpX.here ⟨_, .cons (.tmp _ _ rfl) .nil, rfl⟩
  · replace h := iteF hc h
    refine ATodo.skip ?_
    refine ATodo.seq ?_
    refine ATodo.seq ?_
    refine ATodo.region ?_
    refine ARun.qv (q_move rfl) rfl ?_
    refine ARun.qv (t_len rfl) rfl ?_
    refine ARun.qv (q_move rfl) rfl ?_
    refine ARun.nil ?_
    refine ATodo.block ?_
    refine ATodo.loopI (fun x : Int => Q_SamplesFault_b1 p0x0 x) (fun x σ' => σ' = ⟨51, [(0, .list 4 (p0x0.map Sample.av)), (8, .list 4 (p0x0.map Sample.av)), (9, I (p0x0.length : Int)), (10, I x)], []⟩) h ?_ ?_
    · exact ImpX.lessP (by exact ⟨rfl, rfl, rfl, rfl, True.intro⟩) (.nil) (ImpX.here rfl)
    · intro n2 z1 σ' J1 hmk h hJ1 hA1
      obtain rfl := hmk
      replace h : Q_SamplesFault_b1 p0x0 n2 = some z1 := h
      unfold Q_SamplesFault_b1 at h
      refine ATodo.seq ?_
      refine ATodo.region ?_
      refine ARun.qv (q_lss rfl rfl) rfl ?_
      refine ARun.nil ?_
      refine ATodo.seq ?_
      refine ATodo.cond_d rfl (fun hc => ?_) (fun hc => ?_)
      · replace h := iteT hc h
        refine ATodo.skip ?_
        refine ATodo.seq ?_
        refine ATodo.block ?_
        refine ATodo.seq ?_
        refine ATodo.region ?_
        refine ARun.qv (q_move rfl) rfl ?_
        obtain ⟨v3, e1, h⟩ := bnd h
        refine ARun.qv (t_index rfl rfl rfl e1 rfl rfl) rfl ?_
        refine ARun.qv (q_load_rptr_agg rfl rfl rfl) rfl ?_
        refine n_alloc rfl rfl rfl rfl (fun b4 => ?_)
        refine ARun.qv (q_assign rfl) rfl ?_
        refine n_store_ptr rfl rfl rfl rfl .here rfl rfl ?_
        refine ARun.nil ?_
        refine ATodo.block ?_
        refine ATodo.seq ?_
        refine ATodo.cut (fun σ' => ∃ (c5 : Bool), Q_SamplesFault_j1 p0x0 n2 v3 c5 = some z1 ∧ σ' = ⟨51, [(0, .list 4 (p0x0.map Sample.av)), (3, I n2), (4, .ptr b4 0), (8, .list 4 (p0x0.map Sample.av)), (9, I (p0x0.length : Int)), (10, I n2), (15, .bool c5)], [(b4, .cells [.str v3.Device, .str v3.Metric, I v3.At, I v3.Value])]⟩) ?_ ?_
        · refine ATodo.region ?_
          refine ARun.qv (n_field_ptr rfl rfl) rfl ?_
          refine ARun.qv (q_load_ptr rfl rfl .here rfl) rfl ?_
          obtain ⟨v6, e2, h⟩ := bnd h
          refine r_callp rfl (Q_Key_c e2) (CoL.refl _) rfl ?_
          refine ARun.qv (q_not rfl) rfl ?_
          refine ARun.qv (q_move rfl) rfl ?_
          refine ARun.guard rfl rfl rfl (fun hc => ?_) (fun hc => ?_)
          · replace h := iteFb hc h
            refine ARun.qv (n_field_ptr rfl rfl) rfl ?_
            refine ARun.guard_yes rfl rfl rfl ?_
            refine ARun.qv (q_load_ptr rfl rfl .here rfl) rfl ?_
            refine ARun.guard_yes rfl rfl rfl ?_
            obtain ⟨v7, e3, h⟩ := bnd h
            refine r_callp rfl (Q_Key_c e3) (CoL.refl _) rfl ?_
            refine ARun.guard_yes rfl rfl rfl ?_
            refine ARun.qv (q_not rfl) rfl ?_
            refine ARun.qv (q_pick_f rfl rfl) rfl ?_
            refine ARun.qv (q_assign rfl) rfl ?_
            refine ARun.nil ?_
            refine ATodo.stop ?_
            exact ImpX.lessP (by exact ⟨rfl, rfl, rfl, rfl, rfl, rfl, rfl, True.intro⟩) (.cons .here .nil) (ImpX.here ⟨!v7, h, rfl⟩)
          · replace h := iteT hc h
            refine ARun.guard_no rfl rfl rfl rfl ?_
            refine ARun.guard_no rfl rfl rfl rfl ?_
            refine ARun.guard_no rfl rfl rfl rfl ?_
            refine ARun.qv (q_pick_t rfl rfl) rfl ?_
            refine ARun.qv (q_assign rfl) rfl ?_
            refine ARun.nil ?_
            refine ATodo.stop ?_
            exact ImpX.lessP (by exact ⟨rfl, rfl, rfl, rfl, rfl, rfl, rfl, True.intro⟩) (.cons .here .nil) (ImpX.here ⟨true, h, rfl⟩)
        · rintro σ' ⟨c5, h, rfl⟩
          unfold Q_SamplesFault_j1 at h
          refine ATodo.cond rfl (fun hc => ?_) (fun hc => ?_)
          · replace h := iteT hc h
            refine ATodo.seq ?_
            refine ATodo.region ?_
            refine ARun.qv (q_assign rfl) rfl ?_
            refine ARun.nil ?_
            refine ATodo.ret ?_
            replace h := outL h hA1
            obtain rfl := Option.some.inj h
            exact ImpX.here ⟨_, .cons (.tmp _ _ rfl) .nil, rfl⟩
          · replace h := iteFb hc h
            refine ATodo.seq ?_
            refine ATodo.cut (fun σ' => ∃ (c8 : Bool), Q_SamplesFault_j2 p0x0 n2 v3 c8 = some z1 ∧ σ' = ⟨51, [(0, .list 4 (p0x0.map Sample.av)), (3, I n2), (4, .ptr b4 0), (8, .list 4 (p0x0.map Sample.av)), (9, I (p0x0.length : Int)), (10, I n2), (26, .bool c8)], [(b4, .cells [.str v3.Device, .str v3.Metric, I v3.At, I v3.Value])]⟩) ?_ ?_
            · refine ATodo.region ?_
              refine ARun.qv (n_field_ptr rfl rfl) rfl ?_
              refine ARun.qv (q_load_ptr rfl rfl .here rfl) rfl ?_
              refine r_callp rfl (Q_Moment_c rfl) (CoL.refl _) rfl ?_
              refine ARun.qv (q_not rfl) rfl ?_
              refine ARun.qv (q_move rfl) rfl ?_
              refine ARun.guard rfl rfl rfl (fun hc => ?_) (fun hc => ?_)
              · rw [orFb hc] at h
                refine ARun.qv (n_field_ptr rfl rfl) rfl ?_
                refine ARun.guard_yes rfl rfl rfl ?_
                refine ARun.qv (q_load_ptr rfl rfl .here rfl) rfl ?_
                refine ARun.guard_yes rfl rfl rfl ?_
                refine r_callp rfl (Q_in_c rfl) (CoL.refl _) rfl ?_
                refine ARun.guard_yes rfl rfl rfl ?_
                refine ARun.qv (q_not rfl) rfl ?_
                refine ARun.qv (q_pick_f rfl rfl) rfl ?_
                refine ARun.qv (q_assign rfl) rfl ?_
                refine ARun.nil ?_
                refine ATodo.stop ?_
                exact ImpX.lessP (by exact ⟨rfl, rfl, rfl, rfl, rfl, rfl, rfl, True.intro⟩) (.cons .here .nil) (ImpX.here ⟨!(Q_in v3.Value (-1000000000 : Int) (1000000000 : Int)), h, rfl⟩)
              · rw [orTb hc] at h
                refine ARun.guard_no rfl rfl rfl rfl ?_
                refine ARun.guard_no rfl rfl rfl rfl ?_
                refine ARun.guard_no rfl rfl rfl rfl ?_
                refine ARun.qv (q_pick_t rfl rfl) rfl ?_
                refine ARun.qv (q_assign rfl) rfl ?_
                refine ARun.nil ?_
                refine ATodo.stop ?_
                exact ImpX.lessP (by exact ⟨rfl, rfl, rfl, rfl, rfl, rfl, rfl, True.intro⟩) (.cons .here .nil) (ImpX.here ⟨true, h, rfl⟩)
            · rintro σ' ⟨c8, h, rfl⟩
              unfold Q_SamplesFault_j2 at h
              refine ATodo.cond rfl (fun hc => ?_) (fun hc => ?_)
              · replace h := iteT hc h
                refine ATodo.seq ?_
                refine ATodo.region ?_
                refine ARun.qv (q_assign rfl) rfl ?_
                refine ARun.nil ?_
                refine ATodo.ret ?_
                replace h := outL h hA1
                obtain rfl := Option.some.inj h
                exact ImpX.here ⟨_, .cons (.tmp _ _ rfl) .nil, rfl⟩
              · replace h := iteFb hc h
                refine ATodo.seq ?_
                refine ATodo.cut (fun σ' => ∃ (c9 : Bool), Q_SamplesFault_j3 n2 c9 = some z1 ∧ σ' = ⟨51, [(0, .list 4 (p0x0.map Sample.av)), (8, .list 4 (p0x0.map Sample.av)), (9, I (p0x0.length : Int)), (10, I n2), (37, .bool c9)], []⟩) ?_ ?_
                · refine ATodo.regionM (id := 10) (A := [0, 1, 3, 7, 7, 23, 63, 127, 7, 511, 1023, 2047, 4095]) 13 mixed rfl (by kernel_rfl) (by kernel_rfl) ?_
                  refine AM.qv (q_move rfl) rfl ?_
                  refine AM.qv (q_gtr rfl rfl) rfl ?_
                  refine AM.qv (q_move rfl) rfl ?_
                  refine AM.guard_dt rfl rfl rfl (fun hc => ?_) (fun hc => ?_)
                  · replace h := iteT hc h
                    refine AM.qv (q_move rfl) rfl ?_
                    refine AM.guard_yes rfl rfl rfl ?_
                    refine AM.qv (q_move rfl) rfl ?_
                    refine AM.guard_yes rfl rfl rfl ?_
                    refine AM.qv (q_subw rfl rfl) rfl ?_
                    refine AM.guard_yes rfl rfl rfl ?_
                    obtain ⟨v10, e4, h⟩ := bnd h
                    refine AM.qv (t_index rfl rfl rfl e4 rfl rfl) rfl ?_
                    refine AM.guard_yes rfl rfl rfl ?_
                    refine AM.qv (q_load_rptr_agg rfl rfl rfl) rfl ?_
                    refine AM.guard_yes rfl rfl rfl ?_
                    refine AM.qv (q_load_ptr_all rfl rfl .here rfl) rfl ?_
                    refine AM.guard_yes rfl rfl rfl ?_
                    obtain ⟨v11, e5, h⟩ := bnd h
                    refine AM.callp rfl (Q_SampleOrder_c e5) (CoL.refl _) rfl ?_
                    refine AM.guard_yes rfl rfl rfl ?_
                    refine AM.qv (q_geq rfl rfl) rfl ?_
                    refine AM.qv (q_pick_t rfl rfl) rfl ?_
                    refine AM.qv (q_assign rfl) rfl ?_
                    refine AM.nil ?_
                    refine ARun.nil ?_
                    refine ATodo.stop ?_
                    exact ImpX.lessP (by exact ⟨rfl, rfl, rfl, rfl, rfl, True.intro⟩) (.nil) (ImpX.here ⟨decide ((0 : Int) ≤ v11), h, rfl⟩)
                  · replace h := iteF hc h
                    refine AM.guard_no rfl rfl rfl rfl ?_
                    refine AM.guard_no rfl rfl rfl rfl ?_
                    refine AM.guard_no rfl rfl rfl rfl ?_
                    refine AM.guard_no rfl rfl rfl rfl ?_
                    refine AM.guard_no rfl rfl rfl rfl ?_
                    refine AM.guard_no rfl rfl rfl rfl ?_
                    refine AM.guard_no rfl rfl rfl rfl ?_
                    refine AM.qv (q_pick_f rfl rfl) rfl ?_
                    refine AM.qv (q_assign rfl) rfl ?_
                    refine AM.nil ?_
                    refine ARun.nil ?_
                    refine ATodo.stop ?_
                    exact ImpX.lessP (by exact ⟨rfl, rfl, rfl, rfl, rfl, True.intro⟩) (.nil) (ImpX.here ⟨false, h, rfl⟩)
                · rintro σ' ⟨c9, h, rfl⟩
                  unfold Q_SamplesFault_j3 at h
                  refine ATodo.cond rfl (fun hc => ?_) (fun hc => ?_)
                  · replace h := iteT hc h
                    refine ATodo.seq ?_
                    refine ATodo.region ?_
                    refine ARun.qv (q_assign rfl) rfl ?_
                    refine ARun.nil ?_
                    refine ATodo.ret ?_
                    replace h := outL h hA1
                    obtain rfl := Option.some.inj h
                    exact ImpX.here ⟨_, .cons (.tmp _ _ rfl) .nil, rfl⟩
                  · replace h := iteFb hc h
                    refine ATodo.skip ?_
                    refine ATodo.blk ?_
                    refine ATodo.blk ?_
                    refine ATodo.region ?_
                    refine ARun.qv (q_addw rfl rfl) rfl ?_
                    refine ARun.qv (q_move rfl) rfl ?_
                    refine ARun.nil ?_
                    refine ATodo.stop ?_
                    obtain rfl := Option.some.inj h
                    refine hJ1 _ _ rfl ?_
                    exact ImpX.lessP (by exact ⟨rfl, rfl, rfl, rfl, True.intro⟩) (.nil) (ImpX.here rfl)
      · replace h := iteF hc h
        refine ATodo.exit rfl ?_
        replace h := outL h hA1
        refine ATodo.seq ?_
        refine ATodo.region ?_
        refine ARun.qv (q_assign rfl) rfl ?_
        refine ARun.nil ?_
        refine ATodo.ret ?_
        obtain rfl := Option.some.inj h
        exact ImpX.here ⟨_, .cons (.tmp _ _ rfl) .nil, rfl⟩

end Go.Proofs.Ytbcbhhbbejcnnaa
