/- The code computes the plain functions: proofs written by shal.py. -/
import Derived.Test.YtkmbppeelkbjoaaSurW1
set_option maxRecDepth 100000
set_option linter.unusedVariables false
set_option linter.unusedSimpArgs false
namespace Go.Proofs.Ytkmbppeelkbjoaa
open Go Go.Eng Go.Proofs Go.Beacon
attribute [local irreducible] ARun ATodo AQ QV ACall ImpX AWp AM
set_option maxHeartbeats 4000000 in
theorem math_bits_Mul64x_c {p0x0 : Int} {p1x0 : Int} {r : Int × Int} (h : math_bits_Mul64x p0x0 p1x0 = r) : Pu Try.prog 199 [.int .u64 p0x0, .int .u64 p1x0] (.tup [.int .u64 r.1, .int .u64 r.2]) := by
  unfold math_bits_Mul64x at h
  refine ACall.bodyN Try.func199 rfl Try.ntmps199 Try.results199 rfl rfl ?_
  refine ATodo.seq ?_
  refine ATodo.region ?_
  refine ARun.qv (q_assign rfl) rfl ?_
  refine ARun.qv (q_assign rfl) rfl ?_
  refine ARun.nil ?_
  refine ATodo.seq ?_
  refine ATodo.region ?_
  refine ARun.qv (q_move rfl) rfl ?_
  refine ARun.qv (t_and rfl rfl) rfl ?_
  refine ARun.qv (q_assign rfl) rfl ?_
  refine ARun.nil ?_
  refine ATodo.seq ?_
  refine ATodo.region ?_
  refine ARun.qv (q_move rfl) rfl ?_
  refine ARun.qv (t_shr rfl rfl (by decide)) rfl ?_
  refine ARun.qv (q_assign rfl) rfl ?_
  refine ARun.nil ?_
  refine ATodo.seq ?_
  refine ATodo.region ?_
  refine ARun.qv (q_move rfl) rfl ?_
  refine ARun.qv (t_and rfl rfl) rfl ?_
  refine ARun.qv (q_assign rfl) rfl ?_
  refine ARun.nil ?_
  refine ATodo.seq ?_
  refine ATodo.region ?_
  refine ARun.qv (q_move rfl) rfl ?_
  refine ARun.qv (t_shr rfl rfl (by decide)) rfl ?_
  refine ARun.qv (q_assign rfl) rfl ?_
  refine ARun.nil ?_
  refine ATodo.seq ?_
  refine ATodo.region ?_
  refine ARun.qv (q_move rfl) rfl ?_
  refine ARun.qv (q_move rfl) rfl ?_
  refine ARun.qv (q_mulw rfl rfl) rfl ?_
  refine ARun.qv (q_assign rfl) rfl ?_
  refine ARun.nil ?_
  refine ATodo.seq ?_
  refine ATodo.region ?_
  refine ARun.qv (q_move rfl) rfl ?_
  refine ARun.qv (q_move rfl) rfl ?_
  refine ARun.qv (q_mulw rfl rfl) rfl ?_
  refine ARun.qv (q_move rfl) rfl ?_
  refine ARun.qv (t_shr rfl rfl (by decide)) rfl ?_
  refine ARun.qv (q_addw rfl rfl) rfl ?_
  refine ARun.qv (q_assign rfl) rfl ?_
  refine ARun.nil ?_
  refine ATodo.seq ?_
  refine ATodo.region ?_
  refine ARun.qv (q_move rfl) rfl ?_
  refine ARun.qv (t_and rfl rfl) rfl ?_
  refine ARun.qv (q_assign rfl) rfl ?_
  refine ARun.nil ?_
  refine ATodo.seq ?_
  refine ATodo.region ?_
  refine ARun.qv (q_move rfl) rfl ?_
  refine ARun.qv (t_shr rfl rfl (by decide)) rfl ?_
  refine ARun.qv (q_assign rfl) rfl ?_
  refine ARun.nil ?_
  refine ATodo.seq ?_
  refine ATodo.region ?_
  refine ARun.qv (q_move rfl) rfl ?_
  refine ARun.qv (q_move rfl) rfl ?_
  refine ARun.qv (q_move rfl) rfl ?_
  refine ARun.qv (q_mulw rfl rfl) rfl ?_
  refine ARun.qv (q_addw rfl rfl) rfl ?_
  refine ARun.qv (q_assign rfl) rfl ?_
  refine ARun.nil ?_
  refine ATodo.seq ?_
  refine ATodo.region ?_
  refine ARun.qv (q_move rfl) rfl ?_
  refine ARun.qv (q_move rfl) rfl ?_
  refine ARun.qv (q_mulw rfl rfl) rfl ?_
  refine ARun.qv (q_move rfl) rfl ?_
  refine ARun.qv (q_addw rfl rfl) rfl ?_
  refine ARun.qv (q_move rfl) rfl ?_
  refine ARun.qv (t_shr rfl rfl (by decide)) rfl ?_
  refine ARun.qv (q_addw rfl rfl) rfl ?_
  refine ARun.qv (q_assign rfl) rfl ?_
  refine ARun.nil ?_
  refine ATodo.seq ?_
  refine ATodo.region ?_
  refine ARun.qv (q_move rfl) rfl ?_
  refine ARun.qv (q_move rfl) rfl ?_
  refine ARun.qv (q_mulw rfl rfl) rfl ?_
  refine ARun.qv (q_assign rfl) rfl ?_
  refine ARun.nil ?_
  refine ATodo.ret ?_
  obtain rfl := h
  exact ImpX.here ⟨_, .cons (.tmp _ _ rfl) (.cons (.tmp _ _ rfl) .nil), rfl⟩

set_option maxHeartbeats 4000000 in
theorem base_CompareProducts_c {p0x0 : Int} {p1x0 : Int} {p2x0 : Int} {p3x0 : Int} {r : Int} (h : base_CompareProducts p0x0 p1x0 p2x0 p3x0 = r) : Pu Try.prog 201 [I p0x0, I p1x0, I p2x0, I p3x0] (I r) := by
  unfold base_CompareProducts at h
  refine ACall.bodyN Try.func201 rfl Try.ntmps201 Try.results201 rfl rfl ?_
  refine ATodo.seq ?_
  refine ATodo.region ?_
  refine ARun.qv (q_assign rfl) rfl ?_
  refine ARun.nil ?_
  refine ATodo.seq ?_
  refine ATodo.region ?_
  refine ARun.qv (q_move rfl) rfl ?_
  refine ARun.qv (q_conv_int rfl) rfl ?_
  refine ARun.qv (q_move rfl) rfl ?_
  refine ARun.qv (q_conv_int rfl) rfl ?_
  refine r_callp rfl (math_bits_Mul64x_c rfl) (CoL.refl _) rfl ?_
  refine ARun.qv (q_move rfl) rfl ?_
  refine ARun.qv (q_extract rfl rfl) rfl ?_
  refine ARun.qv (q_extract rfl rfl) rfl ?_
  refine ARun.qv (q_assign rfl) rfl ?_
  refine ARun.qv (q_assign rfl) rfl ?_
  refine ARun.nil ?_
  refine ATodo.seq ?_
  refine ATodo.region ?_
  refine ARun.qv (q_move rfl) rfl ?_
  refine ARun.qv (q_conv_int rfl) rfl ?_
  refine ARun.qv (q_move rfl) rfl ?_
  refine ARun.qv (q_conv_int rfl) rfl ?_
  refine r_callp rfl (math_bits_Mul64x_c rfl) (CoL.refl _) rfl ?_
  refine ARun.qv (q_move rfl) rfl ?_
  refine ARun.qv (q_extract rfl rfl) rfl ?_
  refine ARun.qv (q_extract rfl rfl) rfl ?_
  refine ARun.qv (q_assign rfl) rfl ?_
  refine ARun.qv (q_assign rfl) rfl ?_
  refine ARun.nil ?_
  refine ATodo.seq ?_
  refine ATodo.block ?_
  refine ATodo.seq ?_
  refine ATodo.seq ?_
  refine ATodo.cut (fun σ' => ∃ (c1 : Bool), base_CompareProducts_j1 p0x0 p1x0 p2x0 p3x0 c1 = r ∧ σ' = ⟨55, [(9, .int .u64 ((math_bits_Mul64x (IntKind.u64.wrap (p0x0)) (IntKind.u64.wrap (p1x0))).1)), (10, .int .u64 ((math_bits_Mul64x (IntKind.u64.wrap (p0x0)) (IntKind.u64.wrap (p1x0))).2)), (11, .int .u64 ((math_bits_Mul64x (IntKind.u64.wrap (p2x0)) (IntKind.u64.wrap (p3x0))).1)), (12, .int .u64 ((math_bits_Mul64x (IntKind.u64.wrap (p2x0)) (IntKind.u64.wrap (p3x0))).2)), (29, .bool c1)], []⟩) ?_ ?_
  · refine ATodo.region ?_
    refine ARun.qv (q_move rfl) rfl ?_
    refine ARun.qv (q_move rfl) rfl ?_
    refine ARun.qv (q_neq rfl rfl) rfl ?_
    refine ARun.qv (q_move rfl) rfl ?_
    refine ARun.guard_dt rfl rfl rfl (fun hc => ?_) (fun hc => ?_)
    · rw [andTd hc] at h
      refine ARun.qv (q_move rfl) rfl ?_
      refine ARun.guard_yes rfl rfl rfl ?_
      refine ARun.qv (q_move rfl) rfl ?_
      refine ARun.guard_yes rfl rfl rfl ?_
      refine ARun.qv (q_lss rfl rfl) rfl ?_
      refine ARun.qv (q_pick_t rfl rfl) rfl ?_
      refine ARun.qv (q_assign rfl) rfl ?_
      refine ARun.nil ?_
      refine ATodo.stop ?_
      exact ImpX.lessP (by exact ⟨rfl, rfl, rfl, rfl, rfl, True.intro⟩) (.nil) (ImpX.here ⟨decide (((math_bits_Mul64x (IntKind.u64.wrap (p0x0)) (IntKind.u64.wrap (p1x0))).1) < ((math_bits_Mul64x (IntKind.u64.wrap (p2x0)) (IntKind.u64.wrap (p3x0))).1)), h, rfl⟩)
    · rw [andFd hc] at h
      refine ARun.guard_no rfl rfl rfl rfl ?_
      refine ARun.guard_no rfl rfl rfl rfl ?_
      refine ARun.qv (q_pick_f rfl rfl) rfl ?_
      refine ARun.qv (q_assign rfl) rfl ?_
      refine ARun.nil ?_
      refine ATodo.stop ?_
      exact ImpX.lessP (by exact ⟨rfl, rfl, rfl, rfl, rfl, True.intro⟩) (.nil) (ImpX.here ⟨false, h, rfl⟩)
  · rintro σ' ⟨c1, h, rfl⟩
    unfold base_CompareProducts_j1 at h
    refine ATodo.cut (fun σ' => ∃ (c2 : Bool), base_CompareProducts_j2 p0x0 p1x0 p2x0 p3x0 c2 = r ∧ σ' = ⟨55, [(9, .int .u64 ((math_bits_Mul64x (IntKind.u64.wrap (p0x0)) (IntKind.u64.wrap (p1x0))).1)), (10, .int .u64 ((math_bits_Mul64x (IntKind.u64.wrap (p0x0)) (IntKind.u64.wrap (p1x0))).2)), (11, .int .u64 ((math_bits_Mul64x (IntKind.u64.wrap (p2x0)) (IntKind.u64.wrap (p3x0))).1)), (12, .int .u64 ((math_bits_Mul64x (IntKind.u64.wrap (p2x0)) (IntKind.u64.wrap (p3x0))).2)), (29, .bool c2)], []⟩) ?_ ?_
    · refine ATodo.cond rfl (fun hc => ?_) (fun hc => ?_)
      · replace h := iteT hc h
        refine ATodo.skip ?_
        refine ATodo.stop ?_
        exact ImpX.lessP (by exact ⟨rfl, rfl, rfl, rfl, rfl, True.intro⟩) (.nil) (ImpX.here ⟨c1, h, rfl⟩)
      · replace h := iteFb hc h
        refine ATodo.cut (fun σ' => ∃ (c3 : Bool), base_CompareProducts_j3 p0x0 p1x0 p2x0 p3x0 c3 = r ∧ σ' = ⟨55, [(9, .int .u64 ((math_bits_Mul64x (IntKind.u64.wrap (p0x0)) (IntKind.u64.wrap (p1x0))).1)), (10, .int .u64 ((math_bits_Mul64x (IntKind.u64.wrap (p0x0)) (IntKind.u64.wrap (p1x0))).2)), (11, .int .u64 ((math_bits_Mul64x (IntKind.u64.wrap (p2x0)) (IntKind.u64.wrap (p3x0))).1)), (12, .int .u64 ((math_bits_Mul64x (IntKind.u64.wrap (p2x0)) (IntKind.u64.wrap (p3x0))).2)), (29, .bool c3)], []⟩) ?_ ?_
        · refine ATodo.region ?_
          refine ARun.qv (q_move rfl) rfl ?_
          refine ARun.qv (q_move rfl) rfl ?_
          refine ARun.qv (q_eql rfl rfl) rfl ?_
          refine ARun.qv (q_move rfl) rfl ?_
          refine ARun.guard_dt rfl rfl rfl (fun hc => ?_) (fun hc => ?_)
          · rw [andTd hc] at h
            refine ARun.qv (q_move rfl) rfl ?_
            refine ARun.guard_yes rfl rfl rfl ?_
            refine ARun.qv (q_move rfl) rfl ?_
            refine ARun.guard_yes rfl rfl rfl ?_
            refine ARun.qv (q_lss rfl rfl) rfl ?_
            refine ARun.qv (q_pick_t rfl rfl) rfl ?_
            refine ARun.qv (q_assign rfl) rfl ?_
            refine ARun.nil ?_
            refine ATodo.stop ?_
            exact ImpX.lessP (by exact ⟨rfl, rfl, rfl, rfl, rfl, True.intro⟩) (.nil) (ImpX.here ⟨decide (((math_bits_Mul64x (IntKind.u64.wrap (p0x0)) (IntKind.u64.wrap (p1x0))).2) < ((math_bits_Mul64x (IntKind.u64.wrap (p2x0)) (IntKind.u64.wrap (p3x0))).2)), h, rfl⟩)
          · rw [andFd hc] at h
            refine ARun.guard_no rfl rfl rfl rfl ?_
            refine ARun.guard_no rfl rfl rfl rfl ?_
            refine ARun.qv (q_pick_f rfl rfl) rfl ?_
            refine ARun.qv (q_assign rfl) rfl ?_
            refine ARun.nil ?_
            refine ATodo.stop ?_
            exact ImpX.lessP (by exact ⟨rfl, rfl, rfl, rfl, rfl, True.intro⟩) (.nil) (ImpX.here ⟨false, h, rfl⟩)
        · rintro σ' ⟨c3, h, rfl⟩
          unfold base_CompareProducts_j3 at h
          refine ATodo.stop ?_
          exact ImpX.lessP (by exact ⟨rfl, rfl, rfl, rfl, rfl, True.intro⟩) (.nil) (ImpX.here ⟨c3, h, rfl⟩)
    · rintro σ' ⟨c2, h, rfl⟩
      unfold base_CompareProducts_j2 at h
      refine ATodo.cond rfl (fun hc => ?_) (fun hc => ?_)
      · replace h := iteT hc h
        refine ATodo.seq ?_
        refine ATodo.region ?_
        refine ARun.qv (q_assign rfl) rfl ?_
        refine ARun.nil ?_
        refine ATodo.ret ?_
        obtain rfl := h
        exact ImpX.here ⟨_, .cons (.tmp _ _ rfl) .nil, rfl⟩
      · replace h := iteFb hc h
        refine ATodo.seq ?_
        refine ATodo.cut (fun σ' => ∃ (c4 : Bool), base_CompareProducts_j4 c4 = r ∧ σ' = ⟨55, [(46, .bool c4)], []⟩) ?_ ?_
        · refine ATodo.region ?_
          refine ARun.qv (q_move rfl) rfl ?_
          refine ARun.qv (q_move rfl) rfl ?_
          refine ARun.qv (q_eql rfl rfl) rfl ?_
          refine ARun.qv (q_move rfl) rfl ?_
          refine ARun.guard_dt rfl rfl rfl (fun hc => ?_) (fun hc => ?_)
          · rw [andTd hc] at h
            refine ARun.qv (q_move rfl) rfl ?_
            refine ARun.guard_yes rfl rfl rfl ?_
            refine ARun.qv (q_move rfl) rfl ?_
            refine ARun.guard_yes rfl rfl rfl ?_
            refine ARun.qv (q_eql rfl rfl) rfl ?_
            refine ARun.qv (q_pick_t rfl rfl) rfl ?_
            refine ARun.qv (q_assign rfl) rfl ?_
            refine ARun.nil ?_
            refine ATodo.stop ?_
            exact ImpX.lessP (by exact ⟨rfl, True.intro⟩) (.nil) (ImpX.here ⟨decide (((math_bits_Mul64x (IntKind.u64.wrap (p0x0)) (IntKind.u64.wrap (p1x0))).2) = ((math_bits_Mul64x (IntKind.u64.wrap (p2x0)) (IntKind.u64.wrap (p3x0))).2)), h, rfl⟩)
          · rw [andFd hc] at h
            refine ARun.guard_no rfl rfl rfl rfl ?_
            refine ARun.guard_no rfl rfl rfl rfl ?_
            refine ARun.qv (q_pick_f rfl rfl) rfl ?_
            refine ARun.qv (q_assign rfl) rfl ?_
            refine ARun.nil ?_
            refine ATodo.stop ?_
            exact ImpX.lessP (by exact ⟨rfl, True.intro⟩) (.nil) (ImpX.here ⟨false, h, rfl⟩)
        · rintro σ' ⟨c4, h, rfl⟩
          unfold base_CompareProducts_j4 at h
          refine ATodo.cond rfl (fun hc => ?_) (fun hc => ?_)
          · replace h := iteT hc h
            refine ATodo.seq ?_
            refine ATodo.region ?_
            refine ARun.qv (q_assign rfl) rfl ?_
            refine ARun.nil ?_
            refine ATodo.ret ?_
            obtain rfl := h
            exact ImpX.here ⟨_, .cons (.tmp _ _ rfl) .nil, rfl⟩
          · replace h := iteFb hc h
            refine ATodo.skip ?_
            refine ATodo.blk ?_
            refine ATodo.seq ?_
            refine ATodo.region ?_
            refine ARun.qv (q_assign rfl) rfl ?_
            refine ARun.nil ?_
            refine ATodo.ret ?_
            obtain rfl := h
            exact ImpX.here ⟨_, .cons (.tmp _ _ rfl) .nil, rfl⟩

set_option maxHeartbeats 4000000 in
theorem place_less_c {p0x0 : Fraction} {p1x0 : Fraction} {r : Bool} (h : place_less p0x0 p1x0 = r) : Pu Try.prog 134 [.agg [I p0x0.Num, I p0x0.Den], .agg [I p1x0.Num, I p1x0.Den]] (.bool r) := by
  unfold place_less at h
  refine ACall.bodyN Try.func134 rfl Try.ntmps134 Try.results134 rfl rfl ?_
  refine ATodo.seq ?_
  refine ATodo.region ?_
  refine n_box rfl rfl rfl rfl (fun b1 => ?_)
  refine n_box rfl rfl rfl rfl (fun b2 => ?_)
  refine ARun.qv (q_assign rfl) rfl ?_
  refine ARun.nil ?_
  refine ATodo.seq ?_
  refine ATodo.region ?_
  refine ARun.qv (n_field_ptr rfl rfl) rfl ?_
  refine ARun.qv (q_load_ptr rfl rfl (.next .here) rfl) rfl ?_
  refine ARun.qv (n_field_ptr rfl rfl) rfl ?_
  refine ARun.qv (q_load_ptr rfl rfl .here rfl) rfl ?_
  refine ARun.qv (n_field_ptr rfl rfl) rfl ?_
  refine ARun.qv (q_load_ptr rfl rfl .here rfl) rfl ?_
  refine ARun.qv (n_field_ptr rfl rfl) rfl ?_
  refine ARun.qv (q_load_ptr rfl rfl (.next .here) rfl) rfl ?_
  refine r_callp rfl (base_CompareProducts_c rfl) (CoL.refl _) rfl ?_
  refine ARun.qv (q_lss rfl rfl) rfl ?_
  refine ARun.qv (q_assign rfl) rfl ?_
  refine ARun.nil ?_
  refine ATodo.ret ?_
  obtain rfl := h
  exact ImpX.here ⟨_, .cons (.tmp _ _ rfl) .nil, rfl⟩

set_option maxHeartbeats 4000000 in
theorem place_farOf_1x_c {b_2 : Bk} {b_3 : Bk} {p0x0 : Spot} {p1x0 : Spot} {p2x0 : Spot} {p3x0 : Fraction} {r : Bool × Fraction} (h : place_farOf_1x p0x0 p1x0 p2x0 p3x0 = some r) : ACall Try.prog 184 [.agg [I p0x0.X, I p0x0.Y], .agg [I p1x0.X, I p1x0.Y], .ptr b_2 0, .ptr b_3 0] [(b_2, .cells [I p2x0.X, I p2x0.Y]), (b_3, .cells [I p3x0.Num, I p3x0.Den])] (T0 ([(b_2, .cells [I p2x0.X, I p2x0.Y]), (b_3, .cells [I r.2.Num, I r.2.Den])]) (.bool r.1)) := by
  unfold place_farOf_1x at h
  refine ACall.lessH ?_
  refine ACall.bodyN Try.func184 rfl Try.ntmps184 Try.results184 rfl rfl ?_
  refine ATodo.seq ?_
  refine ATodo.region ?_
  refine n_box rfl rfl rfl rfl (fun b1 => ?_)
  refine n_box rfl rfl rfl rfl (fun b2 => ?_)
  refine ARun.qv (q_assign rfl) rfl ?_
  refine ARun.nil ?_
  refine ATodo.seq ?_
  refine ATodo.seq ?_
  refine ATodo.region ?_
  refine ARun.qv (q_load_ptr_all rfl rfl (.next .here) rfl) rfl ?_
  refine ARun.qv (q_load_ptr_all rfl rfl .here rfl) rfl ?_
  refine ARun.qv (q_load_ptr_all rfl rfl (.next (.next .here)) rfl) rfl ?_
  obtain ⟨v3, e1, h⟩ := bnd h
  refine r_callp rfl (place_far_c e1) (CoL.refl _) rfl ?_
  refine n_alloc rfl rfl rfl rfl (fun b4 => ?_)
  refine n_store_ptr rfl rfl rfl rfl .here rfl rfl ?_
  refine ARun.nil ?_
  refine ATodo.seq ?_
  refine ATodo.cut (fun σ' => ∃ (c5 : Bool), place_farOf_1x_j1 p3x0 v3 c5 = some r ∧ σ' = ⟨21, [(3, .ptr b_3 0), (7, .ptr b4 0), (19, .bool c5)], [(b_2, .cells [I p2x0.X, I p2x0.Y]), (b_3, .cells [I p3x0.Num, I p3x0.Den]), (b4, .cells [I v3.Num, I v3.Den])]⟩) ?_ ?_
  · refine ATodo.region ?_
    refine ARun.qv (n_field_ptr rfl rfl) rfl ?_
    refine ARun.qv (q_load_ptr rfl rfl (.next (.next (.next (.next .here)))) rfl) rfl ?_
    refine ARun.qv (q_lss rfl rfl) rfl ?_
    refine ARun.qv (q_move rfl) rfl ?_
    refine ARun.guard_df rfl rfl rfl (fun hc => ?_) (fun hc => ?_)
    · rw [orFd hc] at h
      refine ARun.qv (q_load_ptr_all rfl rfl .here rfl) rfl ?_
      refine ARun.guard_yes rfl rfl rfl ?_
      refine ARun.qv (q_load_ptr_all rfl rfl (.next (.next (.next (.next .here)))) rfl) rfl ?_
      refine ARun.guard_yes rfl rfl rfl ?_
      refine r_callp rfl (place_less_c rfl) (CoL.refl _) rfl ?_
      refine ARun.qv (q_pick_f rfl rfl) rfl ?_
      refine ARun.nil ?_
      refine ATodo.stop ?_
      exact ImpX.lessP (by exact ⟨rfl, rfl, rfl, True.intro⟩) (.cons (.next (.next (.next .here))) (.cons (.next (.next (.next .here))) (.cons .here .nil))) (ImpX.here ⟨(place_less v3 p3x0), h, rfl⟩)
    · rw [orTd hc] at h
      refine ARun.guard_no rfl rfl rfl rfl ?_
      refine ARun.guard_no rfl rfl rfl rfl ?_
      refine ARun.qv (q_pick_t rfl rfl) rfl ?_
      refine ARun.nil ?_
      refine ATodo.stop ?_
      exact ImpX.lessP (by exact ⟨rfl, rfl, rfl, True.intro⟩) (.cons (.next (.next (.next .here))) (.cons (.next (.next (.next .here))) (.cons .here .nil))) (ImpX.here ⟨true, h, rfl⟩)
  · rintro σ' ⟨c5, h, rfl⟩
    unfold place_farOf_1x_j1 at h
    refine ATodo.cut (fun σ' => ∃ (n6 : Int) (n7 : Int), place_farOf_1x_j2 n6 n7 = some r ∧ σ' = ⟨21, [], [(b_2, .cells [I p2x0.X, I p2x0.Y]), (b_3, .cells [I n6, I n7])]⟩) ?_ ?_
    · refine ATodo.cond rfl (fun hc => ?_) (fun hc => ?_)
      · replace h := iteT hc h
        refine ATodo.region ?_
        refine ARun.qv (q_load_ptr_all rfl rfl (.next (.next .here)) rfl) rfl ?_
        refine n_store_ptr rfl rfl rfl rfl (.next .here) rfl rfl ?_
        refine ARun.nil ?_
        refine ATodo.stop ?_
        exact ImpX.lessP (by exact True.intro) (.cons .here (.cons .here .nil)) (ImpX.here ⟨v3.Num, v3.Den, h, rfl⟩)
      · replace h := iteFb hc h
        refine ATodo.skip ?_
        refine ATodo.stop ?_
        exact ImpX.lessP (by exact True.intro) (.cons .here (.cons .here .nil)) (ImpX.here ⟨p3x0.Num, p3x0.Den, h, rfl⟩)
    · rintro σ' ⟨n6, n7, h, rfl⟩
      unfold place_farOf_1x_j2 at h
      refine ATodo.seq ?_
      refine ATodo.region ?_
      refine ARun.qv (q_assign rfl) rfl ?_
      refine ARun.nil ?_
      refine ATodo.ret ?_
      obtain rfl := Option.some.inj h
      exact ImpX.here ⟨_, .cons (.tmp _ _ rfl) .nil, _, .cons .here (.cons .here .nil), ⟨rfl, rfl⟩⟩

set_option maxHeartbeats 4000000 in
theorem place_edges_f1x_place_farOf_1x_c {b_2 : Bk} {b_3 : Bk} {p0x0 : List Spot} {p2x0 : Spot} {p3x0 : Fraction} {r : Bool × Fraction} (h : place_edges_f1x_place_farOf_1x p0x0 p2x0 p3x0 = some r) : ACall Try.prog 183 [.list 2 (p0x0.map Spot.av), .func (.func 184) [.ptr b_2 0, .ptr b_3 0]] [(b_2, .cells [I p2x0.X, I p2x0.Y]), (b_3, .cells [I p3x0.Num, I p3x0.Den])] (T0 ([(b_2, .cells [I p2x0.X, I p2x0.Y]), (b_3, .cells [I r.2.Num, I r.2.Den])]) (.bool r.1)) := by
  unfold place_edges_f1x_place_farOf_1x at h
  refine ACall.lessH ?_
  refine ACall.bodyN Try.func183 rfl Try.ntmps183 Try.results183 rfl rfl ?_
  refine ATodo.seq ?_
  refine ATodo.region ?_
  refine ARun.qv (q_assign rfl) rfl ?_
  refine ARun.nil ?_
  refine ATodo.seq ?_
  refine ATodo.seq ?_
  refine ATodo.region ?_
  refine ARun.qv (q_move rfl) rfl ?_
  refine ARun.qv (t_len rfl) rfl ?_
  refine ARun.qv (q_move rfl) rfl ?_
  refine ARun.nil ?_
  refine ATodo.block ?_
  refine ATodo.loopI (fun x : Int × Int × Int => place_edges_f1x_place_farOf_1x_b1 p0x0 p2x0 x.1 x.2.1 x.2.2) (fun x σ' => σ' = ⟨26, [(0, .list 2 (p0x0.map Spot.av)), (1, .func (.func 184) [.ptr b_2 0, .ptr b_3 0]), (7, .list 2 (p0x0.map Spot.av)), (8, I (p0x0.length : Int)), (9, I x.2.2)], [(b_2, .cells [I p2x0.X, I p2x0.Y]), (b_3, .cells [I x.1, I x.2.1])]⟩) h ?_ ?_
  · exact ImpX.lessP (by exact ⟨rfl, rfl, rfl, rfl, rfl, True.intro⟩) (.cons .here (.cons .here .nil)) (ImpX.here rfl)
  · intro x z1 σ' J1 hmk h hJ1 hA1
    obtain ⟨n4, n5, n6⟩ := x
    obtain rfl := hmk
    replace h : place_edges_f1x_place_farOf_1x_b1 p0x0 p2x0 n4 n5 n6 = some z1 := h
    unfold place_edges_f1x_place_farOf_1x_b1 at h
    refine ATodo.seq ?_
    refine ATodo.region ?_
    refine ARun.qv (q_lss rfl rfl) rfl ?_
    refine ARun.nil ?_
    refine ATodo.seq ?_
    refine ATodo.cond_d rfl (fun hc => ?_) (fun hc => ?_)
    · replace h := iteT hc h
      refine ATodo.skip ?_
      refine ATodo.seq ?_
      refine ATodo.block ?_
      refine ATodo.seq ?_
      refine ATodo.region ?_
      refine ARun.qv (q_move rfl) rfl ?_
      obtain ⟨v7, e1, h⟩ := bnd h
      refine ARun.qv (t_index rfl rfl rfl e1 rfl rfl) rfl ?_
      refine ARun.qv (q_load_rptr_agg rfl rfl rfl) rfl ?_
      refine n_alloc rfl rfl rfl rfl (fun b8 => ?_)
      refine ARun.qv (q_assign rfl) rfl ?_
      refine n_store_ptr rfl rfl rfl rfl .here rfl rfl ?_
      refine ARun.nil ?_
      refine ATodo.seq ?_
      refine ATodo.regionM (id := 4) (A := [0, 0, 0, 0, 8, 0, 32, 120, 252, 508, 1023]) 10 mixed rfl (by kernel_rfl) (by kernel_rfl) ?_
      refine AM.qv (q_move rfl) rfl ?_
      refine AM.qv (q_load_ptr_all rfl rfl .here rfl) rfl ?_
      refine AM.qv (q_move rfl) rfl ?_
      refine AM.qv (q_move rfl) rfl ?_
      refine AM.qv (q_addw rfl rfl) rfl ?_
      refine AM.qv (q_move rfl) rfl ?_
      refine AM.qv (t_len rfl) rfl ?_
      obtain ⟨n9, e2, h⟩ := bnd h
      refine AM.qv (t_remS rfl rfl e2) rfl ?_
      obtain ⟨v10, e3, h⟩ := bnd h
      refine AM.qv (t_index rfl rfl rfl e3 rfl rfl) rfl ?_
      refine AM.qv (q_load_rptr_agg rfl rfl rfl) rfl ?_
      refine AM.nil ?_
      obtain ⟨v11, e4, h⟩ := bnd h
      refine t_callv0 rfl rfl rfl (place_farOf_1x_c e4) (CoL.refl _) (.cons (.next .here) (.cons (.next .here) .nil)) rfl rfl ?_
      refine ARun.nil ?_
      refine ATodo.cond rfl (fun hc => ?_) (fun hc => ?_)
      · replace h := iteT hc h
        refine ATodo.seq ?_
        refine ATodo.region ?_
        refine ARun.qv (q_assign rfl) rfl ?_
        refine ARun.nil ?_
        refine ATodo.ret ?_
        replace h := outL h hA1
        obtain rfl := Option.some.inj h
        exact ImpX.here ⟨_, .cons (.tmp _ _ rfl) .nil, _, .cons .here (.cons .here .nil), ⟨rfl, rfl⟩⟩
      · replace h := iteFb hc h
        refine ATodo.skip ?_
        refine ATodo.blk ?_
        refine ATodo.region ?_
        refine ARun.qv (q_addw rfl rfl) rfl ?_
        refine ARun.qv (q_move rfl) rfl ?_
        refine ARun.nil ?_
        refine ATodo.stop ?_
        obtain rfl := Option.some.inj h
        refine hJ1 _ _ rfl ?_
        exact ImpX.lessP (by exact ⟨rfl, rfl, rfl, rfl, rfl, True.intro⟩) (.cons .here (.cons .here .nil)) (ImpX.here rfl)
    · replace h := iteF hc h
      refine ATodo.exit rfl ?_
      replace h := outL h hA1
      refine ATodo.seq ?_
      refine ATodo.region ?_
      refine ARun.qv (q_assign rfl) rfl ?_
      refine ARun.nil ?_
      refine ATodo.ret ?_
      obtain rfl := Option.some.inj h
      exact ImpX.here ⟨_, .cons (.tmp _ _ rfl) .nil, _, .cons .here (.cons .here .nil), ⟨rfl, rfl⟩⟩

set_option maxHeartbeats 4000000 in
theorem place_farOf_c {p0x0 : List Spot} {p1x0 : Spot} {r : Fraction} (h : place_farOf p0x0 p1x0 = some r) : Pu Try.prog 93 [.list 2 (p0x0.map Spot.av), .agg [I p1x0.X, I p1x0.Y]] (.agg [I r.Num, I r.Den]) := by
  unfold place_farOf at h
  refine ACall.bodyN Try.func93 rfl Try.ntmps93 Try.results93 rfl rfl ?_
  refine ATodo.seq ?_
  refine ATodo.region ?_
  refine n_box rfl rfl rfl rfl (fun b1 => ?_)
  refine n_alloc rfl rfl rfl rfl (fun b2 => ?_)
  refine ARun.nil ?_
  refine ATodo.seq ?_
  refine ATodo.region ?_
  refine ARun.qv (n_build rfl rfl rfl rfl rfl) rfl ?_
  refine n_alloc rfl rfl rfl rfl (fun b3 => ?_)
  refine n_store_ptr rfl rfl rfl rfl .here rfl rfl ?_
  refine ARun.nil ?_
  refine ATodo.seq ?_
  refine ATodo.region ?_
  refine ARun.qv (q_move rfl) rfl ?_
  refine ARun.qv (q_makeFunc rfl) rfl ?_
  obtain ⟨v4, e1, h⟩ := bnd h
  refine t_call0 rfl (place_edges_f1x_place_farOf_1x_c e1) (CoL.refl _) (.cons (.next (.next .here)) (.cons .here .nil)) rfl rfl ?_
  refine ARun.nil ?_
  refine ATodo.seq ?_
  refine ATodo.region ?_
  refine ARun.qv (q_load_ptr_all rfl rfl (.next .here) rfl) rfl ?_
  refine n_store_ptr rfl rfl rfl rfl (.next (.next .here)) rfl rfl ?_
  refine ARun.nil ?_
  refine ATodo.ret ?_
  obtain rfl := Option.some.inj h
  exact ImpX.here ⟨_, .cons (.all _ _ _ _ _ _ rfl (.next (.next .here)) TUnder.h TInfo.h rfl rfl) .nil, rfl⟩

set_option maxHeartbeats 4000000 in
theorem place_Far_c {p0x0 : FenceS} {p1x0 : Spot} {r : Fraction × Int} (h : place_Far p0x0 p1x0 = some r) : Pu Try.prog 16 [.agg [.str p0x0.Key, .list 2 (p0x0.Corners.map Spot.av)], .agg [I p1x0.X, I p1x0.Y]] (.tup [.agg [I r.1.Num, I r.1.Den], I r.2]) := by
  unfold place_Far at h
  refine ACall.bodyN Try.func16 rfl Try.ntmps16 Try.results16 rfl rfl ?_
  refine ATodo.seq ?_
  refine ATodo.region ?_
  refine n_box rfl rfl rfl rfl (fun b1 => ?_)
  refine n_box rfl rfl rfl rfl (fun b2 => ?_)
  refine n_alloc rfl rfl rfl rfl (fun b3 => ?_)
  refine ARun.qv (q_assign rfl) rfl ?_
  refine ARun.nil ?_
  refine ATodo.seq ?_
  refine ATodo.seq ?_
  refine ATodo.region ?_
  refine ARun.qv (q_load_ptr_all rfl rfl (.next (.next .here)) rfl) rfl ?_
  refine ARun.qv (q_load_ptr_all rfl rfl (.next .here) rfl) rfl ?_
  obtain ⟨v4, e1, h⟩ := bnd h
  refine r_callp rfl (place_spotFault_c e1) (CoL.refl _) rfl ?_
  refine ARun.qv (q_assign rfl) rfl ?_
  refine ARun.nil ?_
  refine ATodo.seq ?_
  refine ATodo.region ?_
  refine ARun.qv (q_move rfl) rfl ?_
  refine ARun.qv (q_neq rfl rfl) rfl ?_
  refine ARun.nil ?_
  refine ATodo.cond_d rfl (fun hc => ?_) (fun hc => ?_)
  · replace h := iteT hc h
    refine ATodo.seq ?_
    refine ATodo.region ?_
    refine ARun.qv (n_build rfl rfl rfl rfl rfl) rfl ?_
    refine ARun.qv (q_move rfl) rfl ?_
    refine n_store_ptr rfl rfl rfl rfl .here rfl rfl ?_
    refine ARun.qv (q_assign rfl) rfl ?_
    refine ARun.nil ?_
    refine ATodo.ret ?_
    obtain rfl := Option.some.inj h
    exact ImpX.here ⟨_, .cons (.all _ _ _ _ _ _ rfl .here TUnder.h TInfo.h rfl rfl) (.cons (.tmp _ _ rfl) .nil), rfl⟩
  · replace h := iteF hc h
    refine ATodo.skip ?_
    refine ATodo.seq ?_
    refine ATodo.region ?_
    refine ARun.qv (n_field_ptr rfl rfl) rfl ?_
    refine ARun.qv (q_load_ptr rfl rfl (.next (.next .here)) rfl) rfl ?_
    refine ARun.qv (q_load_ptr_all rfl rfl (.next .here) rfl) rfl ?_
    obtain ⟨v5, e2, h⟩ := bnd h
    refine r_callp rfl (place_farOf_c e2) (CoL.refl _) rfl ?_
    refine n_store_ptr rfl rfl rfl rfl .here rfl rfl ?_
    refine ARun.qv (q_assign rfl) rfl ?_
    refine ARun.nil ?_
    refine ATodo.ret ?_
    obtain rfl := Option.some.inj h
    exact ImpX.here ⟨_, .cons (.all _ _ _ _ _ _ rfl .here TUnder.h TInfo.h rfl rfl) (.cons (.tmp _ _ rfl) .nil), rfl⟩

set_option maxHeartbeats 4000000 in
theorem base_Moment_c {p0x0 : Int} {r : Bool} (h : base_Moment p0x0 = r) : Pu Try.prog 127 [I p0x0] (.bool r) := by
  unfold base_Moment at h
  refine ACall.bodyN Try.func127 rfl Try.ntmps127 Try.results127 rfl rfl ?_
  refine ATodo.seq ?_
  refine ATodo.region ?_
  refine ARun.qv (q_assign rfl) rfl ?_
  refine ARun.nil ?_
  refine ATodo.seq ?_
  refine ATodo.region ?_
  refine ARun.qv (q_move rfl) rfl ?_
  refine r_callp rfl (base_Out_c rfl) (CoL.refl _) rfl ?_
  refine ARun.qv (q_not rfl) rfl ?_
  refine ARun.qv (q_assign rfl) rfl ?_
  refine ARun.nil ?_
  refine ATodo.ret ?_
  obtain rfl := h
  exact ImpX.here ⟨_, .cons (.tmp _ _ rfl) .nil, rfl⟩

set_option maxHeartbeats 4000000 in
theorem place_spot_c {p0x0 : Fix} {r : Spot} (h : place_spot p0x0 = r) : Pu Try.prog 111 [.agg [.str p0x0.Device, I p0x0.At, I p0x0.X, I p0x0.Y, I p0x0.Error]] (.agg [I r.X, I r.Y]) := by
  unfold place_spot at h
  refine ACall.bodyN Try.func111 rfl Try.ntmps111 Try.results111 rfl rfl ?_
  refine ATodo.seq ?_
  refine ATodo.region ?_
  refine n_box rfl rfl rfl rfl (fun b1 => ?_)
  refine n_alloc rfl rfl rfl rfl (fun b2 => ?_)
  refine ARun.nil ?_
  refine ATodo.seq ?_
  refine ATodo.region ?_
  refine ARun.qv (n_field_ptr rfl rfl) rfl ?_
  refine ARun.qv (q_load_ptr rfl rfl (.next .here) rfl) rfl ?_
  refine ARun.qv (n_field_ptr rfl rfl) rfl ?_
  refine ARun.qv (q_load_ptr rfl rfl (.next .here) rfl) rfl ?_
  refine ARun.qv (n_build rfl rfl rfl rfl rfl) rfl ?_
  refine n_store_ptr rfl rfl rfl rfl .here rfl rfl ?_
  refine ARun.nil ?_
  refine ATodo.ret ?_
  obtain rfl := h
  exact ImpX.here ⟨_, .cons (.all _ _ _ _ _ _ rfl .here TUnder.h TInfo.h rfl rfl) .nil, rfl⟩

set_option maxHeartbeats 4000000 in
theorem cmp_Or_int_c {p0x0 : List Int} {r : Int} (h : cmp_Or_int p0x0 = some r) : Pu Try.prog 196 [.list 1 (p0x0.map I)] (I r) := by
  unfold cmp_Or_int at h
  refine ACall.bodyN Try.func196 rfl Try.ntmps196 Try.results196 rfl rfl ?_
  refine ATodo.seq ?_
  refine ATodo.region ?_
  refine ARun.qv (q_assign rfl) rfl ?_
  refine ARun.nil ?_
  refine ATodo.seq ?_
  refine ATodo.region ?_
  refine ARun.qv (q_assign rfl) rfl ?_
  refine ARun.nil ?_
  refine ATodo.seq ?_
  refine ATodo.seq ?_
  refine ATodo.region ?_
  refine ARun.qv (q_move rfl) rfl ?_
  refine ARun.qv (t_len rfl) rfl ?_
  refine ARun.qv (q_move rfl) rfl ?_
  refine ARun.nil ?_
  refine ATodo.block ?_
  refine ATodo.loopI (fun x : Int => cmp_Or_int_b1 p0x0 x) (fun x σ' => σ' = ⟨18, [(3, I (0 : Int)), (6, .list 1 (p0x0.map I)), (7, I (p0x0.length : Int)), (8, I x)], []⟩) h ?_ ?_
  · exact ImpX.lessP (by exact ⟨rfl, rfl, rfl, rfl, True.intro⟩) (.nil) (ImpX.here rfl)
  · intro n2 z1 σ' J1 hmk h hJ1 hA1
    obtain rfl := hmk
    replace h : cmp_Or_int_b1 p0x0 n2 = some z1 := h
    unfold cmp_Or_int_b1 at h
    refine ATodo.seq ?_
    refine ATodo.region ?_
    refine ARun.qv (q_lss rfl rfl) rfl ?_
    refine ARun.nil ?_
    refine ATodo.seq ?_
    refine ATodo.cond_d rfl (fun hc => ?_) (fun hc => ?_)
    · replace h := iteT hc h
      refine ATodo.skip ?_
      refine ATodo.seq ?_
      refine ATodo.block ?_
      refine ATodo.seq ?_
      refine ATodo.region ?_
      obtain ⟨v3, e1, h⟩ := bnd h
      refine ARun.qv (t_index rfl rfl rfl e1 rfl rfl) rfl ?_
      refine ARun.qv (q_load_rptr rfl rfl rfl) rfl ?_
      refine ARun.qv (q_assign rfl) rfl ?_
      refine ARun.nil ?_
      refine ATodo.seq ?_
      refine ATodo.region ?_
      refine ARun.qv (q_move rfl) rfl ?_
      refine ARun.qv (q_move rfl) rfl ?_
      refine ARun.qv (q_neq rfl rfl) rfl ?_
      refine ARun.nil ?_
      refine ATodo.cond_d rfl (fun hc => ?_) (fun hc => ?_)
      · replace h := iteT hc h
        refine ATodo.seq ?_
        refine ATodo.region ?_
        refine ARun.qv (q_move rfl) rfl ?_
        refine ARun.qv (q_assign rfl) rfl ?_
        refine ARun.nil ?_
        refine ATodo.ret ?_
        replace h := outL h hA1
        obtain rfl := Option.some.inj h
        exact ImpX.here ⟨_, .cons (.tmp _ _ rfl) .nil, rfl⟩
      · replace h := iteF hc h
        refine ATodo.skip ?_
        refine ATodo.blk ?_
        refine ATodo.region ?_
        refine ARun.qv (q_addw rfl rfl) rfl ?_
        refine ARun.qv (q_move rfl) rfl ?_
        refine ARun.nil ?_
        refine ATodo.stop ?_
        obtain rfl := Option.some.inj h
        refine hJ1 _ _ rfl ?_
        exact ImpX.lessP (by exact ⟨rfl, rfl, rfl, rfl, True.intro⟩) (.nil) (ImpX.here rfl)
    · replace h := iteF hc h
      refine ATodo.exit rfl ?_
      replace h := outL h hA1
      refine ATodo.seq ?_
      refine ATodo.region ?_
      refine ARun.qv (q_move rfl) rfl ?_
      refine ARun.qv (q_assign rfl) rfl ?_
      refine ARun.nil ?_
      refine ATodo.ret ?_
      obtain rfl := Option.some.inj h
      exact ImpX.here ⟨_, .cons (.tmp _ _ rfl) .nil, rfl⟩

set_option maxHeartbeats 4000000 in
theorem place_byDevice_c {p0x0 : Fix} {p1x0 : Fix} {r : Int} (h : place_byDevice p0x0 p1x0 = some r) : Pu Try.prog 124 [.agg [.str p0x0.Device, I p0x0.At, I p0x0.X, I p0x0.Y, I p0x0.Error], .agg [.str p1x0.Device, I p1x0.At, I p1x0.X, I p1x0.Y, I p1x0.Error]] (I r) := by
  unfold place_byDevice at h
  refine ACall.bodyN Try.func124 rfl Try.ntmps124 Try.results124 rfl rfl ?_
  refine ATodo.seq ?_
  refine ATodo.region ?_
  refine n_box rfl rfl rfl rfl (fun b1 => ?_)
  refine n_box rfl rfl rfl rfl (fun b2 => ?_)
  refine ARun.qv (q_assign rfl) rfl ?_
  refine ARun.nil ?_
  refine ATodo.seq ?_
  refine ATodo.regionM (id := 1) (A := [0, 1, 0, 4, 15, 0, 32, 0, 128, 511, 1023, 2047, 4095]) 13 mixed rfl (by kernel_rfl) (by kernel_rfl) ?_
  refine AM.qv (n_field_ptr rfl rfl) rfl ?_
  refine AM.qv (q_load_ptr rfl rfl (.next .here) rfl) rfl ?_
  refine AM.qv (n_field_ptr rfl rfl) rfl ?_
  refine AM.qv (q_load_ptr rfl rfl .here rfl) rfl ?_
  refine AM.callp rfl (strings_Compare_c rfl) (CoL.refl _) rfl ?_
  refine AM.qv (n_field_ptr rfl rfl) rfl ?_
  refine AM.qv (q_load_ptr rfl rfl (.next .here) rfl) rfl ?_
  refine AM.qv (n_field_ptr rfl rfl) rfl ?_
  refine AM.qv (q_load_ptr rfl rfl .here rfl) rfl ?_
  refine AM.callp rfl (cmp_Compare_int_c rfl) (CoL.refl _) rfl ?_
  refine AM.buildSliceL (xs := ([(Lib.compareBytes p0x0.Device p1x0.Device), (cmp_Compare_int p0x0.At p1x0.At)] : List Int).map I) rfl rfl rfl rfl rfl rfl ?_
  obtain ⟨v3, e1, h⟩ := bnd h
  refine AM.callp rfl (cmp_Or_int_c e1) (CoL.refl _) rfl ?_
  refine AM.qv (q_assign rfl) rfl ?_
  refine AM.nil ?_
  refine ARun.nil ?_
  refine ATodo.ret ?_
  obtain rfl := Option.some.inj h
  exact ImpX.here ⟨_, .cons (.tmp _ _ rfl) .nil, rfl⟩

set_option maxHeartbeats 4000000 in
theorem place_CheckFixes_c {p0x0 : List Fix} {r : Int} (h : place_CheckFixes p0x0 = some r) : Pu Try.prog 43 [.list 5 (p0x0.map Fix.av)] (I r) := by
  unfold place_CheckFixes at h
  refine ACall.bodyN Try.func43 rfl Try.ntmps43 Try.results43 rfl rfl ?_
  refine ATodo.seq ?_
  refine ATodo.region ?_
  refine ARun.qv (q_assign rfl) rfl ?_
  refine ARun.nil ?_
  refine ATodo.seq ?_
  refine ATodo.seq ?_
  refine ATodo.region ?_
  refine ARun.qv (q_move rfl) rfl ?_
  refine ARun.qv (t_len rfl) rfl ?_
  refine ARun.qv (q_gtr rfl rfl) rfl ?_
  refine ARun.nil ?_
  refine ATodo.cond_d rfl (fun hc => ?_) (fun hc => ?_)
  · replace h := iteT hc h
    refine ATodo.seq ?_
    refine ATodo.region ?_
    refine ARun.qv (q_assign rfl) rfl ?_
    refine ARun.nil ?_
    refine ATodo.ret ?_
    obtain rfl := Option.some.inj h
    exact ImpX.here ⟨_, .cons (.tmp _ _ rfl) .nil, rfl⟩
  · replace h := iteF hc h
    refine ATodo.skip ?_
    refine ATodo.seq ?_
    refine ATodo.seq ?_
    refine ATodo.region ?_
    refine ARun.qv (q_move rfl) rfl ?_
    refine ARun.qv (t_len rfl) rfl ?_
    refine ARun.qv (q_move rfl) rfl ?_
    refine ARun.nil ?_
    refine ATodo.block ?_
    refine ATodo.loopI (fun x : Int => place_CheckFixes_b1 p0x0 x) (fun x σ' => σ' = ⟨50, [(0, .list 5 (p0x0.map Fix.av)), (8, .list 5 (p0x0.map Fix.av)), (9, I (p0x0.length : Int)), (10, I x)], []⟩) h ?_ ?_
    · exact ImpX.lessP (by exact ⟨rfl, rfl, rfl, rfl, True.intro⟩) (.nil) (ImpX.here rfl)
    · intro n2 z1 σ' J1 hmk h hJ1 hA1
      obtain rfl := hmk
      replace h : place_CheckFixes_b1 p0x0 n2 = some z1 := h
      unfold place_CheckFixes_b1 at h
      refine ATodo.seq ?_
      refine ATodo.region ?_
      refine ARun.qv (q_lss rfl rfl) rfl ?_
      refine ARun.nil ?_
      refine ATodo.seq ?_
      refine ATodo.cond_d rfl (fun hc => ?_) (fun hc => ?_)
      · replace h := iteT hc h
        refine ATodo.skip ?_
        refine ATodo.seq ?_
        refine ATodo.block ?_
        refine ATodo.seq ?_
        refine ATodo.region ?_
        refine ARun.qv (q_move rfl) rfl ?_
        obtain ⟨v3, e1, h⟩ := bnd h
        refine ARun.qv (t_index rfl rfl rfl e1 rfl rfl) rfl ?_
        refine ARun.qv (q_load_rptr_agg rfl rfl rfl) rfl ?_
        refine n_alloc rfl rfl rfl rfl (fun b4 => ?_)
        refine ARun.qv (q_assign rfl) rfl ?_
        refine n_store_ptr rfl rfl rfl rfl .here rfl rfl ?_
        refine ARun.nil ?_
        refine ATodo.block ?_
        refine ATodo.seq ?_
        refine ATodo.region ?_
        refine ARun.qv (n_field_ptr rfl rfl) rfl ?_
        refine ARun.qv (q_load_ptr rfl rfl .here rfl) rfl ?_
        obtain ⟨v5, e2, h⟩ := bnd h
        refine r_callp rfl (base_Key_c e2) (CoL.refl _) rfl ?_
        refine ARun.qv (q_not rfl) rfl ?_
        refine ARun.qv (q_assign rfl) rfl ?_
        refine ARun.nil ?_
        refine ATodo.cond rfl (fun hc => ?_) (fun hc => ?_)
        · replace h := iteT hc h
          refine ATodo.seq ?_
          refine ATodo.region ?_
          refine ARun.qv (q_assign rfl) rfl ?_
          refine ARun.nil ?_
          refine ATodo.ret ?_
          replace h := outL h hA1
          obtain rfl := Option.some.inj h
          exact ImpX.here ⟨_, .cons (.tmp _ _ rfl) .nil, rfl⟩
        · replace h := iteFb hc h
          refine ATodo.seq ?_
          refine ATodo.cut (fun σ' => ∃ (c6 : Bool), place_CheckFixes_j1 p0x0 n2 v3 c6 = some z1 ∧ σ' = ⟨50, [(0, .list 5 (p0x0.map Fix.av)), (3, I n2), (4, .ptr b4 0), (8, .list 5 (p0x0.map Fix.av)), (9, I (p0x0.length : Int)), (10, I n2), (20, .bool c6)], [(b4, .cells [.str v3.Device, I v3.At, I v3.X, I v3.Y, I v3.Error])]⟩) ?_ ?_
          · refine ATodo.region ?_
            refine ARun.qv (n_field_ptr rfl rfl) rfl ?_
            refine ARun.qv (q_load_ptr rfl rfl .here rfl) rfl ?_
            refine r_callp rfl (base_Moment_c rfl) (CoL.refl _) rfl ?_
            refine ARun.qv (q_not rfl) rfl ?_
            refine ARun.qv (q_move rfl) rfl ?_
            refine ARun.guard rfl rfl rfl (fun hc => ?_) (fun hc => ?_)
            · rw [orFb hc] at h
              refine ARun.qv (q_load_ptr_all rfl rfl .here rfl) rfl ?_
              refine ARun.guard_yes rfl rfl rfl ?_
              refine r_callp rfl (place_spot_c rfl) (CoL.refl _) rfl ?_
              refine ARun.guard_yes rfl rfl rfl ?_
              refine r_callp rfl (place_isSpot_c rfl) (CoL.refl _) rfl ?_
              refine ARun.guard_yes rfl rfl rfl ?_
              refine ARun.qv (q_not rfl) rfl ?_
              refine ARun.qv (q_pick_f rfl rfl) rfl ?_
              refine ARun.qv (q_move rfl) rfl ?_
              refine ARun.guard rfl rfl rfl (fun hc => ?_) (fun hc => ?_)
              · rw [orFb hc] at h
                refine ARun.qv (n_field_ptr rfl rfl) rfl ?_
                refine ARun.guard_yes rfl rfl rfl ?_
                refine ARun.qv (q_load_ptr rfl rfl .here rfl) rfl ?_
                refine ARun.guard_yes rfl rfl rfl ?_
                refine r_callp rfl (base_Out_c rfl) (CoL.refl _) rfl ?_
                refine ARun.qv (q_pick_f rfl rfl) rfl ?_
                refine ARun.qv (q_assign rfl) rfl ?_
                refine ARun.nil ?_
                refine ATodo.stop ?_
                exact ImpX.lessP (by exact ⟨rfl, rfl, rfl, rfl, rfl, rfl, rfl, True.intro⟩) (.cons .here .nil) (ImpX.here ⟨(base_Out v3.Error (0 : Int) (10000 : Int)), h, rfl⟩)
              · rw [orTb hc] at h
                refine ARun.guard_no rfl rfl rfl rfl ?_
                refine ARun.guard_no rfl rfl rfl rfl ?_
                refine ARun.qv (q_pick_t rfl rfl) rfl ?_
                refine ARun.qv (q_assign rfl) rfl ?_
                refine ARun.nil ?_
                refine ATodo.stop ?_
                exact ImpX.lessP (by exact ⟨rfl, rfl, rfl, rfl, rfl, rfl, rfl, True.intro⟩) (.cons .here .nil) (ImpX.here ⟨true, h, rfl⟩)
            · rw [orTb hc] at h
              refine ARun.guard_no rfl rfl rfl rfl ?_
              refine ARun.guard_no rfl rfl rfl rfl ?_
              refine ARun.guard_no rfl rfl rfl rfl ?_
              refine ARun.qv (q_pick_t rfl rfl) rfl ?_
              refine ARun.qv (q_move rfl) rfl ?_
              refine ARun.guard_no rfl rfl rfl rfl ?_
              refine ARun.guard_no rfl rfl rfl rfl ?_
              refine ARun.guard_no rfl rfl rfl rfl ?_
              refine ARun.qv (q_pick_t rfl rfl) rfl ?_
              refine ARun.qv (q_assign rfl) rfl ?_
              refine ARun.nil ?_
              refine ATodo.stop ?_
              exact ImpX.lessP (by exact ⟨rfl, rfl, rfl, rfl, rfl, rfl, rfl, True.intro⟩) (.cons .here .nil) (ImpX.here ⟨true, h, rfl⟩)
          · rintro σ' ⟨c6, h, rfl⟩
            unfold place_CheckFixes_j1 at h
            refine ATodo.cond rfl (fun hc => ?_) (fun hc => ?_)
            · replace h := iteT hc h
              refine ATodo.seq ?_
              refine ATodo.region ?_
              refine ARun.qv (q_assign rfl) rfl ?_
              refine ARun.nil ?_
              refine ATodo.ret ?_
              replace h := outL h hA1
              obtain rfl := Option.some.inj h
              exact ImpX.here ⟨_, .cons (.tmp _ _ rfl) .nil, rfl⟩
            · replace h := iteFb hc h
              refine ATodo.seq ?_
              refine ATodo.cut (fun σ' => ∃ (c7 : Bool), place_CheckFixes_j2 n2 c7 = some z1 ∧ σ' = ⟨50, [(0, .list 5 (p0x0.map Fix.av)), (8, .list 5 (p0x0.map Fix.av)), (9, I (p0x0.length : Int)), (10, I n2), (36, .bool c7)], []⟩) ?_ ?_
              · refine ATodo.regionM (id := 10) (A := [0, 1, 3, 7, 7, 7, 39, 119, 247, 511, 1023, 2047, 4095]) 13 mixed rfl (by kernel_rfl) (by kernel_rfl) ?_
                refine AM.qv (q_move rfl) rfl ?_
                refine AM.qv (q_gtr rfl rfl) rfl ?_
                refine AM.qv (q_move rfl) rfl ?_
                refine AM.guard_dt rfl rfl rfl (fun hc => ?_) (fun hc => ?_)
                · replace h := iteT hc h
                  refine AM.qv (q_load_ptr_all rfl rfl .here rfl) rfl ?_
                  refine AM.guard_yes rfl rfl rfl ?_
                  refine AM.qv (q_move rfl) rfl ?_
                  refine AM.guard_yes rfl rfl rfl ?_
                  refine AM.qv (q_move rfl) rfl ?_
                  refine AM.guard_yes rfl rfl rfl ?_
                  refine AM.qv (q_subw rfl rfl) rfl ?_
                  refine AM.guard_yes rfl rfl rfl ?_
                  obtain ⟨v8, e3, h⟩ := bnd h
                  refine AM.qv (t_index rfl rfl rfl e3 rfl rfl) rfl ?_
                  refine AM.guard_yes rfl rfl rfl ?_
                  refine AM.qv (q_load_rptr_agg rfl rfl rfl) rfl ?_
                  refine AM.guard_yes rfl rfl rfl ?_
                  obtain ⟨v9, e4, h⟩ := bnd h
                  refine AM.callp rfl (place_byDevice_c e4) (CoL.refl _) rfl ?_
                  refine AM.guard_yes rfl rfl rfl ?_
                  refine AM.qv (q_leq rfl rfl) rfl ?_
                  refine AM.qv (q_pick_t rfl rfl) rfl ?_
                  refine AM.qv (q_assign rfl) rfl ?_
                  refine AM.nil ?_
                  refine ARun.nil ?_
                  refine ATodo.stop ?_
                  exact ImpX.lessP (by exact ⟨rfl, rfl, rfl, rfl, rfl, True.intro⟩) (.nil) (ImpX.here ⟨decide (v9 ≤ (0 : Int)), h, rfl⟩)
                · replace h := iteF hc h
                  refine AM.guard_no rfl rfl rfl rfl ?_
                  refine AM.guard_no rfl rfl rfl rfl ?_
                  refine AM.guard_no rfl rfl rfl rfl ?_
                  refine AM.guard_no rfl rfl rfl rfl ?_
                  refine AM.guard_no rfl rfl rfl rfl ?_
                  refine AM.guard_no rfl rfl rfl rfl ?_
                  refine AM.guard_no rfl rfl rfl rfl ?_
                  refine AM.qv (q_pick_f rfl rfl) rfl ?_
                  refine AM.qv (q_assign rfl) rfl ?_
                  refine AM.nil ?_
                  refine ARun.nil ?_
                  refine ATodo.stop ?_
                  exact ImpX.lessP (by exact ⟨rfl, rfl, rfl, rfl, rfl, True.intro⟩) (.nil) (ImpX.here ⟨false, h, rfl⟩)
              · rintro σ' ⟨c7, h, rfl⟩
                unfold place_CheckFixes_j2 at h
                refine ATodo.cond rfl (fun hc => ?_) (fun hc => ?_)
                · replace h := iteT hc h
                  refine ATodo.seq ?_
                  refine ATodo.region ?_
                  refine ARun.qv (q_assign rfl) rfl ?_
                  refine ARun.nil ?_
                  refine ATodo.ret ?_
                  replace h := outL h hA1
                  obtain rfl := Option.some.inj h
                  exact ImpX.here ⟨_, .cons (.tmp _ _ rfl) .nil, rfl⟩
                · replace h := iteFb hc h
                  refine ATodo.skip ?_
                  refine ATodo.blk ?_
                  refine ATodo.blk ?_
                  refine ATodo.region ?_
                  refine ARun.qv (q_addw rfl rfl) rfl ?_
                  refine ARun.qv (q_move rfl) rfl ?_
                  refine ARun.nil ?_
                  refine ATodo.stop ?_
                  obtain rfl := Option.some.inj h
                  refine hJ1 _ _ rfl ?_
                  exact ImpX.lessP (by exact ⟨rfl, rfl, rfl, rfl, True.intro⟩) (.nil) (ImpX.here rfl)
      · replace h := iteF hc h
        refine ATodo.exit rfl ?_
        replace h := outL h hA1
        refine ATodo.seq ?_
        refine ATodo.region ?_
        refine ARun.qv (q_assign rfl) rfl ?_
        refine ARun.nil ?_
        refine ATodo.ret ?_
        obtain rfl := Option.some.inj h
        exact ImpX.here ⟨_, .cons (.tmp _ _ rfl) .nil, rfl⟩

set_option maxHeartbeats 4000000 in
theorem base_First_c {p0x0 : List Int} {r : Int} (h : base_First p0x0 = some r) : Pu Try.prog 94 [.list 1 (p0x0.map I)] (I r) := by
  unfold base_First at h
  refine ACall.bodyN Try.func94 rfl Try.ntmps94 Try.results94 rfl rfl ?_
  refine ATodo.seq ?_
  refine ATodo.region ?_
  refine ARun.qv (q_assign rfl) rfl ?_
  refine ARun.nil ?_
  refine ATodo.seq ?_
  refine ATodo.seq ?_
  refine ATodo.region ?_
  refine ARun.qv (q_move rfl) rfl ?_
  refine ARun.qv (t_len rfl) rfl ?_
  refine ARun.qv (q_move rfl) rfl ?_
  refine ARun.nil ?_
  refine ATodo.block ?_
  refine ATodo.loopI (fun x : Int => base_First_b1 p0x0 x) (fun x σ' => σ' = ⟨15, [(5, .list 1 (p0x0.map I)), (6, I (p0x0.length : Int)), (7, I x)], []⟩) h ?_ ?_
  · exact ImpX.lessP (by exact ⟨rfl, rfl, rfl, True.intro⟩) (.nil) (ImpX.here rfl)
  · intro n2 z1 σ' J1 hmk h hJ1 hA1
    obtain rfl := hmk
    replace h : base_First_b1 p0x0 n2 = some z1 := h
    unfold base_First_b1 at h
    refine ATodo.seq ?_
    refine ATodo.region ?_
    refine ARun.qv (q_lss rfl rfl) rfl ?_
    refine ARun.nil ?_
    refine ATodo.seq ?_
    refine ATodo.cond_d rfl (fun hc => ?_) (fun hc => ?_)
    · replace h := iteT hc h
      refine ATodo.skip ?_
      refine ATodo.seq ?_
      refine ATodo.block ?_
      refine ATodo.seq ?_
      refine ATodo.region ?_
      obtain ⟨v3, e1, h⟩ := bnd h
      refine ARun.qv (t_index rfl rfl rfl e1 rfl rfl) rfl ?_
      refine ARun.qv (q_load_rptr rfl rfl rfl) rfl ?_
      refine ARun.qv (q_assign rfl) rfl ?_
      refine ARun.nil ?_
      refine ATodo.seq ?_
      refine ATodo.region ?_
      refine ARun.qv (q_move rfl) rfl ?_
      refine ARun.qv (q_neq rfl rfl) rfl ?_
      refine ARun.nil ?_
      refine ATodo.cond_d rfl (fun hc => ?_) (fun hc => ?_)
      · replace h := iteT hc h
        refine ATodo.seq ?_
        refine ATodo.region ?_
        refine ARun.qv (q_move rfl) rfl ?_
        refine ARun.qv (q_assign rfl) rfl ?_
        refine ARun.nil ?_
        refine ATodo.ret ?_
        replace h := outL h hA1
        obtain rfl := Option.some.inj h
        exact ImpX.here ⟨_, .cons (.tmp _ _ rfl) .nil, rfl⟩
      · replace h := iteF hc h
        refine ATodo.skip ?_
        refine ATodo.blk ?_
        refine ATodo.region ?_
        refine ARun.qv (q_addw rfl rfl) rfl ?_
        refine ARun.qv (q_move rfl) rfl ?_
        refine ARun.nil ?_
        refine ATodo.stop ?_
        obtain rfl := Option.some.inj h
        refine hJ1 _ _ rfl ?_
        exact ImpX.lessP (by exact ⟨rfl, rfl, rfl, True.intro⟩) (.nil) (ImpX.here rfl)
    · replace h := iteF hc h
      refine ATodo.exit rfl ?_
      replace h := outL h hA1
      refine ATodo.seq ?_
      refine ATodo.region ?_
      refine ARun.qv (q_assign rfl) rfl ?_
      refine ARun.nil ?_
      refine ATodo.ret ?_
      obtain rfl := Option.some.inj h
      exact ImpX.here ⟨_, .cons (.tmp _ _ rfl) .nil, rfl⟩

set_option maxHeartbeats 4000000 in
theorem place_where_1x_c {p0x0 : Spot} {p1x0 : Spot} {p2x0 : Spot} {r : Bool} (h : place_where_1x p0x0 p1x0 p2x0 = r) : Pu Try.prog 227 [.agg [I p0x0.X, I p0x0.Y], .agg [I p1x0.X, I p1x0.Y], .rptr [I p2x0.X, I p2x0.Y]] (.bool r) := by
  unfold place_where_1x at h
  refine ACall.bodyN Try.func227 rfl Try.ntmps227 Try.results227 rfl rfl ?_
  refine ATodo.seq ?_
  refine ATodo.region ?_
  refine n_box rfl rfl rfl rfl (fun b1 => ?_)
  refine n_box rfl rfl rfl rfl (fun b2 => ?_)
  refine ARun.qv (q_assign rfl) rfl ?_
  refine ARun.nil ?_
  refine ATodo.seq ?_
  refine ATodo.region ?_
  refine ARun.qv (q_load_ptr_all rfl rfl (.next .here) rfl) rfl ?_
  refine ARun.qv (q_load_ptr_all rfl rfl .here rfl) rfl ?_
  refine ARun.qv (q_load_rptr_agg rfl rfl rfl) rfl ?_
  refine r_callp rfl (place_on_c rfl) (CoL.refl _) rfl ?_
  refine ARun.qv (q_assign rfl) rfl ?_
  refine ARun.nil ?_
  refine ATodo.ret ?_
  obtain rfl := h
  exact ImpX.here ⟨_, .cons (.tmp _ _ rfl) .nil, rfl⟩

set_option maxHeartbeats 4000000 in
theorem place_edges_c {p0x0 : List Spot} {fnb : Spot → Spot → Option Bool} {fnb_F : FuncId} [IsFn Try.prog fnb_F] {fnb_C : List AV} (fnb_h : ∀ {y0 y1 : _} {u : Bool}, fnb y0 y1 = some u → Pu Try.prog fnb_F (.agg [I y0.X, I y0.Y] :: .agg [I y1.X, I y1.Y] ::  fnb_C) (.bool u)) {r : Bool} (h : place_edges p0x0 fnb = some r) : Pu Try.prog 183 [.list 2 (p0x0.map Spot.av), .func (.func fnb_F) fnb_C] (.bool r) := by
  unfold place_edges at h
  refine ACall.bodyN Try.func183 rfl Try.ntmps183 Try.results183 rfl rfl ?_
  refine ATodo.seq ?_
  refine ATodo.region ?_
  refine ARun.qv (q_assign rfl) rfl ?_
  refine ARun.nil ?_
  refine ATodo.seq ?_
  refine ATodo.seq ?_
  refine ATodo.region ?_
  refine ARun.qv (q_move rfl) rfl ?_
  refine ARun.qv (t_len rfl) rfl ?_
  refine ARun.qv (q_move rfl) rfl ?_
  refine ARun.nil ?_
  refine ATodo.block ?_
  refine ATodo.loopI (fun x : Int => place_edges_b1 p0x0 fnb x) (fun x σ' => σ' = ⟨26, [(0, .list 2 (p0x0.map Spot.av)), (1, .func (.func fnb_F) fnb_C), (7, .list 2 (p0x0.map Spot.av)), (8, I (p0x0.length : Int)), (9, I x)], []⟩) h ?_ ?_
  · exact ImpX.lessP (by exact ⟨rfl, rfl, rfl, rfl, rfl, True.intro⟩) (.nil) (ImpX.here rfl)
  · intro n2 z1 σ' J1 hmk h hJ1 hA1
    obtain rfl := hmk
    replace h : place_edges_b1 p0x0 fnb n2 = some z1 := h
    unfold place_edges_b1 at h
    refine ATodo.seq ?_
    refine ATodo.region ?_
    refine ARun.qv (q_lss rfl rfl) rfl ?_
    refine ARun.nil ?_
    refine ATodo.seq ?_
    refine ATodo.cond_d rfl (fun hc => ?_) (fun hc => ?_)
    · replace h := iteT hc h
      refine ATodo.skip ?_
      refine ATodo.seq ?_
      refine ATodo.block ?_
      refine ATodo.seq ?_
      refine ATodo.region ?_
      refine ARun.qv (q_move rfl) rfl ?_
      obtain ⟨v3, e1, h⟩ := bnd h
      refine ARun.qv (t_index rfl rfl rfl e1 rfl rfl) rfl ?_
      refine ARun.qv (q_load_rptr_agg rfl rfl rfl) rfl ?_
      refine n_alloc rfl rfl rfl rfl (fun b4 => ?_)
      refine ARun.qv (q_assign rfl) rfl ?_
      refine n_store_ptr rfl rfl rfl rfl .here rfl rfl ?_
      refine ARun.nil ?_
      refine ATodo.seq ?_
      refine ATodo.regionM (id := 4) (A := [0, 0, 0, 0, 8, 0, 32, 120, 252, 508, 1023]) 10 mixed rfl (by kernel_rfl) (by kernel_rfl) ?_
      refine AM.qv (q_move rfl) rfl ?_
      refine AM.qv (q_load_ptr_all rfl rfl .here rfl) rfl ?_
      refine AM.qv (q_move rfl) rfl ?_
      refine AM.qv (q_move rfl) rfl ?_
      refine AM.qv (q_addw rfl rfl) rfl ?_
      refine AM.qv (q_move rfl) rfl ?_
      refine AM.qv (t_len rfl) rfl ?_
      obtain ⟨n5, e2, h⟩ := bnd h
      refine AM.qv (t_remS rfl rfl e2) rfl ?_
      obtain ⟨v6, e3, h⟩ := bnd h
      refine AM.qv (t_index rfl rfl rfl e3 rfl rfl) rfl ?_
      refine AM.qv (q_load_rptr_agg rfl rfl rfl) rfl ?_
      refine AM.nil ?_
      obtain ⟨v7, e4, h⟩ := bnd h
      refine r_callvp rfl rfl (fnb_h e4) (CoL.refl _) rfl ?_
      refine ARun.nil ?_
      refine ATodo.cond rfl (fun hc => ?_) (fun hc => ?_)
      · replace h := iteT hc h
        refine ATodo.seq ?_
        refine ATodo.region ?_
        refine ARun.qv (q_assign rfl) rfl ?_
        refine ARun.nil ?_
        refine ATodo.ret ?_
        replace h := outL h hA1
        obtain rfl := Option.some.inj h
        exact ImpX.here ⟨_, .cons (.tmp _ _ rfl) .nil, rfl⟩
      · replace h := iteFb hc h
        refine ATodo.skip ?_
        refine ATodo.blk ?_
        refine ATodo.region ?_
        refine ARun.qv (q_addw rfl rfl) rfl ?_
        refine ARun.qv (q_move rfl) rfl ?_
        refine ARun.nil ?_
        refine ATodo.stop ?_
        obtain rfl := Option.some.inj h
        refine hJ1 _ _ rfl ?_
        exact ImpX.lessP (by exact ⟨rfl, rfl, rfl, rfl, rfl, True.intro⟩) (.nil) (ImpX.here rfl)
    · replace h := iteF hc h
      refine ATodo.exit rfl ?_
      replace h := outL h hA1
      refine ATodo.seq ?_
      refine ATodo.region ?_
      refine ARun.qv (q_assign rfl) rfl ?_
      refine ARun.nil ?_
      refine ATodo.ret ?_
      obtain rfl := Option.some.inj h
      exact ImpX.here ⟨_, .cons (.tmp _ _ rfl) .nil, rfl⟩

set_option maxHeartbeats 4000000 in
theorem place_where_2x_c {b_2 : Bk} {b_3 : Bk} {p0x0 : Spot} {p1x0 : Spot} {p2x0 : Spot} {p3x0 : Bool} {r : Bool × Bool} (h : place_where_2x p0x0 p1x0 p2x0 p3x0 = r) : ACall Try.prog 228 [.agg [I p0x0.X, I p0x0.Y], .agg [I p1x0.X, I p1x0.Y], .ptr b_2 0, .ptr b_3 0] [(b_2, .cells [I p2x0.X, I p2x0.Y]), (b_3, .cells [.bool p3x0])] (T0 ([(b_2, .cells [I p2x0.X, I p2x0.Y]), (b_3, .cells [.bool r.2])]) (.bool r.1)) := by
  unfold place_where_2x at h
  refine ACall.lessH ?_
  refine ACall.bodyN Try.func228 rfl Try.ntmps228 Try.results228 rfl rfl ?_
  refine ATodo.seq ?_
  refine ATodo.region ?_
  refine n_box rfl rfl rfl rfl (fun b1 => ?_)
  refine n_box rfl rfl rfl rfl (fun b2 => ?_)
  refine ARun.qv (q_assign rfl) rfl ?_
  refine ARun.nil ?_
  refine ATodo.seq ?_
  refine ATodo.seq ?_
  refine ATodo.region ?_
  refine ARun.qv (n_field_ptr rfl rfl) rfl ?_
  refine ARun.qv (q_load_ptr rfl rfl (.next .here) rfl) rfl ?_
  refine ARun.qv (n_field_ptr rfl rfl) rfl ?_
  refine ARun.qv (q_load_ptr rfl rfl .here rfl) rfl ?_
  refine ARun.qv (q_gtr rfl rfl) rfl ?_
  refine ARun.nil ?_
  refine ATodo.cut (fun σ' => ∃ (n3 : Int) (n4 : Int) (n5 : Int) (n6 : Int), place_where_2x_j1 p2x0 p3x0 n3 n4 n5 n6 = r ∧ σ' = ⟨35, [(2, .ptr b_2 0), (3, .ptr b_3 0), (4, .ptr b1 0), (5, .ptr b2 0)], [(b_2, .cells [I p2x0.X, I p2x0.Y]), (b_3, .cells [.bool p3x0]), (b1, .cells [I n3, I n4]), (b2, .cells [I n5, I n6])]⟩) ?_ ?_
  · refine ATodo.cond_d rfl (fun hc => ?_) (fun hc => ?_)
    · replace h := iteT hc h
      refine ATodo.region ?_
      refine ARun.qv (q_load_ptr_all rfl rfl .here rfl) rfl ?_
      refine ARun.qv (q_load_ptr_all rfl rfl (.next .here) rfl) rfl ?_
      refine n_store_ptr rfl rfl rfl rfl (.next .here) rfl rfl ?_
      refine n_store_ptr rfl rfl rfl rfl .here rfl rfl ?_
      refine ARun.nil ?_
      refine ATodo.stop ?_
      exact ImpX.lessP (by exact ⟨rfl, rfl, rfl, rfl, True.intro⟩) (.cons (.next (.next .here)) (.cons (.next (.next .here)) (.cons (.next .here) (.cons .here .nil)))) (ImpX.here ⟨p1x0.X, p1x0.Y, p0x0.X, p0x0.Y, h, rfl⟩)
    · replace h := iteF hc h
      refine ATodo.skip ?_
      refine ATodo.stop ?_
      exact ImpX.lessP (by exact ⟨rfl, rfl, rfl, rfl, True.intro⟩) (.cons (.next (.next .here)) (.cons (.next (.next .here)) (.cons (.next .here) (.cons .here .nil)))) (ImpX.here ⟨p0x0.X, p0x0.Y, p1x0.X, p1x0.Y, h, rfl⟩)
  · rintro σ' ⟨n3, n4, n5, n6, h, rfl⟩
    unfold place_where_2x_j1 at h
    refine ATodo.seq ?_
    refine ATodo.seq ?_
    refine ATodo.cut (fun σ' => ∃ (c7 : Bool), place_where_2x_j2 p3x0 c7 = r ∧ σ' = ⟨35, [(3, .ptr b_3 0), (32, .bool c7)], [(b_2, .cells [I p2x0.X, I p2x0.Y]), (b_3, .cells [.bool p3x0])]⟩) ?_ ?_
    · refine ATodo.region ?_
      refine ARun.qv (n_field_ptr rfl rfl) rfl ?_
      refine ARun.qv (q_load_ptr rfl rfl (.next (.next .here)) rfl) rfl ?_
      refine ARun.qv (n_field_ptr rfl rfl) rfl ?_
      refine ARun.qv (q_load_ptr rfl rfl .here rfl) rfl ?_
      refine ARun.qv (q_leq rfl rfl) rfl ?_
      refine ARun.qv (q_move rfl) rfl ?_
      refine ARun.guard_dt rfl rfl rfl (fun hc => ?_) (fun hc => ?_)
      · rw [andTd hc] at h
        refine ARun.qv (n_field_ptr rfl rfl) rfl ?_
        refine ARun.guard_yes rfl rfl rfl ?_
        refine ARun.qv (q_load_ptr rfl rfl .here rfl) rfl ?_
        refine ARun.guard_yes rfl rfl rfl ?_
        refine ARun.qv (n_field_ptr rfl rfl) rfl ?_
        refine ARun.guard_yes rfl rfl rfl ?_
        refine ARun.qv (q_load_ptr rfl rfl (.next (.next (.next .here))) rfl) rfl ?_
        refine ARun.guard_yes rfl rfl rfl ?_
        refine ARun.qv (q_lss rfl rfl) rfl ?_
        refine ARun.qv (q_pick_t rfl rfl) rfl ?_
        refine ARun.qv (q_move rfl) rfl ?_
        refine ARun.guard_dt rfl rfl rfl (fun hc => ?_) (fun hc => ?_)
        · rw [andTd hc] at h
          refine ARun.qv (q_load_ptr_all rfl rfl (.next (.next .here)) rfl) rfl ?_
          refine ARun.guard_yes rfl rfl rfl ?_
          refine ARun.qv (q_load_ptr_all rfl rfl (.next (.next (.next .here))) rfl) rfl ?_
          refine ARun.guard_yes rfl rfl rfl ?_
          refine ARun.qv (q_load_ptr_all rfl rfl .here rfl) rfl ?_
          refine ARun.guard_yes rfl rfl rfl ?_
          refine r_callp rfl (place_side_c (rfl : place_side (⟨n3, n4⟩ : Spot) (⟨n5, n6⟩ : Spot) p2x0 = _)) (CoL.refl _) rfl ?_
          refine ARun.guard_yes rfl rfl rfl ?_
          refine ARun.qv (q_gtr rfl rfl) rfl ?_
          refine ARun.qv (q_pick_t rfl rfl) rfl ?_
          refine ARun.nil ?_
          refine ATodo.stop ?_
          exact ImpX.lessP (by exact ⟨rfl, rfl, True.intro⟩) (.cons .here (.cons .here .nil)) (ImpX.here ⟨decide ((0 : Int) < (place_side (⟨n3, n4⟩ : Spot) (⟨n5, n6⟩ : Spot) p2x0)), h, rfl⟩)
        · rw [andFd hc] at h
          refine ARun.guard_no rfl rfl rfl rfl ?_
          refine ARun.guard_no rfl rfl rfl rfl ?_
          refine ARun.guard_no rfl rfl rfl rfl ?_
          refine ARun.guard_no rfl rfl rfl rfl ?_
          refine ARun.qv (q_pick_f rfl rfl) rfl ?_
          refine ARun.nil ?_
          refine ATodo.stop ?_
          exact ImpX.lessP (by exact ⟨rfl, rfl, True.intro⟩) (.cons .here (.cons .here .nil)) (ImpX.here ⟨false, h, rfl⟩)
      · rw [andFd hc] at h
        refine ARun.guard_no rfl rfl rfl rfl ?_
        refine ARun.guard_no rfl rfl rfl rfl ?_
        refine ARun.guard_no rfl rfl rfl rfl ?_
        refine ARun.guard_no rfl rfl rfl rfl ?_
        refine ARun.qv (q_pick_f rfl rfl) rfl ?_
        refine ARun.qv (q_move rfl) rfl ?_
        refine ARun.guard_no rfl rfl rfl rfl ?_
        refine ARun.guard_no rfl rfl rfl rfl ?_
        refine ARun.guard_no rfl rfl rfl rfl ?_
        refine ARun.guard_no rfl rfl rfl rfl ?_
        refine ARun.guard_no rfl rfl rfl rfl ?_
        refine ARun.qv (q_pick_f rfl rfl) rfl ?_
        refine ARun.nil ?_
        refine ATodo.stop ?_
        exact ImpX.lessP (by exact ⟨rfl, rfl, True.intro⟩) (.cons .here (.cons .here .nil)) (ImpX.here ⟨false, h, rfl⟩)
    · rintro σ' ⟨c7, h, rfl⟩
      unfold place_where_2x_j2 at h
      refine ATodo.cut (fun σ' => ∃ (c8 : Bool), place_where_2x_j3 c8 = r ∧ σ' = ⟨35, [], [(b_2, .cells [I p2x0.X, I p2x0.Y]), (b_3, .cells [.bool c8])]⟩) ?_ ?_
      · refine ATodo.cond rfl (fun hc => ?_) (fun hc => ?_)
        · replace h := iteT hc h
          refine ATodo.region ?_
          refine ARun.qv (q_load_ptr rfl rfl (.next .here) rfl) rfl ?_
          refine ARun.qv (q_not rfl) rfl ?_
          refine n_store_ptr rfl rfl rfl rfl (.next .here) rfl rfl ?_
          refine ARun.nil ?_
          refine ATodo.stop ?_
          exact ImpX.lessP (by exact True.intro) (.cons .here (.cons .here .nil)) (ImpX.here ⟨!p3x0, h, rfl⟩)
        · replace h := iteFb hc h
          refine ATodo.skip ?_
          refine ATodo.stop ?_
          exact ImpX.lessP (by exact True.intro) (.cons .here (.cons .here .nil)) (ImpX.here ⟨p3x0, h, rfl⟩)
      · rintro σ' ⟨c8, h, rfl⟩
        unfold place_where_2x_j3 at h
        refine ATodo.seq ?_
        refine ATodo.region ?_
        refine ARun.qv (q_assign rfl) rfl ?_
        refine ARun.nil ?_
        refine ATodo.ret ?_
        obtain rfl := h
        exact ImpX.here ⟨_, .cons (.tmp _ _ rfl) .nil, _, .cons .here (.cons .here .nil), ⟨rfl, rfl⟩⟩

set_option maxHeartbeats 4000000 in
theorem place_edges_f1x_place_where_2x_c {b_2 : Bk} {b_3 : Bk} {p0x0 : List Spot} {p2x0 : Spot} {p3x0 : Bool} {r : Bool × Bool} (h : place_edges_f1x_place_where_2x p0x0 p2x0 p3x0 = some r) : ACall Try.prog 183 [.list 2 (p0x0.map Spot.av), .func (.func 228) [.ptr b_2 0, .ptr b_3 0]] [(b_2, .cells [I p2x0.X, I p2x0.Y]), (b_3, .cells [.bool p3x0])] (T0 ([(b_2, .cells [I p2x0.X, I p2x0.Y]), (b_3, .cells [.bool r.2])]) (.bool r.1)) := by
  unfold place_edges_f1x_place_where_2x at h
  refine ACall.lessH ?_
  refine ACall.bodyN Try.func183 rfl Try.ntmps183 Try.results183 rfl rfl ?_
  refine ATodo.seq ?_
  refine ATodo.region ?_
  refine ARun.qv (q_assign rfl) rfl ?_
  refine ARun.nil ?_
  refine ATodo.seq ?_
  refine ATodo.seq ?_
  refine ATodo.region ?_
  refine ARun.qv (q_move rfl) rfl ?_
  refine ARun.qv (t_len rfl) rfl ?_
  refine ARun.qv (q_move rfl) rfl ?_
  refine ARun.nil ?_
  refine ATodo.block ?_
  refine ATodo.loopI (fun x : Bool × Int => place_edges_f1x_place_where_2x_b1 p0x0 p2x0 x.1 x.2) (fun x σ' => σ' = ⟨26, [(0, .list 2 (p0x0.map Spot.av)), (1, .func (.func 228) [.ptr b_2 0, .ptr b_3 0]), (7, .list 2 (p0x0.map Spot.av)), (8, I (p0x0.length : Int)), (9, I x.2)], [(b_2, .cells [I p2x0.X, I p2x0.Y]), (b_3, .cells [.bool x.1])]⟩) h ?_ ?_
  · exact ImpX.lessP (by exact ⟨rfl, rfl, rfl, rfl, rfl, True.intro⟩) (.cons .here (.cons .here .nil)) (ImpX.here rfl)
  · intro x z1 σ' J1 hmk h hJ1 hA1
    obtain ⟨c3, n4⟩ := x
    obtain rfl := hmk
    replace h : place_edges_f1x_place_where_2x_b1 p0x0 p2x0 c3 n4 = some z1 := h
    unfold place_edges_f1x_place_where_2x_b1 at h
    refine ATodo.seq ?_
    refine ATodo.region ?_
    refine ARun.qv (q_lss rfl rfl) rfl ?_
    refine ARun.nil ?_
    refine ATodo.seq ?_
    refine ATodo.cond_d rfl (fun hc => ?_) (fun hc => ?_)
    · replace h := iteT hc h
      refine ATodo.skip ?_
      refine ATodo.seq ?_
      refine ATodo.block ?_
      refine ATodo.seq ?_
      refine ATodo.region ?_
      refine ARun.qv (q_move rfl) rfl ?_
      obtain ⟨v5, e1, h⟩ := bnd h
      refine ARun.qv (t_index rfl rfl rfl e1 rfl rfl) rfl ?_
      refine ARun.qv (q_load_rptr_agg rfl rfl rfl) rfl ?_
      refine n_alloc rfl rfl rfl rfl (fun b6 => ?_)
      refine ARun.qv (q_assign rfl) rfl ?_
      refine n_store_ptr rfl rfl rfl rfl .here rfl rfl ?_
      refine ARun.nil ?_
      refine ATodo.seq ?_
      refine ATodo.regionM (id := 4) (A := [0, 0, 0, 0, 8, 0, 32, 120, 252, 508, 1023]) 10 mixed rfl (by kernel_rfl) (by kernel_rfl) ?_
      refine AM.qv (q_move rfl) rfl ?_
      refine AM.qv (q_load_ptr_all rfl rfl .here rfl) rfl ?_
      refine AM.qv (q_move rfl) rfl ?_
      refine AM.qv (q_move rfl) rfl ?_
      refine AM.qv (q_addw rfl rfl) rfl ?_
      refine AM.qv (q_move rfl) rfl ?_
      refine AM.qv (t_len rfl) rfl ?_
      obtain ⟨n7, e2, h⟩ := bnd h
      refine AM.qv (t_remS rfl rfl e2) rfl ?_
      obtain ⟨v8, e3, h⟩ := bnd h
      refine AM.qv (t_index rfl rfl rfl e3 rfl rfl) rfl ?_
      refine AM.qv (q_load_rptr_agg rfl rfl rfl) rfl ?_
      refine AM.nil ?_
      refine t_callv0 rfl rfl rfl (place_where_2x_c rfl) (CoL.refl _) (.cons (.next .here) (.cons (.next .here) .nil)) rfl rfl ?_
      refine ARun.nil ?_
      refine ATodo.cond rfl (fun hc => ?_) (fun hc => ?_)
      · replace h := iteT hc h
        refine ATodo.seq ?_
        refine ATodo.region ?_
        refine ARun.qv (q_assign rfl) rfl ?_
        refine ARun.nil ?_
        refine ATodo.ret ?_
        replace h := outL h hA1
        obtain rfl := Option.some.inj h
        exact ImpX.here ⟨_, .cons (.tmp _ _ rfl) .nil, _, .cons .here (.cons .here .nil), ⟨rfl, rfl⟩⟩
      · replace h := iteFb hc h
        refine ATodo.skip ?_
        refine ATodo.blk ?_
        refine ATodo.region ?_
        refine ARun.qv (q_addw rfl rfl) rfl ?_
        refine ARun.qv (q_move rfl) rfl ?_
        refine ARun.nil ?_
        refine ATodo.stop ?_
        obtain rfl := Option.some.inj h
        refine hJ1 _ _ rfl ?_
        exact ImpX.lessP (by exact ⟨rfl, rfl, rfl, rfl, rfl, True.intro⟩) (.cons .here (.cons .here .nil)) (ImpX.here rfl)
    · replace h := iteF hc h
      refine ATodo.exit rfl ?_
      replace h := outL h hA1
      refine ATodo.seq ?_
      refine ATodo.region ?_
      refine ARun.qv (q_assign rfl) rfl ?_
      refine ARun.nil ?_
      refine ATodo.ret ?_
      obtain rfl := Option.some.inj h
      exact ImpX.here ⟨_, .cons (.tmp _ _ rfl) .nil, _, .cons .here (.cons .here .nil), ⟨rfl, rfl⟩⟩

set_option maxHeartbeats 4000000 in
theorem place_where_c {p0x0 : List Spot} {p1x0 : Spot} {r : Int} (h : place_where p0x0 p1x0 = some r) : Pu Try.prog 187 [.list 2 (p0x0.map Spot.av), .agg [I p1x0.X, I p1x0.Y]] (I r) := by
  unfold place_where at h
  refine ACall.bodyN Try.func187 rfl Try.ntmps187 Try.results187 rfl rfl ?_
  refine ATodo.seq ?_
  refine ATodo.region ?_
  refine n_box rfl rfl rfl rfl (fun b1 => ?_)
  refine ARun.qv (q_assign rfl) rfl ?_
  refine ARun.nil ?_
  refine ATodo.seq ?_
  refine ATodo.seq ?_
  refine ATodo.region ?_
  refine ARun.qv (q_move rfl) rfl ?_
  refine ARun.qv (q_makeFunc rfl) rfl ?_
  obtain ⟨v2, e1, h⟩ := bnd h
  refine r_callpB rfl (place_edges_c (fun e => place_where_1x_c (Option.some.inj e)) e1) (.cons (.co (.refl _)) (.cons (.funcL _ _ _ (.cons (.boxL _ _ _ .here (.cons (.co (.refl _)) (.cons (.co (.refl _)) .nil))) .nil)) .nil)) rfl rfl ?_
  refine ARun.nil ?_
  refine ATodo.cond rfl (fun hc => ?_) (fun hc => ?_)
  · replace h := iteT hc h
    refine ATodo.seq ?_
    refine ATodo.region ?_
    refine ARun.qv (q_assign rfl) rfl ?_
    refine ARun.nil ?_
    refine ATodo.ret ?_
    obtain rfl := Option.some.inj h
    exact ImpX.here ⟨_, .cons (.tmp _ _ rfl) .nil, rfl⟩
  · replace h := iteFb hc h
    refine ATodo.skip ?_
    refine ATodo.seq ?_
    refine ATodo.region ?_
    refine n_alloc rfl rfl rfl rfl (fun b3 => ?_)
    refine n_store_ptr rfl rfl rfl rfl .here rfl rfl ?_
    refine ARun.nil ?_
    refine ATodo.seq ?_
    refine ATodo.region ?_
    refine ARun.qv (q_move rfl) rfl ?_
    refine ARun.qv (q_makeFunc rfl) rfl ?_
    obtain ⟨v4, e2, h⟩ := bnd h
    refine t_call0 rfl (place_edges_f1x_place_where_2x_c e2) (CoL.refl _) (.cons (.next .here) (.cons .here .nil)) rfl rfl ?_
    refine ARun.nil ?_
    refine ATodo.seq ?_
    refine ATodo.seq ?_
    refine ATodo.region ?_
    refine ARun.qv (q_load_ptr rfl rfl (.next .here) rfl) rfl ?_
    refine ARun.nil ?_
    refine ATodo.cond rfl (fun hc => ?_) (fun hc => ?_)
    · replace h := iteT hc h
      refine ATodo.seq ?_
      refine ATodo.region ?_
      refine ARun.qv (q_assign rfl) rfl ?_
      refine ARun.nil ?_
      refine ATodo.ret ?_
      obtain rfl := Option.some.inj h
      exact ImpX.here ⟨_, .cons (.tmp _ _ rfl) .nil, rfl⟩
    · replace h := iteFb hc h
      refine ATodo.skip ?_
      refine ATodo.seq ?_
      refine ATodo.region ?_
      refine ARun.qv (q_assign rfl) rfl ?_
      refine ARun.nil ?_
      refine ATodo.ret ?_
      obtain rfl := Option.some.inj h
      exact ImpX.here ⟨_, .cons (.tmp _ _ rfl) .nil, rfl⟩

set_option maxHeartbeats 4000000 in
theorem place_surely_c {p0x0 : List Spot} {p1x0 : Fix} {r : Int} (h : place_surely p0x0 p1x0 = some r) : Pu Try.prog 96 [.list 2 (p0x0.map Spot.av), .agg [.str p1x0.Device, I p1x0.At, I p1x0.X, I p1x0.Y, I p1x0.Error]] (I r) := by
  unfold place_surely at h
  refine ACall.bodyN Try.func96 rfl Try.ntmps96 Try.results96 rfl rfl ?_
  refine ATodo.seq ?_
  refine ATodo.region ?_
  refine n_box rfl rfl rfl rfl (fun b1 => ?_)
  refine ARun.qv (q_assign rfl) rfl ?_
  refine ARun.nil ?_
  refine ATodo.seq ?_
  refine ATodo.region ?_
  refine ARun.qv (n_field_ptr rfl rfl) rfl ?_
  refine ARun.qv (q_load_ptr rfl rfl .here rfl) rfl ?_
  refine ARun.qv (n_field_ptr rfl rfl) rfl ?_
  refine ARun.qv (q_load_ptr rfl rfl .here rfl) rfl ?_
  refine ARun.qv (n_build rfl rfl rfl rfl rfl) rfl ?_
  refine n_alloc rfl rfl rfl rfl (fun b2 => ?_)
  refine n_store_ptr rfl rfl rfl rfl .here rfl rfl ?_
  refine ARun.nil ?_
  refine ATodo.seq ?_
  refine ATodo.region ?_
  refine ARun.qv (q_move rfl) rfl ?_
  refine ARun.qv (q_load_ptr_all rfl rfl .here rfl) rfl ?_
  obtain ⟨v3, e1, h⟩ := bnd h
  refine r_callp rfl (place_where_c e1) (CoL.refl _) rfl ?_
  refine ARun.qv (q_assign rfl) rfl ?_
  refine ARun.nil ?_
  refine ATodo.seq ?_
  refine ATodo.seq ?_
  refine ATodo.cut (fun σ' => ∃ (c4 : Bool), place_surely_j1 v3 c4 = some r ∧ σ' = ⟨31, [(6, I v3), (29, .bool c4)], []⟩) ?_ ?_
  · refine ATodo.regionM (id := 3) (A := [0, 1, 3, 7, 15, 7, 39, 127, 255, 7, 7, 1543, 4095, 8191, 16383]) 15 mixed rfl (by kernel_rfl) (by kernel_rfl) ?_
    refine AM.qv (q_move rfl) rfl ?_
    refine AM.qv (q_eql rfl rfl) rfl ?_
    refine AM.qv (q_move rfl) rfl ?_
    refine AM.guard_df rfl rfl rfl (fun hc => ?_) (fun hc => ?_)
    · replace h := iteF hc h
      refine AM.qv (n_field_ptr rfl rfl) rfl ?_
      refine AM.guard_yes rfl rfl rfl ?_
      refine AM.qv (q_load_ptr rfl rfl (.next .here) rfl) rfl ?_
      refine AM.guard_yes rfl rfl rfl ?_
      refine AM.qv (n_field_ptr rfl rfl) rfl ?_
      refine AM.guard_yes rfl rfl rfl ?_
      refine AM.qv (q_load_ptr rfl rfl (.next .here) rfl) rfl ?_
      refine AM.guard_yes rfl rfl rfl ?_
      refine AM.qv (q_mulw rfl rfl) rfl ?_
      refine AM.guard_yes rfl rfl rfl ?_
      refine AM.qv (n_build rfl rfl rfl rfl rfl) rfl ?_
      refine AM.guard_yes rfl rfl rfl ?_
      refine AM.qv (q_move rfl) rfl ?_
      refine AM.guard_yes rfl rfl rfl ?_
      refine AM.qv (q_load_ptr_all rfl rfl .here rfl) rfl ?_
      refine AM.guard_yes rfl rfl rfl ?_
      obtain ⟨v5, e2, h⟩ := bnd h
      refine AM.callp rfl (place_farOf_c e2) (CoL.refl _) rfl ?_
      refine AM.guard_yes rfl rfl rfl ?_
      refine AM.callp rfl (place_less_c (rfl : place_less (⟨w64 (p1x0.Error * p1x0.Error), (1 : Int)⟩ : Fraction) v5 = _)) (CoL.refl _) rfl ?_
      refine AM.guard_yes rfl rfl rfl ?_
      refine AM.qv (q_not rfl) rfl ?_
      refine AM.qv (q_pick_f rfl rfl) rfl ?_
      refine AM.nil ?_
      refine ARun.nil ?_
      refine ATodo.stop ?_
      exact ImpX.lessP (by exact ⟨rfl, rfl, True.intro⟩) (.nil) (ImpX.here ⟨!(place_less (⟨w64 (p1x0.Error * p1x0.Error), (1 : Int)⟩ : Fraction) v5), h, rfl⟩)
    · replace h := iteT hc h
      refine AM.guard_no rfl rfl rfl rfl ?_
      refine AM.guard_no rfl rfl rfl rfl ?_
      refine AM.guard_no rfl rfl rfl rfl ?_
      refine AM.guard_no rfl rfl rfl rfl ?_
      refine AM.guard_no rfl rfl rfl rfl ?_
      refine AM.guard_no rfl rfl rfl rfl ?_
      refine AM.guard_no rfl rfl rfl rfl ?_
      refine AM.guard_no rfl rfl rfl rfl ?_
      refine AM.guard_no rfl rfl rfl rfl ?_
      refine AM.guard_no rfl rfl rfl rfl ?_
      refine AM.qv (q_pick_t rfl rfl) rfl ?_
      refine AM.nil ?_
      refine ARun.nil ?_
      refine ATodo.stop ?_
      exact ImpX.lessP (by exact ⟨rfl, rfl, True.intro⟩) (.nil) (ImpX.here ⟨true, h, rfl⟩)
  · rintro σ' ⟨c4, h, rfl⟩
    unfold place_surely_j1 at h
    refine ATodo.cond rfl (fun hc => ?_) (fun hc => ?_)
    · replace h := iteT hc h
      refine ATodo.seq ?_
      refine ATodo.region ?_
      refine ARun.qv (q_assign rfl) rfl ?_
      refine ARun.nil ?_
      refine ATodo.ret ?_
      obtain rfl := Option.some.inj h
      exact ImpX.here ⟨_, .cons (.tmp _ _ rfl) .nil, rfl⟩
    · replace h := iteFb hc h
      refine ATodo.skip ?_
      refine ATodo.seq ?_
      refine ATodo.region ?_
      refine ARun.qv (q_move rfl) rfl ?_
      refine ARun.qv (q_assign rfl) rfl ?_
      refine ARun.nil ?_
      refine ATodo.ret ?_
      obtain rfl := Option.some.inj h
      exact ImpX.here ⟨_, .cons (.tmp _ _ rfl) .nil, rfl⟩

set_option maxHeartbeats 4000000 in
theorem place_Surely_c {p0x0 : FenceS} {p1x0 : Fix} {r : Int × Int} (h : place_Surely p0x0 p1x0 = some r) : Pu Try.prog 17 [.agg [.str p0x0.Key, .list 2 (p0x0.Corners.map Spot.av)], .agg [.str p1x0.Device, I p1x0.At, I p1x0.X, I p1x0.Y, I p1x0.Error]] (.tup [I r.1, I r.2]) := by
  unfold place_Surely at h
  refine ACall.bodyN Try.func17 rfl Try.ntmps17 Try.results17 rfl rfl ?_
  refine ATodo.seq ?_
  refine ATodo.region ?_
  refine n_box rfl rfl rfl rfl (fun b1 => ?_)
  refine n_box rfl rfl rfl rfl (fun b2 => ?_)
  refine ARun.qv (q_assign rfl) rfl ?_
  refine ARun.qv (q_assign rfl) rfl ?_
  refine ARun.nil ?_
  refine ATodo.seq ?_
  refine ATodo.seq ?_
  refine ATodo.regionM (id := 1) (A := [0, 1, 0, 4, 15, 31, 63, 127]) 8 mixed rfl (by kernel_rfl) (by kernel_rfl) ?_
  refine AM.qv (q_load_ptr_all rfl rfl (.next .here) rfl) rfl ?_
  obtain ⟨v3, e1, h⟩ := bnd h
  refine AM.callp rfl (place_CheckFence_c e1) (CoL.refl _) rfl ?_
  refine AM.qv (q_load_ptr_all rfl rfl .here rfl) rfl ?_
  refine AM.buildSliceL (xs := ([p1x0] : List Fix).map Fix.av) rfl rfl rfl rfl rfl rfl ?_
  obtain ⟨v4, e2, h⟩ := bnd h
  refine AM.callp rfl (place_CheckFixes_c e2) (CoL.refl _) rfl ?_
  refine AM.buildSliceL (xs := ([v3, v4] : List Int).map I) rfl rfl rfl rfl rfl rfl ?_
  obtain ⟨v5, e3, h⟩ := bnd h
  refine AM.callp rfl (base_First_c e3) (CoL.refl _) rfl ?_
  refine AM.qv (q_assign rfl) rfl ?_
  refine AM.nil ?_
  refine ARun.nil ?_
  refine ATodo.seq ?_
  refine ATodo.region ?_
  refine ARun.qv (q_move rfl) rfl ?_
  refine ARun.qv (q_neq rfl rfl) rfl ?_
  refine ARun.nil ?_
  refine ATodo.cond_d rfl (fun hc => ?_) (fun hc => ?_)
  · replace h := iteT hc h
    refine ATodo.seq ?_
    refine ATodo.region ?_
    refine ARun.qv (q_move rfl) rfl ?_
    refine ARun.qv (q_assign rfl) rfl ?_
    refine ARun.qv (q_assign rfl) rfl ?_
    refine ARun.nil ?_
    refine ATodo.ret ?_
    obtain rfl := Option.some.inj h
    exact ImpX.here ⟨_, .cons (.tmp _ _ rfl) (.cons (.tmp _ _ rfl) .nil), rfl⟩
  · replace h := iteF hc h
    refine ATodo.skip ?_
    refine ATodo.seq ?_
    refine ATodo.region ?_
    refine ARun.qv (n_field_ptr rfl rfl) rfl ?_
    refine ARun.qv (q_load_ptr rfl rfl (.next .here) rfl) rfl ?_
    refine ARun.qv (q_load_ptr_all rfl rfl .here rfl) rfl ?_
    obtain ⟨v6, e4, h⟩ := bnd h
    refine r_callp rfl (place_surely_c e4) (CoL.refl _) rfl ?_
    refine ARun.qv (q_assign rfl) rfl ?_
    refine ARun.qv (q_assign rfl) rfl ?_
    refine ARun.nil ?_
    refine ATodo.ret ?_
    obtain rfl := Option.some.inj h
    exact ImpX.here ⟨_, .cons (.tmp _ _ rfl) (.cons (.tmp _ _ rfl) .nil), rfl⟩

set_option maxHeartbeats 4000000 in
theorem Q_only_c {p0x0 : Str} {p1x0 : Str} {r : Bool} (h : Q_only p0x0 p1x0 = some r) : Pu Try.prog 129 [.str p0x0, .str p1x0] (.bool r) := by
  unfold Q_only at h
  refine ACall.bodyN Try.func129 rfl Try.ntmps129 Try.results129 rfl rfl ?_
  refine ATodo.seq ?_
  refine ATodo.region ?_
  refine ARun.qv (q_assign rfl) rfl ?_
  refine ARun.nil ?_
  refine ATodo.seq ?_
  refine ATodo.seq ?_
  refine ATodo.region ?_
  refine ARun.qv (q_move rfl) rfl ?_
  refine ARun.qv (q_len_str rfl) rfl ?_
  refine ARun.qv (q_move rfl) rfl ?_
  refine ARun.nil ?_
  refine ATodo.block ?_
  refine ATodo.loopI (fun x : Int => Q_only_b1 p0x0 p1x0 x) (fun x σ' => σ' = ⟨18, [(0, .str p0x0), (1, .str p1x0), (7, I (p0x0.length : Int)), (8, I x)], []⟩) h ?_ ?_
  · exact ImpX.lessP (by exact ⟨rfl, rfl, rfl, rfl, True.intro⟩) (.nil) (ImpX.here rfl)
  · intro n2 z1 σ' J1 hmk h hJ1 hA1
    obtain rfl := hmk
    replace h : Q_only_b1 p0x0 p1x0 n2 = some z1 := h
    unfold Q_only_b1 at h
    refine ATodo.seq ?_
    refine ATodo.region ?_
    refine ARun.qv (q_lss rfl rfl) rfl ?_
    refine ARun.nil ?_
    refine ATodo.seq ?_
    refine ATodo.cond_d rfl (fun hc => ?_) (fun hc => ?_)
    · replace h := iteT hc h
      refine ATodo.skip ?_
      refine ATodo.seq ?_
      refine ATodo.block ?_
      refine ATodo.seq ?_
      refine ATodo.region ?_
      refine ARun.qv (q_move rfl) rfl ?_
      refine ARun.qv (q_assign rfl) rfl ?_
      refine ARun.nil ?_
      refine ATodo.seq ?_
      refine ATodo.region ?_
      refine ARun.qv (q_move rfl) rfl ?_
      refine ARun.qv (q_move rfl) rfl ?_
      refine ARun.qv (q_move rfl) rfl ?_
      obtain ⟨c3, e1, h⟩ := bnd h
      refine ARun.qv (t_index_str rfl rfl e1) rfl ?_
      refine r_callp rfl (strings_IndexByte_c rfl) (CoL.refl _) rfl ?_
      refine ARun.qv (q_lss rfl rfl) rfl ?_
      refine ARun.nil ?_
      refine ATodo.cond_d rfl (fun hc => ?_) (fun hc => ?_)
      · replace h := iteT hc h
        refine ATodo.seq ?_
        refine ATodo.region ?_
        refine ARun.qv (q_assign rfl) rfl ?_
        refine ARun.nil ?_
        refine ATodo.ret ?_
        replace h := outL h hA1
        obtain rfl := Option.some.inj h
        exact ImpX.here ⟨_, .cons (.tmp _ _ rfl) .nil, rfl⟩
      · replace h := iteF hc h
        refine ATodo.skip ?_
        refine ATodo.blk ?_
        refine ATodo.region ?_
        refine ARun.qv (q_addw rfl rfl) rfl ?_
        refine ARun.qv (q_move rfl) rfl ?_
        refine ARun.nil ?_
        refine ATodo.stop ?_
        obtain rfl := Option.some.inj h
        refine hJ1 _ _ rfl ?_
        exact ImpX.lessP (by exact ⟨rfl, rfl, rfl, rfl, True.intro⟩) (.nil) (ImpX.here rfl)
    · replace h := iteF hc h
      refine ATodo.exit rfl ?_
      replace h := outL h hA1
      refine ATodo.seq ?_
      refine ATodo.region ?_
      refine ARun.qv (q_assign rfl) rfl ?_
      refine ARun.nil ?_
      refine ATodo.ret ?_
      obtain rfl := Option.some.inj h
      exact ImpX.here ⟨_, .cons (.tmp _ _ rfl) .nil, rfl⟩

set_option maxHeartbeats 4000000 in
theorem Q_Key_c {p0x0 : Str} {r : Bool} (h : Q_Key p0x0 = some r) : Pu Try.prog 44 [.str p0x0] (.bool r) := by
  unfold Q_Key at h
  refine ACall.bodyN Try.func44 rfl Try.ntmps44 Try.results44 rfl rfl ?_
  refine ATodo.seq ?_
  refine ATodo.region ?_
  refine ARun.qv (q_assign rfl) rfl ?_
  refine ARun.nil ?_
  refine ATodo.seq ?_
  refine ATodo.cut (fun σ' => ∃ (c1 : Bool), Q_Key_j1 c1 = some r ∧ σ' = ⟨15, [(2, .bool c1)], []⟩) ?_ ?_
  · refine ATodo.region ?_
    refine ARun.qv (q_move rfl) rfl ?_
    refine ARun.qv (q_len_str rfl) rfl ?_
    refine r_callp rfl (Q_in_c rfl) (CoL.refl _) rfl ?_
    refine ARun.qv (q_move rfl) rfl ?_
    refine ARun.guard rfl rfl rfl (fun hc => ?_) (fun hc => ?_)
    · replace h := iteT hc h
      refine ARun.qv (q_move rfl) rfl ?_
      refine ARun.guard_yes rfl rfl rfl ?_
      obtain ⟨l2, e1, h⟩ := bnd h
      refine ARun.qv (t_slice_str rfl .none (.some _ _ _ rfl) rfl rfl e1) rfl ?_
      refine ARun.guard_yes rfl rfl rfl ?_
      obtain ⟨v3, e2, h⟩ := bnd h
      refine r_callp rfl (Q_only_c e2) (CoL.refl _) rfl ?_
      refine ARun.qv (q_pick_t rfl rfl) rfl ?_
      refine ARun.qv (q_move rfl) rfl ?_
      refine ARun.guard rfl rfl rfl (fun hc => ?_) (fun hc => ?_)
      · replace h := iteT hc h
        refine ARun.qv (q_move rfl) rfl ?_
        refine ARun.guard_yes rfl rfl rfl ?_
        obtain ⟨v4, e3, h⟩ := bnd h
        refine r_callp rfl (Q_only_c e3) (CoL.refl _) rfl ?_
        refine ARun.qv (q_pick_t rfl rfl) rfl ?_
        refine ARun.qv (q_assign rfl) rfl ?_
        refine ARun.nil ?_
        refine ATodo.stop ?_
        exact ImpX.lessP (by exact ⟨rfl, True.intro⟩) (.nil) (ImpX.here ⟨v4, h, rfl⟩)
      · replace h := iteFb hc h
        refine ARun.guard_no rfl rfl rfl rfl ?_
        refine ARun.qv (q_pick_f rfl rfl) rfl ?_
        refine ARun.qv (q_assign rfl) rfl ?_
        refine ARun.nil ?_
        refine ATodo.stop ?_
        exact ImpX.lessP (by exact ⟨rfl, True.intro⟩) (.nil) (ImpX.here ⟨false, h, rfl⟩)
    · replace h := iteFb hc h
      refine ARun.guard_no rfl rfl rfl rfl ?_
      refine ARun.guard_no rfl rfl rfl rfl ?_
      refine ARun.qv (q_pick_f rfl rfl) rfl ?_
      refine ARun.qv (q_move rfl) rfl ?_
      refine ARun.guard_no rfl rfl rfl rfl ?_
      refine ARun.guard_no rfl rfl rfl rfl ?_
      refine ARun.qv (q_pick_f rfl rfl) rfl ?_
      refine ARun.qv (q_assign rfl) rfl ?_
      refine ARun.nil ?_
      refine ATodo.stop ?_
      exact ImpX.lessP (by exact ⟨rfl, True.intro⟩) (.nil) (ImpX.here ⟨false, h, rfl⟩)
  · rintro σ' ⟨c1, h, rfl⟩
    unfold Q_Key_j1 at h
    refine ATodo.ret ?_
    obtain rfl := Option.some.inj h
    exact ImpX.here ⟨_, .cons (.tmp _ _ rfl) .nil, rfl⟩

set_option maxHeartbeats 4000000 in
theorem Q_FenceFault_c {p0x0 : FenceS} {r : Int} (h : Q_FenceFault p0x0 = some r) : Pu Try.prog 18 [.agg [.str p0x0.Key, .list 2 (p0x0.Corners.map Spot.av)]] (I r) := by
  unfold Q_FenceFault at h
  refine ACall.bodyN Try.func18 rfl Try.ntmps18 Try.results18 rfl rfl ?_
  refine ATodo.seq ?_
  refine ATodo.region ?_
  refine n_box rfl rfl rfl rfl (fun b1 => ?_)
  refine ARun.qv (q_assign rfl) rfl ?_
  refine ARun.nil ?_
  refine ATodo.seq ?_
  refine ATodo.seq ?_
  refine ATodo.region ?_
  refine ARun.qv (n_field_ptr rfl rfl) rfl ?_
  refine ARun.qv (q_load_ptr rfl rfl .here rfl) rfl ?_
  obtain ⟨v2, e1, h⟩ := bnd h
  refine r_callp rfl (Q_Key_c e1) (CoL.refl _) rfl ?_
  refine ARun.qv (q_not rfl) rfl ?_
  refine ARun.nil ?_
  refine ATodo.cond rfl (fun hc => ?_) (fun hc => ?_)
  · replace h := iteT hc h
    refine ATodo.seq ?_
    refine ATodo.region ?_
    refine ARun.qv (q_assign rfl) rfl ?_
    refine ARun.nil ?_
    refine ATodo.ret ?_
    obtain rfl := Option.some.inj h
    exact ImpX.here ⟨_, .cons (.tmp _ _ rfl) .nil, rfl⟩
  · replace h := iteFb hc h
    refine ATodo.skip ?_
    refine ATodo.seq ?_
    refine ATodo.region ?_
    refine ARun.qv (n_field_ptr rfl rfl) rfl ?_
    refine ARun.qv (q_load_ptr rfl rfl .here rfl) rfl ?_
    obtain ⟨v3, e2, h⟩ := bnd h
    refine r_callp rfl (Q_CornersFault_c e2) (CoL.refl _) rfl ?_
    refine ARun.qv (q_assign rfl) rfl ?_
    refine ARun.nil ?_
    refine ATodo.ret ?_
    obtain rfl := Option.some.inj h
    exact ImpX.here ⟨_, .cons (.tmp _ _ rfl) .nil, rfl⟩

set_option maxHeartbeats 4000000 in
theorem L_errs_c {p0x0 : List Int} {r : Int} (h : L_errs p0x0 = some r) : Pu Try.prog 19 [.list 1 (p0x0.map I)] (I r) := by
  unfold L_errs at h
  refine ACall.bodyN Try.func19 rfl Try.ntmps19 Try.results19 rfl rfl ?_
  refine ATodo.seq ?_
  refine ATodo.region ?_
  refine ARun.qv (q_assign rfl) rfl ?_
  refine ARun.nil ?_
  refine ATodo.seq ?_
  refine ATodo.seq ?_
  refine ATodo.region ?_
  refine ARun.qv (q_move rfl) rfl ?_
  refine ARun.qv (t_len rfl) rfl ?_
  refine ARun.qv (q_move rfl) rfl ?_
  refine ARun.nil ?_
  refine ATodo.block ?_
  refine ATodo.loopI (fun x : Int => L_errs_b1 p0x0 x) (fun x σ' => σ' = ⟨15, [(5, .list 1 (p0x0.map I)), (6, I (p0x0.length : Int)), (7, I x)], []⟩) h ?_ ?_
  · exact ImpX.lessP (by exact ⟨rfl, rfl, rfl, True.intro⟩) (.nil) (ImpX.here rfl)
  · intro n2 z1 σ' J1 hmk h hJ1 hA1
    obtain rfl := hmk
    replace h : L_errs_b1 p0x0 n2 = some z1 := h
    unfold L_errs_b1 at h
    refine ATodo.seq ?_
    refine ATodo.region ?_
    refine ARun.qv (q_lss rfl rfl) rfl ?_
    refine ARun.nil ?_
    refine ATodo.seq ?_
    refine ATodo.cond_d rfl (fun hc => ?_) (fun hc => ?_)
    · replace h := iteT hc h
      refine ATodo.skip ?_
      refine ATodo.seq ?_
      refine ATodo.block ?_
      refine ATodo.seq ?_
      refine ATodo.region ?_
      obtain ⟨v3, e1, h⟩ := bnd h
      refine ARun.qv (t_index rfl rfl rfl e1 rfl rfl) rfl ?_
      refine ARun.qv (q_load_rptr rfl rfl rfl) rfl ?_
      refine ARun.qv (q_assign rfl) rfl ?_
      refine ARun.nil ?_
      refine ATodo.seq ?_
      refine ATodo.region ?_
      refine ARun.qv (q_move rfl) rfl ?_
      refine ARun.qv (q_neq rfl rfl) rfl ?_
      refine ARun.nil ?_
      refine ATodo.cond_d rfl (fun hc => ?_) (fun hc => ?_)
      · replace h := iteT hc h
        refine ATodo.seq ?_
        refine ATodo.region ?_
        refine ARun.qv (q_move rfl) rfl ?_
        refine ARun.qv (q_assign rfl) rfl ?_
        refine ARun.nil ?_
        refine ATodo.ret ?_
        replace h := outL h hA1
        obtain rfl := Option.some.inj h
        exact ImpX.here ⟨_, .cons (.tmp _ _ rfl) .nil, rfl⟩
      · replace h := iteF hc h
        refine ATodo.skip ?_
        refine ATodo.blk ?_
        refine ATodo.region ?_
        refine ARun.qv (q_addw rfl rfl) rfl ?_
        refine ARun.qv (q_move rfl) rfl ?_
        refine ARun.nil ?_
        refine ATodo.stop ?_
        obtain rfl := Option.some.inj h
        refine hJ1 _ _ rfl ?_
        exact ImpX.lessP (by exact ⟨rfl, rfl, rfl, True.intro⟩) (.nil) (ImpX.here rfl)
    · replace h := iteF hc h
      refine ATodo.exit rfl ?_
      replace h := outL h hA1
      refine ATodo.seq ?_
      refine ATodo.region ?_
      refine ARun.qv (q_assign rfl) rfl ?_
      refine ARun.nil ?_
      refine ATodo.ret ?_
      obtain rfl := Option.some.inj h
      exact ImpX.here ⟨_, .cons (.tmp _ _ rfl) .nil, rfl⟩

set_option maxHeartbeats 4000000 in
theorem Q_Moment_c {p0x0 : Int} {r : Bool} (h : Q_Moment p0x0 = r) : Pu Try.prog 99 [I p0x0] (.bool r) := by
  unfold Q_Moment at h
  refine ACall.bodyN Try.func99 rfl Try.ntmps99 Try.results99 rfl rfl ?_
  refine ATodo.seq ?_
  refine ATodo.region ?_
  refine ARun.qv (q_assign rfl) rfl ?_
  refine ARun.nil ?_
  refine ATodo.seq ?_
  refine ATodo.region ?_
  refine ARun.qv (q_move rfl) rfl ?_
  refine r_callp rfl (Q_in_c rfl) (CoL.refl _) rfl ?_
  refine ARun.qv (q_assign rfl) rfl ?_
  refine ARun.nil ?_
  refine ATodo.ret ?_
  obtain rfl := h
  exact ImpX.here ⟨_, .cons (.tmp _ _ rfl) .nil, rfl⟩

set_option maxHeartbeats 4000000 in
theorem Q_spotOf_c {p0x0 : Fix} {r : Spot} (h : Q_spotOf p0x0 = r) : Pu Try.prog 100 [.agg [.str p0x0.Device, I p0x0.At, I p0x0.X, I p0x0.Y, I p0x0.Error]] (.agg [I r.X, I r.Y]) := by
  unfold Q_spotOf at h
  refine ACall.bodyN Try.func100 rfl Try.ntmps100 Try.results100 rfl rfl ?_
  refine ATodo.seq ?_
  refine ATodo.region ?_
  refine n_box rfl rfl rfl rfl (fun b1 => ?_)
  refine n_alloc rfl rfl rfl rfl (fun b2 => ?_)
  refine ARun.nil ?_
  refine ATodo.seq ?_
  refine ATodo.region ?_
  refine ARun.qv (n_field_ptr rfl rfl) rfl ?_
  refine ARun.qv (q_load_ptr rfl rfl (.next .here) rfl) rfl ?_
  refine ARun.qv (n_field_ptr rfl rfl) rfl ?_
  refine ARun.qv (q_load_ptr rfl rfl (.next .here) rfl) rfl ?_
  refine ARun.qv (n_build rfl rfl rfl rfl rfl) rfl ?_
  refine n_store_ptr rfl rfl rfl rfl .here rfl rfl ?_
  refine ARun.nil ?_
  refine ATodo.ret ?_
  obtain rfl := h
  exact ImpX.here ⟨_, .cons (.all _ _ _ _ _ _ rfl .here TUnder.h TInfo.h rfl rfl) .nil, rfl⟩

set_option maxHeartbeats 4000000 in
theorem Q_FixOrder_c {p0x0 : Fix} {p1x0 : Fix} {r : Int} (h : Q_FixOrder p0x0 p1x0 = r) : Pu Try.prog 101 [.agg [.str p0x0.Device, I p0x0.At, I p0x0.X, I p0x0.Y, I p0x0.Error], .agg [.str p1x0.Device, I p1x0.At, I p1x0.X, I p1x0.Y, I p1x0.Error]] (I r) := by
  unfold Q_FixOrder at h
  refine ACall.bodyN Try.func101 rfl Try.ntmps101 Try.results101 rfl rfl ?_
  refine ATodo.seq ?_
  refine ATodo.region ?_
  refine n_box rfl rfl rfl rfl (fun b1 => ?_)
  refine n_box rfl rfl rfl rfl (fun b2 => ?_)
  refine ARun.qv (q_assign rfl) rfl ?_
  refine ARun.nil ?_
  refine ATodo.seq ?_
  refine ATodo.seq ?_
  refine ATodo.region ?_
  refine ARun.qv (n_field_ptr rfl rfl) rfl ?_
  refine ARun.qv (q_load_ptr rfl rfl (.next .here) rfl) rfl ?_
  refine ARun.qv (n_field_ptr rfl rfl) rfl ?_
  refine ARun.qv (q_load_ptr rfl rfl .here rfl) rfl ?_
  refine ARun.qv (q_sne rfl rfl) rfl ?_
  refine ARun.nil ?_
  refine ATodo.cond_d rfl (fun hc => ?_) (fun hc => ?_)
  · replace h := iteT hc h
    refine ATodo.seq ?_
    refine ATodo.region ?_
    refine ARun.qv (n_field_ptr rfl rfl) rfl ?_
    refine ARun.qv (q_load_ptr rfl rfl (.next .here) rfl) rfl ?_
    refine ARun.qv (n_field_ptr rfl rfl) rfl ?_
    refine ARun.qv (q_load_ptr rfl rfl .here rfl) rfl ?_
    refine r_callp rfl (strings_Compare_c rfl) (CoL.refl _) rfl ?_
    refine ARun.qv (q_assign rfl) rfl ?_
    refine ARun.nil ?_
    refine ATodo.ret ?_
    obtain rfl := h
    exact ImpX.here ⟨_, .cons (.tmp _ _ rfl) .nil, rfl⟩
  · replace h := iteF hc h
    refine ATodo.skip ?_
    refine ATodo.seq ?_
    refine ATodo.region ?_
    refine ARun.qv (n_field_ptr rfl rfl) rfl ?_
    refine ARun.qv (q_load_ptr rfl rfl (.next .here) rfl) rfl ?_
    refine ARun.qv (n_field_ptr rfl rfl) rfl ?_
    refine ARun.qv (q_load_ptr rfl rfl .here rfl) rfl ?_
    refine ARun.qv (q_subw rfl rfl) rfl ?_
    refine r_callp rfl (Q_sign_c rfl) (CoL.refl _) rfl ?_
    refine ARun.qv (q_assign rfl) rfl ?_
    refine ARun.nil ?_
    refine ATodo.ret ?_
    obtain rfl := h
    exact ImpX.here ⟨_, .cons (.tmp _ _ rfl) .nil, rfl⟩

set_option maxHeartbeats 4000000 in
theorem Q_FixesFault_c {p0x0 : List Fix} {r : Int} (h : Q_FixesFault p0x0 = some r) : Pu Try.prog 21 [.list 5 (p0x0.map Fix.av)] (I r) := by
  unfold Q_FixesFault at h
  refine ACall.bodyN Try.func21 rfl Try.ntmps21 Try.results21 rfl rfl ?_
  refine ATodo.seq ?_
  refine ATodo.region ?_
  refine ARun.qv (q_assign rfl) rfl ?_
  refine ARun.nil ?_
  refine ATodo.seq ?_
  refine ATodo.seq ?_
  refine ATodo.region ?_
  refine ARun.qv (q_move rfl) rfl ?_
  refine ARun.qv (t_len rfl) rfl ?_
  refine ARun.qv (q_gtr rfl rfl) rfl ?_
  refine ARun.nil ?_
  refine ATodo.cond_d rfl (fun hc => ?_) (fun hc => ?_)
  · replace h := iteT hc h
    refine ATodo.seq ?_
    refine ATodo.region ?_
    refine ARun.qv (q_assign rfl) rfl ?_
    refine ARun.nil ?_
    refine ATodo.ret ?_
    obtain rfl := Option.some.inj h
    exact ImpX.here ⟨_, .cons (.tmp _ _ rfl) .nil, rfl⟩
  · replace h := iteF hc h
    refine ATodo.skip ?_
    refine ATodo.seq ?_
    refine ATodo.seq ?_
    refine ATodo.region ?_
    refine ARun.qv (q_move rfl) rfl ?_
    refine ARun.qv (t_len rfl) rfl ?_
    refine ARun.qv (q_move rfl) rfl ?_
    refine ARun.nil ?_
    refine ATodo.block ?_
    refine ATodo.loopI (fun x : Int => Q_FixesFault_b1 p0x0 x) (fun x σ' => σ' = ⟨51, [(0, .list 5 (p0x0.map Fix.av)), (8, .list 5 (p0x0.map Fix.av)), (9, I (p0x0.length : Int)), (10, I x)], []⟩) h ?_ ?_
    · exact ImpX.lessP (by exact ⟨rfl, rfl, rfl, rfl, True.intro⟩) (.nil) (ImpX.here rfl)
    · intro n2 z1 σ' J1 hmk h hJ1 hA1
      obtain rfl := hmk
      replace h : Q_FixesFault_b1 p0x0 n2 = some z1 := h
      unfold Q_FixesFault_b1 at h
      refine ATodo.seq ?_
      refine ATodo.region ?_
      refine ARun.qv (q_lss rfl rfl) rfl ?_
      refine ARun.nil ?_
      refine ATodo.seq ?_
      refine ATodo.cond_d rfl (fun hc => ?_) (fun hc => ?_)
      · replace h := iteT hc h
        refine ATodo.skip ?_
        refine ATodo.seq ?_
        refine ATodo.block ?_
        refine ATodo.seq ?_
        refine ATodo.region ?_
        refine ARun.qv (q_move rfl) rfl ?_
        obtain ⟨v3, e1, h⟩ := bnd h
        refine ARun.qv (t_index rfl rfl rfl e1 rfl rfl) rfl ?_
        refine ARun.qv (q_load_rptr_agg rfl rfl rfl) rfl ?_
        refine n_alloc rfl rfl rfl rfl (fun b4 => ?_)
        refine ARun.qv (q_assign rfl) rfl ?_
        refine n_store_ptr rfl rfl rfl rfl .here rfl rfl ?_
        refine ARun.nil ?_
        refine ATodo.block ?_
        refine ATodo.seq ?_
        refine ATodo.region ?_
        refine ARun.qv (n_field_ptr rfl rfl) rfl ?_
        refine ARun.qv (q_load_ptr rfl rfl .here rfl) rfl ?_
        obtain ⟨v5, e2, h⟩ := bnd h
        refine r_callp rfl (Q_Key_c e2) (CoL.refl _) rfl ?_
        refine ARun.qv (q_not rfl) rfl ?_
        refine ARun.qv (q_assign rfl) rfl ?_
        refine ARun.nil ?_
        refine ATodo.cond rfl (fun hc => ?_) (fun hc => ?_)
        · replace h := iteT hc h
          refine ATodo.seq ?_
          refine ATodo.region ?_
          refine ARun.qv (q_assign rfl) rfl ?_
          refine ARun.nil ?_
          refine ATodo.ret ?_
          replace h := outL h hA1
          obtain rfl := Option.some.inj h
          exact ImpX.here ⟨_, .cons (.tmp _ _ rfl) .nil, rfl⟩
        · replace h := iteFb hc h
          refine ATodo.seq ?_
          refine ATodo.cut (fun σ' => ∃ (c6 : Bool), Q_FixesFault_j1 p0x0 n2 v3 c6 = some z1 ∧ σ' = ⟨51, [(0, .list 5 (p0x0.map Fix.av)), (3, I n2), (4, .ptr b4 0), (8, .list 5 (p0x0.map Fix.av)), (9, I (p0x0.length : Int)), (10, I n2), (20, .bool c6)], [(b4, .cells [.str v3.Device, I v3.At, I v3.X, I v3.Y, I v3.Error])]⟩) ?_ ?_
          · refine ATodo.region ?_
            refine ARun.qv (n_field_ptr rfl rfl) rfl ?_
            refine ARun.qv (q_load_ptr rfl rfl .here rfl) rfl ?_
            refine r_callp rfl (Q_Moment_c rfl) (CoL.refl _) rfl ?_
            refine ARun.qv (q_not rfl) rfl ?_
            refine ARun.qv (q_move rfl) rfl ?_
            refine ARun.guard rfl rfl rfl (fun hc => ?_) (fun hc => ?_)
            · rw [orFb hc] at h
              refine ARun.qv (q_load_ptr_all rfl rfl .here rfl) rfl ?_
              refine ARun.guard_yes rfl rfl rfl ?_
              refine r_callp rfl (Q_spotOf_c rfl) (CoL.refl _) rfl ?_
              refine ARun.guard_yes rfl rfl rfl ?_
              refine r_callp rfl (Q_SpotFault_c rfl) (CoL.refl _) rfl ?_
              refine ARun.guard_yes rfl rfl rfl ?_
              refine ARun.qv (q_neq rfl rfl) rfl ?_
              refine ARun.qv (q_pick_f rfl rfl) rfl ?_
              refine ARun.qv (q_move rfl) rfl ?_
              refine ARun.guard_df rfl rfl rfl (fun hc => ?_) (fun hc => ?_)
              · rw [orFd hc] at h
                refine ARun.qv (n_field_ptr rfl rfl) rfl ?_
                refine ARun.guard_yes rfl rfl rfl ?_
                refine ARun.qv (q_load_ptr rfl rfl .here rfl) rfl ?_
                refine ARun.guard_yes rfl rfl rfl ?_
                refine r_callp rfl (Q_in_c rfl) (CoL.refl _) rfl ?_
                refine ARun.guard_yes rfl rfl rfl ?_
                refine ARun.qv (q_not rfl) rfl ?_
                refine ARun.qv (q_pick_f rfl rfl) rfl ?_
                refine ARun.qv (q_assign rfl) rfl ?_
                refine ARun.nil ?_
                refine ATodo.stop ?_
                exact ImpX.lessP (by exact ⟨rfl, rfl, rfl, rfl, rfl, rfl, rfl, True.intro⟩) (.cons .here .nil) (ImpX.here ⟨!(Q_in v3.Error (0 : Int) (10000 : Int)), h, rfl⟩)
              · rw [orTd hc] at h
                refine ARun.guard_no rfl rfl rfl rfl ?_
                refine ARun.guard_no rfl rfl rfl rfl ?_
                refine ARun.guard_no rfl rfl rfl rfl ?_
                refine ARun.qv (q_pick_t rfl rfl) rfl ?_
                refine ARun.qv (q_assign rfl) rfl ?_
                refine ARun.nil ?_
                refine ATodo.stop ?_
                exact ImpX.lessP (by exact ⟨rfl, rfl, rfl, rfl, rfl, rfl, rfl, True.intro⟩) (.cons .here .nil) (ImpX.here ⟨true, h, rfl⟩)
            · rw [orTb hc] at h
              refine ARun.guard_no rfl rfl rfl rfl ?_
              refine ARun.guard_no rfl rfl rfl rfl ?_
              refine ARun.guard_no rfl rfl rfl rfl ?_
              refine ARun.qv (q_pick_t rfl rfl) rfl ?_
              refine ARun.qv (q_move rfl) rfl ?_
              refine ARun.guard_no rfl rfl rfl rfl ?_
              refine ARun.guard_no rfl rfl rfl rfl ?_
              refine ARun.guard_no rfl rfl rfl rfl ?_
              refine ARun.guard_no rfl rfl rfl rfl ?_
              refine ARun.qv (q_pick_t rfl rfl) rfl ?_
              refine ARun.qv (q_assign rfl) rfl ?_
              refine ARun.nil ?_
              refine ATodo.stop ?_
              exact ImpX.lessP (by exact ⟨rfl, rfl, rfl, rfl, rfl, rfl, rfl, True.intro⟩) (.cons .here .nil) (ImpX.here ⟨true, h, rfl⟩)
          · rintro σ' ⟨c6, h, rfl⟩
            unfold Q_FixesFault_j1 at h
            refine ATodo.cond rfl (fun hc => ?_) (fun hc => ?_)
            · replace h := iteT hc h
              refine ATodo.seq ?_
              refine ATodo.region ?_
              refine ARun.qv (q_assign rfl) rfl ?_
              refine ARun.nil ?_
              refine ATodo.ret ?_
              replace h := outL h hA1
              obtain rfl := Option.some.inj h
              exact ImpX.here ⟨_, .cons (.tmp _ _ rfl) .nil, rfl⟩
            · replace h := iteFb hc h
              refine ATodo.seq ?_
              refine ATodo.cut (fun σ' => ∃ (c7 : Bool), Q_FixesFault_j2 n2 c7 = some z1 ∧ σ' = ⟨51, [(0, .list 5 (p0x0.map Fix.av)), (8, .list 5 (p0x0.map Fix.av)), (9, I (p0x0.length : Int)), (10, I n2), (37, .bool c7)], []⟩) ?_ ?_
              · refine ATodo.regionM (id := 10) (A := [0, 1, 3, 7, 7, 23, 63, 127, 7, 511, 1023, 2047, 4095]) 13 mixed rfl (by kernel_rfl) (by kernel_rfl) ?_
                refine AM.qv (q_move rfl) rfl ?_
                refine AM.qv (q_gtr rfl rfl) rfl ?_
                refine AM.qv (q_move rfl) rfl ?_
                refine AM.guard_dt rfl rfl rfl (fun hc => ?_) (fun hc => ?_)
                · replace h := iteT hc h
                  refine AM.qv (q_move rfl) rfl ?_
                  refine AM.guard_yes rfl rfl rfl ?_
                  refine AM.qv (q_move rfl) rfl ?_
                  refine AM.guard_yes rfl rfl rfl ?_
                  refine AM.qv (q_subw rfl rfl) rfl ?_
                  refine AM.guard_yes rfl rfl rfl ?_
                  obtain ⟨v8, e3, h⟩ := bnd h
                  refine AM.qv (t_index rfl rfl rfl e3 rfl rfl) rfl ?_
                  refine AM.guard_yes rfl rfl rfl ?_
                  refine AM.qv (q_load_rptr_agg rfl rfl rfl) rfl ?_
                  refine AM.guard_yes rfl rfl rfl ?_
                  refine AM.qv (q_load_ptr_all rfl rfl .here rfl) rfl ?_
                  refine AM.guard_yes rfl rfl rfl ?_
                  refine AM.callp rfl (Q_FixOrder_c rfl) (CoL.refl _) rfl ?_
                  refine AM.guard_yes rfl rfl rfl ?_
                  refine AM.qv (q_geq rfl rfl) rfl ?_
                  refine AM.qv (q_pick_t rfl rfl) rfl ?_
                  refine AM.qv (q_assign rfl) rfl ?_
                  refine AM.nil ?_
                  refine ARun.nil ?_
                  refine ATodo.stop ?_
                  exact ImpX.lessP (by exact ⟨rfl, rfl, rfl, rfl, rfl, True.intro⟩) (.nil) (ImpX.here ⟨decide ((0 : Int) ≤ (Q_FixOrder v8 v3)), h, rfl⟩)
                · replace h := iteF hc h
                  refine AM.guard_no rfl rfl rfl rfl ?_
                  refine AM.guard_no rfl rfl rfl rfl ?_
                  refine AM.guard_no rfl rfl rfl rfl ?_
                  refine AM.guard_no rfl rfl rfl rfl ?_
                  refine AM.guard_no rfl rfl rfl rfl ?_
                  refine AM.guard_no rfl rfl rfl rfl ?_
                  refine AM.guard_no rfl rfl rfl rfl ?_
                  refine AM.qv (q_pick_f rfl rfl) rfl ?_
                  refine AM.qv (q_assign rfl) rfl ?_
                  refine AM.nil ?_
                  refine ARun.nil ?_
                  refine ATodo.stop ?_
                  exact ImpX.lessP (by exact ⟨rfl, rfl, rfl, rfl, rfl, True.intro⟩) (.nil) (ImpX.here ⟨false, h, rfl⟩)
              · rintro σ' ⟨c7, h, rfl⟩
                unfold Q_FixesFault_j2 at h
                refine ATodo.cond rfl (fun hc => ?_) (fun hc => ?_)
                · replace h := iteT hc h
                  refine ATodo.seq ?_
                  refine ATodo.region ?_
                  refine ARun.qv (q_assign rfl) rfl ?_
                  refine ARun.nil ?_
                  refine ATodo.ret ?_
                  replace h := outL h hA1
                  obtain rfl := Option.some.inj h
                  exact ImpX.here ⟨_, .cons (.tmp _ _ rfl) .nil, rfl⟩
                · replace h := iteFb hc h
                  refine ATodo.skip ?_
                  refine ATodo.blk ?_
                  refine ATodo.blk ?_
                  refine ATodo.region ?_
                  refine ARun.qv (q_addw rfl rfl) rfl ?_
                  refine ARun.qv (q_move rfl) rfl ?_
                  refine ARun.nil ?_
                  refine ATodo.stop ?_
                  obtain rfl := Option.some.inj h
                  refine hJ1 _ _ rfl ?_
                  exact ImpX.lessP (by exact ⟨rfl, rfl, rfl, rfl, True.intro⟩) (.nil) (ImpX.here rfl)
      · replace h := iteF hc h
        refine ATodo.exit rfl ?_
        replace h := outL h hA1
        refine ATodo.seq ?_
        refine ATodo.region ?_
        refine ARun.qv (q_assign rfl) rfl ?_
        refine ARun.nil ?_
        refine ATodo.ret ?_
        obtain rfl := Option.some.inj h
        exact ImpX.here ⟨_, .cons (.tmp _ _ rfl) .nil, rfl⟩

set_option maxHeartbeats 4000000 in
theorem Q_Lowest_c {p0x0 : Int} {p1x0 : Int} {r : Fraction} (h : Q_Lowest p0x0 p1x0 = some r) : Pu Try.prog 143 [I p0x0, I p1x0] (.agg [I r.Num, I r.Den]) := by
  unfold Q_Lowest at h
  refine ACall.bodyN Try.func143 rfl Try.ntmps143 Try.results143 rfl rfl ?_
  refine ATodo.seq ?_
  refine ATodo.region ?_
  refine n_alloc rfl rfl rfl rfl (fun b1 => ?_)
  refine ARun.nil ?_
  refine ATodo.seq ?_
  refine ATodo.region ?_
  refine ARun.qv (q_move rfl) rfl ?_
  refine ARun.qv (q_move rfl) rfl ?_
  refine ARun.qv (q_assign rfl) rfl ?_
  refine ARun.qv (q_assign rfl) rfl ?_
  refine ARun.nil ?_
  refine ATodo.seq ?_
  refine ATodo.block ?_
  refine ATodo.loopI (fun x : Int × Int => Q_Lowest_b1 p0x0 p1x0 x.1 x.2) (fun x σ' => σ' = ⟨26, [(0, I p0x0), (1, I p1x0), (4, .ptr b1 0), (5, I x.1), (6, I x.2)], [(b1, .cells [I (0 : Int), I (0 : Int)])]⟩) h ?_ ?_
  · exact ImpX.lessP (by exact ⟨rfl, rfl, rfl, rfl, rfl, True.intro⟩) (.cons .here .nil) (ImpX.here rfl)
  · intro x z1 σ' J1 hmk h hJ1 hA1
    obtain ⟨n4, n5⟩ := x
    obtain rfl := hmk
    replace h : Q_Lowest_b1 p0x0 p1x0 n4 n5 = some z1 := h
    unfold Q_Lowest_b1 at h
    refine ATodo.seq ?_
    refine ATodo.seq ?_
    refine ATodo.region ?_
    refine ARun.qv (q_move rfl) rfl ?_
    refine ARun.qv (q_neq rfl rfl) rfl ?_
    refine ARun.nil ?_
    refine ATodo.cond_d rfl (fun hc => ?_) (fun hc => ?_)
    · replace h := iteT hc h
      refine ATodo.skip ?_
      refine ATodo.block ?_
      refine ATodo.regionM (id := 3) (A := [0, 0, 0, 6, 3, 31]) 6 mixed rfl (by kernel_rfl) (by kernel_rfl) ?_
      refine AM.qv (q_move rfl) rfl ?_
      refine AM.qv (q_move rfl) rfl ?_
      refine AM.qv (q_move rfl) rfl ?_
      obtain ⟨n6, e1, h⟩ := bnd h
      refine AM.qv (t_remS rfl rfl e1) rfl ?_
      refine AM.qv (q_assign rfl) rfl ?_
      refine AM.qv (q_assign rfl) rfl ?_
      refine AM.nil ?_
      refine ARun.nil ?_
      refine ATodo.blk ?_
      refine ATodo.stop ?_
      obtain rfl := Option.some.inj h
      refine hJ1 _ _ rfl ?_
      exact ImpX.lessP (by exact ⟨rfl, rfl, rfl, rfl, rfl, True.intro⟩) (.cons .here .nil) (ImpX.here rfl)
    · replace h := iteF hc h
      refine ATodo.exit rfl ?_
      replace h := outL h hA1
      unfold Q_Lowest_k2 at h
      refine ATodo.seq ?_
      refine ATodo.seq ?_
      refine ATodo.region ?_
      refine ARun.qv (q_move rfl) rfl ?_
      refine ARun.qv (q_lss rfl rfl) rfl ?_
      refine ARun.nil ?_
      refine ATodo.cut (fun σ' => ∃ (n7 : Int), Q_Lowest_j1 p0x0 p1x0 n7 = some r ∧ σ' = ⟨26, [(0, I p0x0), (1, I p1x0), (4, .ptr b1 0), (5, I n7)], [(b1, .cells [I (0 : Int), I (0 : Int)])]⟩) ?_ ?_
      · refine ATodo.cond_d rfl (fun hc => ?_) (fun hc => ?_)
        · replace h := iteT hc h
          refine ATodo.region ?_
          refine ARun.qv (q_move rfl) rfl ?_
          refine ARun.qv (t_negw rfl) rfl ?_
          refine ARun.qv (q_assign rfl) rfl ?_
          refine ARun.nil ?_
          refine ATodo.stop ?_
          exact ImpX.lessP (by exact ⟨rfl, rfl, rfl, rfl, True.intro⟩) (.cons .here .nil) (ImpX.here ⟨w64 (-n4), h, rfl⟩)
        · replace h := iteF hc h
          refine ATodo.skip ?_
          refine ATodo.stop ?_
          exact ImpX.lessP (by exact ⟨rfl, rfl, rfl, rfl, True.intro⟩) (.cons .here .nil) (ImpX.here ⟨n4, h, rfl⟩)
      · rintro σ' ⟨n7, h, rfl⟩
        unfold Q_Lowest_j1 at h
        refine ATodo.seq ?_
        refine ATodo.regionM (id := 6) (A := [0, 0, 3, 0, 0, 24, 63, 127]) 7 mixed rfl (by kernel_rfl) (by kernel_rfl) ?_
        refine AM.qv (q_move rfl) rfl ?_
        refine AM.qv (q_move rfl) rfl ?_
        obtain ⟨n8, e2, h⟩ := bnd h
        refine AM.qv (t_quoS rfl rfl e2) rfl ?_
        refine AM.qv (q_move rfl) rfl ?_
        refine AM.qv (q_move rfl) rfl ?_
        obtain ⟨n9, e3, h⟩ := bnd h
        refine AM.qv (t_quoS rfl rfl e3) rfl ?_
        refine AM.qv (n_build rfl rfl rfl rfl rfl) rfl ?_
        refine AM.nil ?_
        refine n_store_ptr rfl rfl rfl rfl .here rfl rfl ?_
        refine ARun.nil ?_
        refine ATodo.ret ?_
        obtain rfl := Option.some.inj h
        exact ImpX.here ⟨_, .cons (.all _ _ _ _ _ _ rfl .here TUnder.h TInfo.h rfl rfl) .nil, rfl⟩

set_option maxHeartbeats 4000000 in
theorem Q_farWay_c {p0x0 : Spot} {p1x0 : Spot} {p2x0 : Spot} {r : Fraction} (h : Q_farWay p0x0 p1x0 p2x0 = some r) : Pu Try.prog 103 [.agg [I p0x0.X, I p0x0.Y], .agg [I p1x0.X, I p1x0.Y], .agg [I p2x0.X, I p2x0.Y]] (.agg [I r.Num, I r.Den]) := by
  unfold Q_farWay at h
  refine ACall.bodyN Try.func103 rfl Try.ntmps103 Try.results103 rfl rfl ?_
  refine ATodo.seq ?_
  refine ATodo.region ?_
  refine n_box rfl rfl rfl rfl (fun b1 => ?_)
  refine n_box rfl rfl rfl rfl (fun b2 => ?_)
  refine n_box rfl rfl rfl rfl (fun b3 => ?_)
  refine n_alloc rfl rfl rfl rfl (fun b4 => ?_)
  refine ARun.nil ?_
  refine ATodo.seq ?_
  refine ATodo.region ?_
  refine ARun.qv (q_load_ptr_all rfl rfl (.next (.next .here)) rfl) rfl ?_
  refine ARun.qv (q_load_ptr_all rfl rfl (.next (.next (.next .here))) rfl) rfl ?_
  refine r_callp rfl (Q_minus_c rfl) (CoL.refl _) rfl ?_
  refine n_alloc rfl rfl rfl rfl (fun b5 => ?_)
  refine n_store_ptr rfl rfl rfl rfl .here rfl rfl ?_
  refine ARun.nil ?_
  refine ATodo.seq ?_
  refine ATodo.block ?_
  refine ATodo.seq ?_
  refine ATodo.regionM (id := 2) (A := [0, 0, 3, 0, 15, 31, 63]) 7 mixed rfl (by kernel_rfl) (by kernel_rfl) ?_
  refine AM.qv (q_load_ptr_all rfl rfl (.next (.next .here)) rfl) rfl ?_
  refine AM.qv (q_load_ptr_all rfl rfl (.next (.next (.next (.next .here)))) rfl) rfl ?_
  refine AM.callp rfl (Q_minus_c rfl) (CoL.refl _) rfl ?_
  refine AM.qv (q_load_ptr_all rfl rfl .here rfl) rfl ?_
  refine AM.callp rfl (Q_dot_c rfl) (CoL.refl _) rfl ?_
  refine AM.qv (q_leq rfl rfl) rfl ?_
  refine AM.qv (q_assign rfl) rfl ?_
  refine AM.nil ?_
  refine ARun.nil ?_
  refine ATodo.cond_d rfl (fun hc => ?_) (fun hc => ?_)
  · replace h := iteT hc h
    refine ATodo.seq ?_
    refine ATodo.regionM (id := 3) (A := [0, 0, 3, 0, 0, 31, 63, 127, 255]) 8 mixed rfl (by kernel_rfl) (by kernel_rfl) ?_
    refine AM.qv (q_load_ptr_all rfl rfl (.next (.next .here)) rfl) rfl ?_
    refine AM.qv (q_load_ptr_all rfl rfl (.next (.next (.next (.next .here)))) rfl) rfl ?_
    refine AM.callp rfl (Q_minus_c rfl) (CoL.refl _) rfl ?_
    refine AM.qv (q_load_ptr_all rfl rfl (.next (.next .here)) rfl) rfl ?_
    refine AM.qv (q_load_ptr_all rfl rfl (.next (.next (.next (.next .here)))) rfl) rfl ?_
    refine AM.callp rfl (Q_minus_c rfl) (CoL.refl _) rfl ?_
    refine AM.callp rfl (Q_dot_c rfl) (CoL.refl _) rfl ?_
    refine AM.qv (n_build rfl rfl rfl rfl rfl) rfl ?_
    refine AM.nil ?_
    refine n_store_ptr rfl rfl rfl rfl (.next .here) rfl rfl ?_
    refine ARun.nil ?_
    refine ATodo.ret ?_
    obtain rfl := Option.some.inj h
    exact ImpX.here ⟨_, .cons (.all _ _ _ _ _ _ rfl (.next .here) TUnder.h TInfo.h rfl rfl) .nil, rfl⟩
  · replace h := iteF hc h
    refine ATodo.seq ?_
    refine ATodo.regionM (id := 4) (A := [0, 0, 3, 0, 15, 31, 63]) 7 mixed rfl (by kernel_rfl) (by kernel_rfl) ?_
    refine AM.qv (q_load_ptr_all rfl rfl (.next (.next .here)) rfl) rfl ?_
    refine AM.qv (q_load_ptr_all rfl rfl (.next (.next (.next .here))) rfl) rfl ?_
    refine AM.callp rfl (Q_minus_c rfl) (CoL.refl _) rfl ?_
    refine AM.qv (q_load_ptr_all rfl rfl .here rfl) rfl ?_
    refine AM.callp rfl (Q_dot_c rfl) (CoL.refl _) rfl ?_
    refine AM.qv (q_geq rfl rfl) rfl ?_
    refine AM.qv (q_assign rfl) rfl ?_
    refine AM.nil ?_
    refine ARun.nil ?_
    refine ATodo.cond_d rfl (fun hc => ?_) (fun hc => ?_)
    · replace h := iteT hc h
      refine ATodo.seq ?_
      refine ATodo.regionM (id := 5) (A := [0, 0, 3, 0, 0, 31, 63, 127, 255]) 8 mixed rfl (by kernel_rfl) (by kernel_rfl) ?_
      refine AM.qv (q_load_ptr_all rfl rfl (.next (.next .here)) rfl) rfl ?_
      refine AM.qv (q_load_ptr_all rfl rfl (.next (.next (.next .here))) rfl) rfl ?_
      refine AM.callp rfl (Q_minus_c rfl) (CoL.refl _) rfl ?_
      refine AM.qv (q_load_ptr_all rfl rfl (.next (.next .here)) rfl) rfl ?_
      refine AM.qv (q_load_ptr_all rfl rfl (.next (.next (.next .here))) rfl) rfl ?_
      refine AM.callp rfl (Q_minus_c rfl) (CoL.refl _) rfl ?_
      refine AM.callp rfl (Q_dot_c rfl) (CoL.refl _) rfl ?_
      refine AM.qv (n_build rfl rfl rfl rfl rfl) rfl ?_
      refine AM.nil ?_
      refine n_store_ptr rfl rfl rfl rfl (.next .here) rfl rfl ?_
      refine ARun.nil ?_
      refine ATodo.ret ?_
      obtain rfl := Option.some.inj h
      exact ImpX.here ⟨_, .cons (.all _ _ _ _ _ _ rfl (.next .here) TUnder.h TInfo.h rfl rfl) .nil, rfl⟩
    · replace h := iteF hc h
      refine ATodo.skip ?_
      refine ATodo.blk ?_
      refine ATodo.seq ?_
      refine ATodo.regionM (id := 6) (A := [0, 0, 0, 6, 15, 31]) 6 mixed rfl (by kernel_rfl) (by kernel_rfl) ?_
      refine AM.qv (q_load_ptr_all rfl rfl .here rfl) rfl ?_
      refine AM.qv (q_load_ptr_all rfl rfl (.next (.next .here)) rfl) rfl ?_
      refine AM.qv (q_load_ptr_all rfl rfl (.next (.next (.next (.next .here)))) rfl) rfl ?_
      refine AM.callp rfl (Q_minus_c rfl) (CoL.refl _) rfl ?_
      refine AM.callp rfl (Q_cross_c rfl) (CoL.refl _) rfl ?_
      refine AM.qv (q_assign rfl) rfl ?_
      refine AM.nil ?_
      refine ARun.nil ?_
      refine ATodo.seq ?_
      refine ATodo.region ?_
      refine ARun.qv (q_move rfl) rfl ?_
      refine ARun.qv (q_move rfl) rfl ?_
      refine ARun.qv (q_mulw rfl rfl) rfl ?_
      refine ARun.qv (q_load_ptr_all rfl rfl .here rfl) rfl ?_
      refine ARun.qv (q_load_ptr_all rfl rfl .here rfl) rfl ?_
      refine r_callp rfl (Q_dot_c rfl) (CoL.refl _) rfl ?_
      obtain ⟨v6, e1, h⟩ := bnd h
      refine r_callp rfl (Q_Lowest_c e1) (CoL.refl _) rfl ?_
      refine n_store_ptr rfl rfl rfl rfl (.next .here) rfl rfl ?_
      refine ARun.nil ?_
      refine ATodo.ret ?_
      obtain rfl := Option.some.inj h
      exact ImpX.here ⟨_, .cons (.all _ _ _ _ _ _ rfl (.next .here) TUnder.h TInfo.h rfl rfl) .nil, rfl⟩

set_option maxHeartbeats 4000000 in
theorem Q_floor_c {p0x0 : Int} {p1x0 : Int} {r : Int} (h : Q_floor p0x0 p1x0 = some r) : Pu Try.prog 192 [I p0x0, I p1x0] (I r) := by
  unfold Q_floor at h
  refine ACall.bodyN Try.func192 rfl Try.ntmps192 Try.results192 rfl rfl ?_
  refine ATodo.seq ?_
  refine ATodo.region ?_
  refine ARun.qv (q_assign rfl) rfl ?_
  refine ARun.nil ?_
  refine ATodo.seq ?_
  refine ATodo.seq ?_
  refine ATodo.region ?_
  refine ARun.qv (q_move rfl) rfl ?_
  refine ARun.qv (q_move rfl) rfl ?_
  obtain ⟨n1, e1, h⟩ := bnd h
  refine ARun.qv (t_remS rfl rfl e1) rfl ?_
  refine ARun.qv (q_lss rfl rfl) rfl ?_
  refine ARun.nil ?_
  refine ATodo.cond_d rfl (fun hc => ?_) (fun hc => ?_)
  · replace h := iteT hc h
    refine ATodo.seq ?_
    refine ATodo.region ?_
    refine ARun.qv (q_move rfl) rfl ?_
    refine ARun.qv (q_move rfl) rfl ?_
    obtain ⟨n2, e2, h⟩ := bnd h
    refine ARun.qv (t_quoS rfl rfl e2) rfl ?_
    refine ARun.qv (q_subw rfl rfl) rfl ?_
    refine ARun.qv (q_assign rfl) rfl ?_
    refine ARun.nil ?_
    refine ATodo.ret ?_
    obtain rfl := Option.some.inj h
    exact ImpX.here ⟨_, .cons (.tmp _ _ rfl) .nil, rfl⟩
  · replace h := iteF hc h
    refine ATodo.skip ?_
    refine ATodo.seq ?_
    refine ATodo.region ?_
    refine ARun.qv (q_move rfl) rfl ?_
    refine ARun.qv (q_move rfl) rfl ?_
    obtain ⟨n3, e3, h⟩ := bnd h
    refine ARun.qv (t_quoS rfl rfl e3) rfl ?_
    refine ARun.qv (q_assign rfl) rfl ?_
    refine ARun.nil ?_
    refine ATodo.ret ?_
    obtain rfl := Option.some.inj h
    exact ImpX.here ⟨_, .cons (.tmp _ _ rfl) .nil, rfl⟩

set_option maxHeartbeats 4000000 in
theorem Q_less_c {p0x0 : Fraction} {p1x0 : Fraction} {r : Bool} (h : Q_less p0x0 p1x0 = some r) : Pu Try.prog 104 [.agg [I p0x0.Num, I p0x0.Den], .agg [I p1x0.Num, I p1x0.Den]] (.bool r) := by
  unfold Q_less at h
  refine ACall.bodyN Try.func104 rfl Try.ntmps104 Try.results104 rfl rfl ?_
  refine ATodo.seq ?_
  refine ATodo.region ?_
  refine n_box rfl rfl rfl rfl (fun b1 => ?_)
  refine n_box rfl rfl rfl rfl (fun b2 => ?_)
  refine ARun.qv (q_assign rfl) rfl ?_
  refine ARun.nil ?_
  refine ATodo.block ?_
  refine ATodo.loopI (fun x : Int × Int × Int × Int => Q_less_b1 x.1 x.2.1 x.2.2.1 x.2.2.2) (fun x σ' => σ' = ⟨59, [(2, .ptr b1 0), (3, .ptr b2 0)], [(b1, .cells [I x.1, I x.2.1]), (b2, .cells [I x.2.2.1, I x.2.2.2])]⟩) h ?_ ?_
  · exact ImpX.lessP (by exact ⟨rfl, rfl, True.intro⟩) (.cons (.next .here) (.cons .here .nil)) (ImpX.here rfl)
  · intro x z1 σ' J1 hmk h hJ1 hA1
    obtain ⟨n7, n8, n9, n10⟩ := x
    obtain rfl := hmk
    replace h : Q_less_b1 n7 n8 n9 n10 = some z1 := h
    unfold Q_less_b1 at h
    refine ATodo.block ?_
    refine ATodo.seq ?_
    refine ATodo.regionM (id := 1) (A := [0, 1, 0, 4, 15, 0, 32, 0, 128, 511, 1023, 2047]) 12 mixed rfl (by kernel_rfl) (by kernel_rfl) ?_
    refine AM.qv (n_field_ptr rfl rfl) rfl ?_
    refine AM.qv (q_load_ptr rfl rfl .here rfl) rfl ?_
    refine AM.qv (n_field_ptr rfl rfl) rfl ?_
    refine AM.qv (q_load_ptr rfl rfl .here rfl) rfl ?_
    obtain ⟨v11, e1, h⟩ := bnd h
    refine AM.callp rfl (Q_floor_c e1) (CoL.refl _) rfl ?_
    refine AM.qv (n_field_ptr rfl rfl) rfl ?_
    refine AM.qv (q_load_ptr rfl rfl (.next .here) rfl) rfl ?_
    refine AM.qv (n_field_ptr rfl rfl) rfl ?_
    refine AM.qv (q_load_ptr rfl rfl (.next .here) rfl) rfl ?_
    obtain ⟨v12, e2, h⟩ := bnd h
    refine AM.callp rfl (Q_floor_c e2) (CoL.refl _) rfl ?_
    refine AM.qv (q_assign rfl) rfl ?_
    refine AM.qv (q_assign rfl) rfl ?_
    refine AM.nil ?_
    refine ARun.nil ?_
    refine ATodo.seq ?_
    refine ATodo.seq ?_
    refine ATodo.region ?_
    refine ARun.qv (q_move rfl) rfl ?_
    refine ARun.qv (q_move rfl) rfl ?_
    refine ARun.qv (q_neq rfl rfl) rfl ?_
    refine ARun.nil ?_
    refine ATodo.cond_d rfl (fun hc => ?_) (fun hc => ?_)
    · replace h := iteT hc h
      refine ATodo.seq ?_
      refine ATodo.region ?_
      refine ARun.qv (q_move rfl) rfl ?_
      refine ARun.qv (q_move rfl) rfl ?_
      refine ARun.qv (q_lss rfl rfl) rfl ?_
      refine ARun.qv (q_assign rfl) rfl ?_
      refine ARun.nil ?_
      refine ATodo.ret ?_
      replace h := outL h hA1
      obtain rfl := Option.some.inj h
      exact ImpX.here ⟨_, .cons (.tmp _ _ rfl) .nil, rfl⟩
    · replace h := iteF hc h
      refine ATodo.skip ?_
      refine ATodo.seq ?_
      refine ATodo.regionM (id := 4) (A := [0, 1, 0, 0, 8, 28, 63, 0, 128, 0, 0, 1024, 3584, 8064, 127, 32767]) 16 mixed rfl (by kernel_rfl) (by kernel_rfl) ?_
      refine AM.qv (n_field_ptr rfl rfl) rfl ?_
      refine AM.qv (q_load_ptr rfl rfl .here rfl) rfl ?_
      refine AM.qv (q_move rfl) rfl ?_
      refine AM.qv (n_field_ptr rfl rfl) rfl ?_
      refine AM.qv (q_load_ptr rfl rfl .here rfl) rfl ?_
      refine AM.qv (q_mulw rfl rfl) rfl ?_
      refine AM.qv (q_subw rfl rfl) rfl ?_
      refine AM.qv (n_field_ptr rfl rfl) rfl ?_
      refine AM.qv (q_load_ptr rfl rfl (.next .here) rfl) rfl ?_
      refine AM.qv (q_move rfl) rfl ?_
      refine AM.qv (n_field_ptr rfl rfl) rfl ?_
      refine AM.qv (q_load_ptr rfl rfl (.next .here) rfl) rfl ?_
      refine AM.qv (q_mulw rfl rfl) rfl ?_
      refine AM.qv (q_subw rfl rfl) rfl ?_
      refine AM.qv (q_assign rfl) rfl ?_
      refine AM.qv (q_assign rfl) rfl ?_
      refine AM.nil ?_
      refine ARun.nil ?_
      refine ATodo.seq ?_
      refine ATodo.seq ?_
      refine ATodo.cut (fun σ' => ∃ (c13 : Bool), Q_less_j1 n7 n8 n9 n10 v11 v12 c13 = some z1 ∧ σ' = ⟨59, [(2, .ptr b1 0), (3, .ptr b2 0), (7, I (w64 (n7 - (w64 (v11 * n8))))), (8, I (w64 (n9 - (w64 (v12 * n10))))), (44, .bool c13)], [(b1, .cells [I n7, I n8]), (b2, .cells [I n9, I n10])]⟩) ?_ ?_
      · refine ATodo.region ?_
        refine ARun.qv (q_move rfl) rfl ?_
        refine ARun.qv (q_eql rfl rfl) rfl ?_
        refine ARun.qv (q_move rfl) rfl ?_
        refine ARun.guard_df rfl rfl rfl (fun hc => ?_) (fun hc => ?_)
        · rw [orFd hc] at h
          refine ARun.qv (q_move rfl) rfl ?_
          refine ARun.guard_yes rfl rfl rfl ?_
          refine ARun.qv (q_eql rfl rfl) rfl ?_
          refine ARun.qv (q_pick_f rfl rfl) rfl ?_
          refine ARun.nil ?_
          refine ATodo.stop ?_
          exact ImpX.lessP (by exact ⟨rfl, rfl, rfl, rfl, rfl, True.intro⟩) (.cons .here (.cons .here .nil)) (ImpX.here ⟨decide ((w64 (n9 - (w64 (v12 * n10)))) = (0 : Int)), h, rfl⟩)
        · rw [orTd hc] at h
          refine ARun.guard_no rfl rfl rfl rfl ?_
          refine ARun.qv (q_pick_t rfl rfl) rfl ?_
          refine ARun.nil ?_
          refine ATodo.stop ?_
          exact ImpX.lessP (by exact ⟨rfl, rfl, rfl, rfl, rfl, True.intro⟩) (.cons .here (.cons .here .nil)) (ImpX.here ⟨true, h, rfl⟩)
      · rintro σ' ⟨c13, h, rfl⟩
        unfold Q_less_j1 at h
        refine ATodo.cond rfl (fun hc => ?_) (fun hc => ?_)
        · replace h := iteT hc h
          refine ATodo.seq ?_
          refine ATodo.cut (fun σ' => ∃ (c14 : Bool), Q_less_j2 c14 = some z1 ∧ σ' = ⟨59, [(4, .bool c14)], []⟩) ?_ ?_
          · refine ATodo.region ?_
            refine ARun.qv (q_move rfl) rfl ?_
            refine ARun.qv (q_eql rfl rfl) rfl ?_
            refine ARun.qv (q_move rfl) rfl ?_
            refine ARun.guard_dt rfl rfl rfl (fun hc => ?_) (fun hc => ?_)
            · rw [andTd hc] at h
              refine ARun.qv (q_move rfl) rfl ?_
              refine ARun.guard_yes rfl rfl rfl ?_
              refine ARun.qv (q_neq rfl rfl) rfl ?_
              refine ARun.qv (q_pick_t rfl rfl) rfl ?_
              refine ARun.qv (q_assign rfl) rfl ?_
              refine ARun.nil ?_
              refine ATodo.stop ?_
              exact ImpX.lessP (by exact ⟨rfl, True.intro⟩) (.nil) (ImpX.here ⟨decide ((w64 (n9 - (w64 (v12 * n10)))) ≠ (0 : Int)), h, rfl⟩)
            · rw [andFd hc] at h
              refine ARun.guard_no rfl rfl rfl rfl ?_
              refine ARun.qv (q_pick_f rfl rfl) rfl ?_
              refine ARun.qv (q_assign rfl) rfl ?_
              refine ARun.nil ?_
              refine ATodo.stop ?_
              exact ImpX.lessP (by exact ⟨rfl, True.intro⟩) (.nil) (ImpX.here ⟨false, h, rfl⟩)
          · rintro σ' ⟨c14, h, rfl⟩
            unfold Q_less_j2 at h
            refine ATodo.ret ?_
            replace h := outL h hA1
            obtain rfl := Option.some.inj h
            exact ImpX.here ⟨_, .cons (.tmp _ _ rfl) .nil, rfl⟩
        · replace h := iteFb hc h
          refine ATodo.skip ?_
          refine ATodo.region ?_
          refine ARun.qv (n_field_ptr rfl rfl) rfl ?_
          refine ARun.qv (q_load_ptr rfl rfl (.next .here) rfl) rfl ?_
          refine ARun.qv (q_move rfl) rfl ?_
          refine ARun.qv (n_build rfl rfl rfl rfl rfl) rfl ?_
          refine ARun.qv (n_field_ptr rfl rfl) rfl ?_
          refine ARun.qv (q_load_ptr rfl rfl .here rfl) rfl ?_
          refine ARun.qv (q_move rfl) rfl ?_
          refine ARun.qv (n_build rfl rfl rfl rfl rfl) rfl ?_
          refine n_store_ptr rfl rfl rfl rfl .here rfl rfl ?_
          refine n_store_ptr rfl rfl rfl rfl (.next .here) rfl rfl ?_
          refine ARun.nil ?_
          refine ATodo.blk ?_
          refine ATodo.stop ?_
          obtain rfl := Option.some.inj h
          refine hJ1 _ _ rfl ?_
          exact ImpX.lessP (by exact ⟨rfl, rfl, True.intro⟩) (.cons .here (.cons .here .nil)) (ImpX.here rfl)

set_option maxHeartbeats 4000000 in
theorem Q_FarOf_c {p0x0 : List Spot} {p1x0 : Spot} {r : Fraction} (h : Q_FarOf p0x0 p1x0 = some r) : Pu Try.prog 22 [.list 2 (p0x0.map Spot.av), .agg [I p1x0.X, I p1x0.Y]] (.agg [I r.Num, I r.Den]) := by
  unfold Q_FarOf at h
  refine ACall.bodyN Try.func22 rfl Try.ntmps22 Try.results22 rfl rfl ?_
  refine ATodo.seq ?_
  refine ATodo.region ?_
  refine n_box rfl rfl rfl rfl (fun b1 => ?_)
  refine n_alloc rfl rfl rfl rfl (fun b2 => ?_)
  refine ARun.nil ?_
  refine ATodo.seq ?_
  refine ATodo.region ?_
  refine ARun.qv (q_move rfl) rfl ?_
  obtain ⟨v3, e1, h⟩ := bnd h
  refine r_callp rfl (Q_edge_c e1) (CoL.refl _) rfl ?_
  refine ARun.qv (q_move rfl) rfl ?_
  refine ARun.qv (q_extract rfl rfl) rfl ?_
  refine ARun.qv (q_extract rfl rfl) rfl ?_
  refine n_alloc rfl rfl rfl rfl (fun b4 => ?_)
  refine n_alloc rfl rfl rfl rfl (fun b5 => ?_)
  refine n_store_ptr rfl rfl rfl rfl (.next .here) rfl rfl ?_
  refine n_store_ptr rfl rfl rfl rfl .here rfl rfl ?_
  refine ARun.nil ?_
  refine ATodo.seq ?_
  refine ATodo.region ?_
  refine ARun.qv (q_load_ptr_all rfl rfl (.next .here) rfl) rfl ?_
  refine ARun.qv (q_load_ptr_all rfl rfl .here rfl) rfl ?_
  refine ARun.qv (q_load_ptr_all rfl rfl (.next (.next (.next .here))) rfl) rfl ?_
  obtain ⟨v6, e2, h⟩ := bnd h
  refine r_callp rfl (Q_farWay_c e2) (CoL.refl _) rfl ?_
  refine n_alloc rfl rfl rfl rfl (fun b7 => ?_)
  refine n_store_ptr rfl rfl rfl rfl .here rfl rfl ?_
  refine ARun.nil ?_
  refine ATodo.seq ?_
  refine ATodo.seq ?_
  refine ATodo.region ?_
  refine ARun.qv (q_move rfl) rfl ?_
  refine ARun.qv (t_len rfl) rfl ?_
  refine ARun.qv (q_move rfl) rfl ?_
  refine ARun.nil ?_
  refine ATodo.block ?_
  refine ATodo.loopI (fun x : Int × Int × Int × Int × Int × Int × Int => Q_FarOf_b1 p0x0 p1x0 x.1 x.2.1 x.2.2.1 x.2.2.2.1 x.2.2.2.2.1 x.2.2.2.2.2.1 x.2.2.2.2.2.2) (fun x σ' => σ' = ⟨40, [(0, .list 2 (p0x0.map Spot.av)), (3, .ptr b1 0), (4, .ptr b2 0), (5, .ptr b4 0), (6, .ptr b5 0), (7, .ptr b7 0), (20, I (p0x0.length : Int)), (21, I x.2.2.2.2.2.2)], [(b1, .cells [I p1x0.X, I p1x0.Y]), (b2, .cells [I (0 : Int), I (0 : Int)]), (b4, .cells [I x.1, I x.2.1]), (b5, .cells [I x.2.2.1, I x.2.2.2.1]), (b7, .cells [I x.2.2.2.2.1, I x.2.2.2.2.2.1])]⟩) h ?_ ?_
  · exact ImpX.lessP (by exact ⟨rfl, rfl, rfl, rfl, rfl, rfl, rfl, rfl, True.intro⟩) (.cons (.next (.next (.next (.next .here)))) (.cons (.next (.next (.next .here))) (.cons (.next (.next .here)) (.cons (.next .here) (.cons .here .nil))))) (ImpX.here rfl)
  · intro x z1 σ' J1 hmk h hJ1 hA1
    obtain ⟨n15, n16, n17, n18, n19, n20, n21⟩ := x
    obtain rfl := hmk
    replace h : Q_FarOf_b1 p0x0 p1x0 n15 n16 n17 n18 n19 n20 n21 = some z1 := h
    unfold Q_FarOf_b1 at h
    refine ATodo.seq ?_
    refine ATodo.region ?_
    refine ARun.qv (q_lss rfl rfl) rfl ?_
    refine ARun.nil ?_
    refine ATodo.seq ?_
    refine ATodo.cond_d rfl (fun hc => ?_) (fun hc => ?_)
    · replace h := iteT hc h
      refine ATodo.skip ?_
      refine ATodo.seq ?_
      refine ATodo.block ?_
      refine ATodo.seq ?_
      refine ATodo.region ?_
      refine ARun.qv (q_move rfl) rfl ?_
      refine ARun.qv (q_assign rfl) rfl ?_
      refine ARun.nil ?_
      refine ATodo.seq ?_
      refine ATodo.region ?_
      refine ARun.qv (q_move rfl) rfl ?_
      refine ARun.qv (q_move rfl) rfl ?_
      obtain ⟨v22, e3, h⟩ := bnd h
      refine r_callp rfl (Q_edge_c e3) (CoL.refl _) rfl ?_
      refine ARun.qv (q_move rfl) rfl ?_
      refine ARun.qv (q_extract rfl rfl) rfl ?_
      refine ARun.qv (q_extract rfl rfl) rfl ?_
      refine n_store_ptr rfl rfl rfl rfl (.next (.next .here)) rfl rfl ?_
      refine n_store_ptr rfl rfl rfl rfl (.next (.next (.next .here))) rfl rfl ?_
      refine ARun.nil ?_
      refine ATodo.seq ?_
      refine ATodo.region ?_
      refine ARun.qv (q_load_ptr_all rfl rfl (.next (.next .here)) rfl) rfl ?_
      refine ARun.qv (q_load_ptr_all rfl rfl (.next (.next (.next .here))) rfl) rfl ?_
      refine ARun.qv (q_load_ptr_all rfl rfl .here rfl) rfl ?_
      obtain ⟨v23, e4, h⟩ := bnd h
      refine r_callp rfl (Q_farWay_c e4) (CoL.refl _) rfl ?_
      refine n_alloc rfl rfl rfl rfl (fun b24 => ?_)
      refine n_store_ptr rfl rfl rfl rfl .here rfl rfl ?_
      refine ARun.nil ?_
      refine ATodo.seq ?_
      refine ATodo.region ?_
      refine ARun.qv (q_load_ptr_all rfl rfl .here rfl) rfl ?_
      refine ARun.qv (q_load_ptr_all rfl rfl (.next (.next (.next (.next (.next .here))))) rfl) rfl ?_
      obtain ⟨v25, e5, h⟩ := bnd h
      refine r_callp rfl (Q_less_c e5) (CoL.refl _) rfl ?_
      refine ARun.nil ?_
      refine ATodo.cut (fun σ' => ∃ (n26 : Int) (n27 : Int), Q_FarOf_j1 n21 v22 n26 n27 = some z1 ∧ σ' = ⟨40, [(0, .list 2 (p0x0.map Spot.av)), (3, .ptr b1 0), (4, .ptr b2 0), (5, .ptr b4 0), (6, .ptr b5 0), (7, .ptr b7 0), (20, I (p0x0.length : Int)), (21, I n21)], [(b1, .cells [I p1x0.X, I p1x0.Y]), (b2, .cells [I (0 : Int), I (0 : Int)]), (b4, .cells [I v22.1.X, I v22.1.Y]), (b5, .cells [I v22.2.X, I v22.2.Y]), (b7, .cells [I n26, I n27])]⟩) ?_ ?_
      · refine ATodo.cond rfl (fun hc => ?_) (fun hc => ?_)
        · replace h := iteT hc h
          refine ATodo.region ?_
          refine ARun.qv (q_load_ptr_all rfl rfl .here rfl) rfl ?_
          refine n_store_ptr rfl rfl rfl rfl (.next (.next (.next (.next (.next .here))))) rfl rfl ?_
          refine ARun.nil ?_
          refine ATodo.stop ?_
          exact ImpX.lessP (by exact ⟨rfl, rfl, rfl, rfl, rfl, rfl, rfl, rfl, True.intro⟩) (.cons (.next .here) (.cons (.next .here) (.cons (.next .here) (.cons (.next .here) (.cons (.next .here) .nil))))) (ImpX.here ⟨v23.Num, v23.Den, h, rfl⟩)
        · replace h := iteFb hc h
          refine ATodo.skip ?_
          refine ATodo.stop ?_
          exact ImpX.lessP (by exact ⟨rfl, rfl, rfl, rfl, rfl, rfl, rfl, rfl, True.intro⟩) (.cons (.next .here) (.cons (.next .here) (.cons (.next .here) (.cons (.next .here) (.cons (.next .here) .nil))))) (ImpX.here ⟨n19, n20, h, rfl⟩)
      · rintro σ' ⟨n26, n27, h, rfl⟩
        unfold Q_FarOf_j1 at h
        refine ATodo.blk ?_
        refine ATodo.region ?_
        refine ARun.qv (q_addw rfl rfl) rfl ?_
        refine ARun.qv (q_move rfl) rfl ?_
        refine ARun.nil ?_
        refine ATodo.stop ?_
        obtain rfl := Option.some.inj h
        refine hJ1 _ _ rfl ?_
        exact ImpX.lessP (by exact ⟨rfl, rfl, rfl, rfl, rfl, rfl, rfl, rfl, True.intro⟩) (.cons .here (.cons .here (.cons .here (.cons .here (.cons .here .nil))))) (ImpX.here rfl)
    · replace h := iteF hc h
      refine ATodo.exit rfl ?_
      replace h := outL h hA1
      refine ATodo.seq ?_
      refine ATodo.region ?_
      refine ARun.qv (q_load_ptr_all rfl rfl (.next (.next (.next (.next .here)))) rfl) rfl ?_
      refine n_store_ptr rfl rfl rfl rfl (.next .here) rfl rfl ?_
      refine ARun.nil ?_
      refine ATodo.ret ?_
      obtain rfl := Option.some.inj h
      exact ImpX.here ⟨_, .cons (.all _ _ _ _ _ _ rfl (.next .here) TUnder.h TInfo.h rfl rfl) .nil, rfl⟩

set_option maxHeartbeats 4000000 in
theorem Q_WhereOf_c {p0x0 : List Spot} {p1x0 : Spot} {r : Int} (h : Q_WhereOf p0x0 p1x0 = some r) : Pu Try.prog 105 [.list 2 (p0x0.map Spot.av), .agg [I p1x0.X, I p1x0.Y]] (I r) := by
  unfold Q_WhereOf at h
  refine ACall.bodyN Try.func105 rfl Try.ntmps105 Try.results105 rfl rfl ?_
  refine ATodo.seq ?_
  refine ATodo.region ?_
  refine n_box rfl rfl rfl rfl (fun b1 => ?_)
  refine ARun.qv (q_assign rfl) rfl ?_
  refine ARun.nil ?_
  refine ATodo.seq ?_
  refine ATodo.region ?_
  refine ARun.qv (q_assign rfl) rfl ?_
  refine ARun.nil ?_
  refine ATodo.seq ?_
  refine ATodo.seq ?_
  refine ATodo.region ?_
  refine ARun.qv (q_move rfl) rfl ?_
  refine ARun.qv (t_len rfl) rfl ?_
  refine ARun.qv (q_move rfl) rfl ?_
  refine ARun.nil ?_
  refine ATodo.block ?_
  refine ATodo.loopI (fun x : Int × Int => Q_WhereOf_b1 p0x0 p1x0 x.1 x.2) (fun x σ' => σ' = ⟨71, [(0, .list 2 (p0x0.map Spot.av)), (3, .ptr b1 0), (5, I x.1), (10, I (p0x0.length : Int)), (11, I x.2)], [(b1, .cells [I p1x0.X, I p1x0.Y])]⟩) h ?_ ?_
  · exact ImpX.lessP (by exact ⟨rfl, rfl, rfl, rfl, rfl, True.intro⟩) (.cons .here .nil) (ImpX.here rfl)
  · intro x z1 σ' J1 hmk h hJ1 hA1
    obtain ⟨n4, n5⟩ := x
    obtain rfl := hmk
    replace h : Q_WhereOf_b1 p0x0 p1x0 n4 n5 = some z1 := h
    unfold Q_WhereOf_b1 at h
    refine ATodo.seq ?_
    refine ATodo.region ?_
    refine ARun.qv (q_lss rfl rfl) rfl ?_
    refine ARun.nil ?_
    refine ATodo.seq ?_
    refine ATodo.cond_d rfl (fun hc => ?_) (fun hc => ?_)
    · replace h := iteT hc h
      refine ATodo.skip ?_
      refine ATodo.seq ?_
      refine ATodo.block ?_
      refine ATodo.seq ?_
      refine ATodo.region ?_
      refine ARun.qv (q_move rfl) rfl ?_
      refine ARun.qv (q_assign rfl) rfl ?_
      refine ARun.nil ?_
      refine ATodo.seq ?_
      refine ATodo.region ?_
      refine ARun.qv (q_move rfl) rfl ?_
      refine ARun.qv (q_move rfl) rfl ?_
      obtain ⟨v6, e1, h⟩ := bnd h
      refine r_callp rfl (Q_edge_c e1) (CoL.refl _) rfl ?_
      refine ARun.qv (q_move rfl) rfl ?_
      refine ARun.qv (q_extract rfl rfl) rfl ?_
      refine ARun.qv (q_extract rfl rfl) rfl ?_
      refine n_alloc rfl rfl rfl rfl (fun b7 => ?_)
      refine n_alloc rfl rfl rfl rfl (fun b8 => ?_)
      refine n_store_ptr rfl rfl rfl rfl (.next .here) rfl rfl ?_
      refine n_store_ptr rfl rfl rfl rfl .here rfl rfl ?_
      refine ARun.nil ?_
      refine ATodo.seq ?_
      refine ATodo.seq ?_
      refine ATodo.region ?_
      refine ARun.qv (q_load_ptr_all rfl rfl (.next .here) rfl) rfl ?_
      refine ARun.qv (q_load_ptr_all rfl rfl .here rfl) rfl ?_
      refine ARun.qv (q_load_ptr_all rfl rfl (.next (.next .here)) rfl) rfl ?_
      refine r_callp rfl (Q_onWay_c rfl) (CoL.refl _) rfl ?_
      refine ARun.nil ?_
      refine ATodo.cond rfl (fun hc => ?_) (fun hc => ?_)
      · replace h := iteT hc h
        refine ATodo.seq ?_
        refine ATodo.region ?_
        refine ARun.qv (q_assign rfl) rfl ?_
        refine ARun.nil ?_
        refine ATodo.ret ?_
        replace h := outL h hA1
        obtain rfl := Option.some.inj h
        exact ImpX.here ⟨_, .cons (.tmp _ _ rfl) .nil, rfl⟩
      · replace h := iteFb hc h
        refine ATodo.skip ?_
        refine ATodo.block ?_
        refine ATodo.seq ?_
        refine ATodo.cut (fun σ' => ∃ (c9 : Bool), Q_WhereOf_j1 p1x0 n4 n5 v6 c9 = some z1 ∧ σ' = ⟨71, [(0, .list 2 (p0x0.map Spot.av)), (3, .ptr b1 0), (5, I n4), (7, .ptr b7 0), (8, .ptr b8 0), (10, I (p0x0.length : Int)), (11, I n5), (24, .bool c9)], [(b1, .cells [I p1x0.X, I p1x0.Y]), (b7, .cells [I v6.1.X, I v6.1.Y]), (b8, .cells [I v6.2.X, I v6.2.Y])]⟩) ?_ ?_
        · refine ATodo.region ?_
          refine ARun.qv (n_field_ptr rfl rfl) rfl ?_
          refine ARun.qv (q_load_ptr rfl rfl (.next .here) rfl) rfl ?_
          refine ARun.qv (n_field_ptr rfl rfl) rfl ?_
          refine ARun.qv (q_load_ptr rfl rfl (.next (.next .here)) rfl) rfl ?_
          refine ARun.qv (q_leq rfl rfl) rfl ?_
          refine ARun.qv (q_move rfl) rfl ?_
          refine ARun.guard_dt rfl rfl rfl (fun hc => ?_) (fun hc => ?_)
          · rw [andTd hc] at h
            refine ARun.qv (n_field_ptr rfl rfl) rfl ?_
            refine ARun.guard_yes rfl rfl rfl ?_
            refine ARun.qv (q_load_ptr rfl rfl .here rfl) rfl ?_
            refine ARun.guard_yes rfl rfl rfl ?_
            refine ARun.qv (n_field_ptr rfl rfl) rfl ?_
            refine ARun.guard_yes rfl rfl rfl ?_
            refine ARun.qv (q_load_ptr rfl rfl (.next (.next .here)) rfl) rfl ?_
            refine ARun.guard_yes rfl rfl rfl ?_
            refine ARun.qv (q_gtr rfl rfl) rfl ?_
            refine ARun.qv (q_pick_t rfl rfl) rfl ?_
            refine ARun.qv (q_move rfl) rfl ?_
            refine ARun.guard_dt rfl rfl rfl (fun hc => ?_) (fun hc => ?_)
            · rw [andTd hc] at h
              refine ARun.qv (q_load_ptr_all rfl rfl (.next .here) rfl) rfl ?_
              refine ARun.guard_yes rfl rfl rfl ?_
              refine ARun.qv (q_load_ptr_all rfl rfl .here rfl) rfl ?_
              refine ARun.guard_yes rfl rfl rfl ?_
              refine ARun.qv (q_load_ptr_all rfl rfl (.next (.next .here)) rfl) rfl ?_
              refine ARun.guard_yes rfl rfl rfl ?_
              refine r_callp rfl (Q_side_c rfl) (CoL.refl _) rfl ?_
              refine ARun.guard_yes rfl rfl rfl ?_
              refine ARun.qv (q_gtr rfl rfl) rfl ?_
              refine ARun.qv (q_pick_t rfl rfl) rfl ?_
              refine ARun.qv (q_assign rfl) rfl ?_
              refine ARun.nil ?_
              refine ATodo.stop ?_
              exact ImpX.lessP (by exact ⟨rfl, rfl, rfl, rfl, rfl, rfl, rfl, rfl, True.intro⟩) (.cons (.next (.next .here)) (.cons (.next .here) (.cons .here .nil))) (ImpX.here ⟨decide ((0 : Int) < (Q_side v6.1 v6.2 p1x0)), h, rfl⟩)
            · rw [andFd hc] at h
              refine ARun.guard_no rfl rfl rfl rfl ?_
              refine ARun.guard_no rfl rfl rfl rfl ?_
              refine ARun.guard_no rfl rfl rfl rfl ?_
              refine ARun.guard_no rfl rfl rfl rfl ?_
              refine ARun.qv (q_pick_f rfl rfl) rfl ?_
              refine ARun.qv (q_assign rfl) rfl ?_
              refine ARun.nil ?_
              refine ATodo.stop ?_
              exact ImpX.lessP (by exact ⟨rfl, rfl, rfl, rfl, rfl, rfl, rfl, rfl, True.intro⟩) (.cons (.next (.next .here)) (.cons (.next .here) (.cons .here .nil))) (ImpX.here ⟨false, h, rfl⟩)
          · rw [andFd hc] at h
            refine ARun.guard_no rfl rfl rfl rfl ?_
            refine ARun.guard_no rfl rfl rfl rfl ?_
            refine ARun.guard_no rfl rfl rfl rfl ?_
            refine ARun.guard_no rfl rfl rfl rfl ?_
            refine ARun.qv (q_pick_f rfl rfl) rfl ?_
            refine ARun.qv (q_move rfl) rfl ?_
            refine ARun.guard_no rfl rfl rfl rfl ?_
            refine ARun.guard_no rfl rfl rfl rfl ?_
            refine ARun.guard_no rfl rfl rfl rfl ?_
            refine ARun.guard_no rfl rfl rfl rfl ?_
            refine ARun.guard_no rfl rfl rfl rfl ?_
            refine ARun.qv (q_pick_f rfl rfl) rfl ?_
            refine ARun.qv (q_assign rfl) rfl ?_
            refine ARun.nil ?_
            refine ATodo.stop ?_
            exact ImpX.lessP (by exact ⟨rfl, rfl, rfl, rfl, rfl, rfl, rfl, rfl, True.intro⟩) (.cons (.next (.next .here)) (.cons (.next .here) (.cons .here .nil))) (ImpX.here ⟨false, h, rfl⟩)
        · rintro σ' ⟨c9, h, rfl⟩
          unfold Q_WhereOf_j1 at h
          refine ATodo.cut (fun σ' => ∃ (n10 : Int), Q_WhereOf_j2 n5 n10 = some z1 ∧ σ' = ⟨71, [(0, .list 2 (p0x0.map Spot.av)), (3, .ptr b1 0), (5, I n10), (10, I (p0x0.length : Int)), (11, I n5)], [(b1, .cells [I p1x0.X, I p1x0.Y])]⟩) ?_ ?_
          · refine ATodo.cond rfl (fun hc => ?_) (fun hc => ?_)
            · replace h := iteT hc h
              refine ATodo.region ?_
              refine ARun.qv (q_move rfl) rfl ?_
              refine ARun.qv (q_addw rfl rfl) rfl ?_
              refine ARun.qv (q_assign rfl) rfl ?_
              refine ARun.nil ?_
              refine ATodo.stop ?_
              exact ImpX.lessP (by exact ⟨rfl, rfl, rfl, rfl, rfl, True.intro⟩) (.cons .here .nil) (ImpX.here ⟨w64 (n4 + (1 : Int)), h, rfl⟩)
            · replace h := iteFb hc h
              refine ATodo.seq ?_
              refine ATodo.cut (fun σ' => ∃ (c11 : Bool), Q_WhereOf_j3 n4 n5 c11 = some z1 ∧ σ' = ⟨71, [(0, .list 2 (p0x0.map Spot.av)), (3, .ptr b1 0), (5, I n4), (10, I (p0x0.length : Int)), (11, I n5), (46, .bool c11)], [(b1, .cells [I p1x0.X, I p1x0.Y])]⟩) ?_ ?_
              · refine ATodo.region ?_
                refine ARun.qv (n_field_ptr rfl rfl) rfl ?_
                refine ARun.qv (q_load_ptr rfl rfl (.next .here) rfl) rfl ?_
                refine ARun.qv (n_field_ptr rfl rfl) rfl ?_
                refine ARun.qv (q_load_ptr rfl rfl .here rfl) rfl ?_
                refine ARun.qv (q_gtr rfl rfl) rfl ?_
                refine ARun.qv (q_move rfl) rfl ?_
                refine ARun.guard_dt rfl rfl rfl (fun hc => ?_) (fun hc => ?_)
                · rw [andTd hc] at h
                  refine ARun.qv (n_field_ptr rfl rfl) rfl ?_
                  refine ARun.guard_yes rfl rfl rfl ?_
                  refine ARun.qv (q_load_ptr rfl rfl (.next (.next .here)) rfl) rfl ?_
                  refine ARun.guard_yes rfl rfl rfl ?_
                  refine ARun.qv (n_field_ptr rfl rfl) rfl ?_
                  refine ARun.guard_yes rfl rfl rfl ?_
                  refine ARun.qv (q_load_ptr rfl rfl .here rfl) rfl ?_
                  refine ARun.guard_yes rfl rfl rfl ?_
                  refine ARun.qv (q_leq rfl rfl) rfl ?_
                  refine ARun.qv (q_pick_t rfl rfl) rfl ?_
                  refine ARun.qv (q_move rfl) rfl ?_
                  refine ARun.guard_dt rfl rfl rfl (fun hc => ?_) (fun hc => ?_)
                  · rw [andTd hc] at h
                    refine ARun.qv (q_load_ptr_all rfl rfl (.next .here) rfl) rfl ?_
                    refine ARun.guard_yes rfl rfl rfl ?_
                    refine ARun.qv (q_load_ptr_all rfl rfl (.next (.next .here)) rfl) rfl ?_
                    refine ARun.guard_yes rfl rfl rfl ?_
                    refine ARun.qv (q_load_ptr_all rfl rfl .here rfl) rfl ?_
                    refine ARun.guard_yes rfl rfl rfl ?_
                    refine r_callp rfl (Q_side_c rfl) (CoL.refl _) rfl ?_
                    refine ARun.guard_yes rfl rfl rfl ?_
                    refine ARun.qv (q_lss rfl rfl) rfl ?_
                    refine ARun.qv (q_pick_t rfl rfl) rfl ?_
                    refine ARun.qv (q_assign rfl) rfl ?_
                    refine ARun.nil ?_
                    refine ATodo.stop ?_
                    exact ImpX.lessP (by exact ⟨rfl, rfl, rfl, rfl, rfl, rfl, True.intro⟩) (.cons .here .nil) (ImpX.here ⟨decide ((Q_side v6.1 v6.2 p1x0) < (0 : Int)), h, rfl⟩)
                  · rw [andFd hc] at h
                    refine ARun.guard_no rfl rfl rfl rfl ?_
                    refine ARun.guard_no rfl rfl rfl rfl ?_
                    refine ARun.guard_no rfl rfl rfl rfl ?_
                    refine ARun.guard_no rfl rfl rfl rfl ?_
                    refine ARun.qv (q_pick_f rfl rfl) rfl ?_
                    refine ARun.qv (q_assign rfl) rfl ?_
                    refine ARun.nil ?_
                    refine ATodo.stop ?_
                    exact ImpX.lessP (by exact ⟨rfl, rfl, rfl, rfl, rfl, rfl, True.intro⟩) (.cons .here .nil) (ImpX.here ⟨false, h, rfl⟩)
                · rw [andFd hc] at h
                  refine ARun.guard_no rfl rfl rfl rfl ?_
                  refine ARun.guard_no rfl rfl rfl rfl ?_
                  refine ARun.guard_no rfl rfl rfl rfl ?_
                  refine ARun.guard_no rfl rfl rfl rfl ?_
                  refine ARun.qv (q_pick_f rfl rfl) rfl ?_
                  refine ARun.qv (q_move rfl) rfl ?_
                  refine ARun.guard_no rfl rfl rfl rfl ?_
                  refine ARun.guard_no rfl rfl rfl rfl ?_
                  refine ARun.guard_no rfl rfl rfl rfl ?_
                  refine ARun.guard_no rfl rfl rfl rfl ?_
                  refine ARun.guard_no rfl rfl rfl rfl ?_
                  refine ARun.qv (q_pick_f rfl rfl) rfl ?_
                  refine ARun.qv (q_assign rfl) rfl ?_
                  refine ARun.nil ?_
                  refine ATodo.stop ?_
                  exact ImpX.lessP (by exact ⟨rfl, rfl, rfl, rfl, rfl, rfl, True.intro⟩) (.cons .here .nil) (ImpX.here ⟨false, h, rfl⟩)
              · rintro σ' ⟨c11, h, rfl⟩
                unfold Q_WhereOf_j3 at h
                refine ATodo.cut (fun σ' => ∃ (n12 : Int), Q_WhereOf_j4 n5 n12 = some z1 ∧ σ' = ⟨71, [(0, .list 2 (p0x0.map Spot.av)), (3, .ptr b1 0), (5, I n12), (10, I (p0x0.length : Int)), (11, I n5)], [(b1, .cells [I p1x0.X, I p1x0.Y])]⟩) ?_ ?_
                · refine ATodo.cond rfl (fun hc => ?_) (fun hc => ?_)
                  · replace h := iteT hc h
                    refine ATodo.region ?_
                    refine ARun.qv (q_move rfl) rfl ?_
                    refine ARun.qv (q_subw rfl rfl) rfl ?_
                    refine ARun.qv (q_assign rfl) rfl ?_
                    refine ARun.nil ?_
                    refine ATodo.stop ?_
                    exact ImpX.lessP (by exact ⟨rfl, rfl, rfl, rfl, rfl, True.intro⟩) (.cons .here .nil) (ImpX.here ⟨w64 (n4 - (1 : Int)), h, rfl⟩)
                  · replace h := iteFb hc h
                    refine ATodo.skip ?_
                    refine ATodo.stop ?_
                    exact ImpX.lessP (by exact ⟨rfl, rfl, rfl, rfl, rfl, True.intro⟩) (.cons .here .nil) (ImpX.here ⟨n4, h, rfl⟩)
                · rintro σ' ⟨n12, h, rfl⟩
                  unfold Q_WhereOf_j4 at h
                  refine ATodo.stop ?_
                  exact ImpX.lessP (by exact ⟨rfl, rfl, rfl, rfl, rfl, True.intro⟩) (.cons .here .nil) (ImpX.here ⟨n12, h, rfl⟩)
          · rintro σ' ⟨n10, h, rfl⟩
            unfold Q_WhereOf_j2 at h
            refine ATodo.blk ?_
            refine ATodo.blk ?_
            refine ATodo.region ?_
            refine ARun.qv (q_addw rfl rfl) rfl ?_
            refine ARun.qv (q_move rfl) rfl ?_
            refine ARun.nil ?_
            refine ATodo.stop ?_
            obtain rfl := Option.some.inj h
            refine hJ1 _ _ rfl ?_
            exact ImpX.lessP (by exact ⟨rfl, rfl, rfl, rfl, rfl, True.intro⟩) (.cons .here .nil) (ImpX.here rfl)
    · replace h := iteF hc h
      refine ATodo.exit rfl ?_
      replace h := outL h hA1
      unfold Q_WhereOf_k5 at h
      refine ATodo.seq ?_
      refine ATodo.seq ?_
      refine ATodo.region ?_
      refine ARun.qv (q_move rfl) rfl ?_
      refine ARun.qv (q_neq rfl rfl) rfl ?_
      refine ARun.nil ?_
      refine ATodo.cond_d rfl (fun hc => ?_) (fun hc => ?_)
      · replace h := iteT hc h
        refine ATodo.seq ?_
        refine ATodo.region ?_
        refine ARun.qv (q_assign rfl) rfl ?_
        refine ARun.nil ?_
        refine ATodo.ret ?_
        obtain rfl := Option.some.inj h
        exact ImpX.here ⟨_, .cons (.tmp _ _ rfl) .nil, rfl⟩
      · replace h := iteF hc h
        refine ATodo.skip ?_
        refine ATodo.seq ?_
        refine ATodo.region ?_
        refine ARun.qv (q_assign rfl) rfl ?_
        refine ARun.nil ?_
        refine ATodo.ret ?_
        obtain rfl := Option.some.inj h
        exact ImpX.here ⟨_, .cons (.tmp _ _ rfl) .nil, rfl⟩

set_option maxHeartbeats 4000000 in
theorem Q_SurelyOf_c {p0x0 : FenceS} {p1x0 : Fix} {r : Int} (h : Q_SurelyOf p0x0 p1x0 = some r) : Pu Try.prog 23 [.agg [.str p0x0.Key, .list 2 (p0x0.Corners.map Spot.av)], .agg [.str p1x0.Device, I p1x0.At, I p1x0.X, I p1x0.Y, I p1x0.Error]] (I r) := by
  unfold Q_SurelyOf at h
  refine ACall.bodyN Try.func23 rfl Try.ntmps23 Try.results23 rfl rfl ?_
  refine ATodo.seq ?_
  refine ATodo.region ?_
  refine n_box rfl rfl rfl rfl (fun b1 => ?_)
  refine n_box rfl rfl rfl rfl (fun b2 => ?_)
  refine ARun.qv (q_assign rfl) rfl ?_
  refine ARun.nil ?_
  refine ATodo.seq ?_
  refine ATodo.regionM (id := 1) (A := [0, 1, 0, 4, 15, 31]) 6 mixed rfl (by kernel_rfl) (by kernel_rfl) ?_
  refine AM.qv (n_field_ptr rfl rfl) rfl ?_
  refine AM.qv (q_load_ptr rfl rfl (.next .here) rfl) rfl ?_
  refine AM.qv (q_load_ptr_all rfl rfl .here rfl) rfl ?_
  refine AM.callp rfl (Q_spotOf_c rfl) (CoL.refl _) rfl ?_
  obtain ⟨v3, e1, h⟩ := bnd h
  refine AM.callp rfl (Q_WhereOf_c e1) (CoL.refl _) rfl ?_
  refine AM.qv (q_assign rfl) rfl ?_
  refine AM.nil ?_
  refine ARun.nil ?_
  refine ATodo.seq ?_
  refine ATodo.seq ?_
  refine ATodo.cut (fun σ' => ∃ (c4 : Bool), Q_SurelyOf_j1 v3 c4 = some r ∧ σ' = ⟨29, [(5, I v3), (27, .bool c4)], []⟩) ?_ ?_
  · refine ATodo.regionM (id := 2) (A := [0, 1, 3, 7, 15, 7, 39, 127, 255, 7, 519, 7, 2055, 7687, 16383, 32767, 65535]) 17 mixed rfl (by kernel_rfl) (by kernel_rfl) ?_
    refine AM.qv (q_move rfl) rfl ?_
    refine AM.qv (q_eql rfl rfl) rfl ?_
    refine AM.qv (q_move rfl) rfl ?_
    refine AM.guard_df rfl rfl rfl (fun hc => ?_) (fun hc => ?_)
    · replace h := iteF hc h
      refine AM.qv (n_field_ptr rfl rfl) rfl ?_
      refine AM.guard_yes rfl rfl rfl ?_
      refine AM.qv (q_load_ptr rfl rfl .here rfl) rfl ?_
      refine AM.guard_yes rfl rfl rfl ?_
      refine AM.qv (n_field_ptr rfl rfl) rfl ?_
      refine AM.guard_yes rfl rfl rfl ?_
      refine AM.qv (q_load_ptr rfl rfl .here rfl) rfl ?_
      refine AM.guard_yes rfl rfl rfl ?_
      refine AM.qv (q_mulw rfl rfl) rfl ?_
      refine AM.guard_yes rfl rfl rfl ?_
      refine AM.qv (n_build rfl rfl rfl rfl rfl) rfl ?_
      refine AM.guard_yes rfl rfl rfl ?_
      refine AM.qv (n_field_ptr rfl rfl) rfl ?_
      refine AM.guard_yes rfl rfl rfl ?_
      refine AM.qv (q_load_ptr rfl rfl (.next .here) rfl) rfl ?_
      refine AM.guard_yes rfl rfl rfl ?_
      refine AM.qv (q_load_ptr_all rfl rfl .here rfl) rfl ?_
      refine AM.guard_yes rfl rfl rfl ?_
      refine AM.callp rfl (Q_spotOf_c rfl) (CoL.refl _) rfl ?_
      refine AM.guard_yes rfl rfl rfl ?_
      obtain ⟨v5, e2, h⟩ := bnd h
      refine AM.callp rfl (Q_FarOf_c e2) (CoL.refl _) rfl ?_
      refine AM.guard_yes rfl rfl rfl ?_
      obtain ⟨v6, e3, h⟩ := bnd h
      refine AM.callp rfl (Q_less_c e3) (CoL.refl _) rfl ?_
      refine AM.guard_yes rfl rfl rfl ?_
      refine AM.qv (q_not rfl) rfl ?_
      refine AM.qv (q_pick_f rfl rfl) rfl ?_
      refine AM.nil ?_
      refine ARun.nil ?_
      refine ATodo.stop ?_
      exact ImpX.lessP (by exact ⟨rfl, rfl, True.intro⟩) (.nil) (ImpX.here ⟨!v6, h, rfl⟩)
    · replace h := iteT hc h
      refine AM.guard_no rfl rfl rfl rfl ?_
      refine AM.guard_no rfl rfl rfl rfl ?_
      refine AM.guard_no rfl rfl rfl rfl ?_
      refine AM.guard_no rfl rfl rfl rfl ?_
      refine AM.guard_no rfl rfl rfl rfl ?_
      refine AM.guard_no rfl rfl rfl rfl ?_
      refine AM.guard_no rfl rfl rfl rfl ?_
      refine AM.guard_no rfl rfl rfl rfl ?_
      refine AM.guard_no rfl rfl rfl rfl ?_
      refine AM.guard_no rfl rfl rfl rfl ?_
      refine AM.guard_no rfl rfl rfl rfl ?_
      refine AM.guard_no rfl rfl rfl rfl ?_
      refine AM.qv (q_pick_t rfl rfl) rfl ?_
      refine AM.nil ?_
      refine ARun.nil ?_
      refine ATodo.stop ?_
      exact ImpX.lessP (by exact ⟨rfl, rfl, True.intro⟩) (.nil) (ImpX.here ⟨true, h, rfl⟩)
  · rintro σ' ⟨c4, h, rfl⟩
    unfold Q_SurelyOf_j1 at h
    refine ATodo.cond rfl (fun hc => ?_) (fun hc => ?_)
    · replace h := iteT hc h
      refine ATodo.seq ?_
      refine ATodo.region ?_
      refine ARun.qv (q_assign rfl) rfl ?_
      refine ARun.nil ?_
      refine ATodo.ret ?_
      obtain rfl := Option.some.inj h
      exact ImpX.here ⟨_, .cons (.tmp _ _ rfl) .nil, rfl⟩
    · replace h := iteFb hc h
      refine ATodo.skip ?_
      refine ATodo.seq ?_
      refine ATodo.region ?_
      refine ARun.qv (q_move rfl) rfl ?_
      refine ARun.qv (q_assign rfl) rfl ?_
      refine ARun.nil ?_
      refine ATodo.ret ?_
      obtain rfl := Option.some.inj h
      exact ImpX.here ⟨_, .cons (.tmp _ _ rfl) .nil, rfl⟩

set_option maxHeartbeats 4000000 in
theorem place_Cell_c {p0x0 : Spot} {p1x0 : Int} {r : Str × Int} (h : place_Cell p0x0 p1x0 = some r) : Pu Try.prog 106 [.agg [I p0x0.X, I p0x0.Y], I p1x0] (.tup [.str r.1, I r.2]) := by
  unfold place_Cell at h
  refine ACall.bodyN Try.func106 rfl Try.ntmps106 Try.results106 rfl rfl ?_
  refine ATodo.seq ?_
  refine ATodo.region ?_
  refine n_box rfl rfl rfl rfl (fun b1 => ?_)
  refine ARun.qv (q_assign rfl) rfl ?_
  refine ARun.qv (q_assign rfl) rfl ?_
  refine ARun.nil ?_
  refine ATodo.seq ?_
  refine ATodo.seq ?_
  refine ATodo.cut (fun σ' => ∃ (c2 : Bool), place_Cell_j1 p0x0 p1x0 c2 = some r ∧ σ' = ⟨47, [(1, I p1x0), (2, .ptr b1 0), (16, .bool c2)], [(b1, .cells [I p0x0.X, I p0x0.Y])]⟩) ?_ ?_
  · refine ATodo.region ?_
    refine ARun.qv (q_load_ptr_all rfl rfl .here rfl) rfl ?_
    refine r_callp rfl (place_isSpot_c rfl) (CoL.refl _) rfl ?_
    refine ARun.qv (q_not rfl) rfl ?_
    refine ARun.qv (q_move rfl) rfl ?_
    refine ARun.guard rfl rfl rfl (fun hc => ?_) (fun hc => ?_)
    · rw [orFb hc] at h
      refine ARun.qv (q_move rfl) rfl ?_
      refine ARun.guard_yes rfl rfl rfl ?_
      refine r_callp rfl (base_Out_c rfl) (CoL.refl _) rfl ?_
      refine ARun.qv (q_pick_f rfl rfl) rfl ?_
      refine ARun.nil ?_
      refine ATodo.stop ?_
      exact ImpX.lessP (by exact ⟨rfl, rfl, rfl, True.intro⟩) (.cons .here .nil) (ImpX.here ⟨(base_Out p1x0 (0 : Int) (15 : Int)), h, rfl⟩)
    · rw [orTb hc] at h
      refine ARun.guard_no rfl rfl rfl rfl ?_
      refine ARun.qv (q_pick_t rfl rfl) rfl ?_
      refine ARun.nil ?_
      refine ATodo.stop ?_
      exact ImpX.lessP (by exact ⟨rfl, rfl, rfl, True.intro⟩) (.cons .here .nil) (ImpX.here ⟨true, h, rfl⟩)
  · rintro σ' ⟨c2, h, rfl⟩
    unfold place_Cell_j1 at h
    refine ATodo.cond rfl (fun hc => ?_) (fun hc => ?_)
    · replace h := iteT hc h
      refine ATodo.seq ?_
      refine ATodo.region ?_
      refine ARun.qv (q_assign rfl) rfl ?_
      refine ARun.qv (q_assign rfl) rfl ?_
      refine ARun.nil ?_
      refine ATodo.ret ?_
      obtain rfl := Option.some.inj h
      exact ImpX.here ⟨_, .cons (.tmp _ _ rfl) (.cons (.tmp _ _ rfl) .nil), rfl⟩
    · replace h := iteFb hc h
      refine ATodo.skip ?_
      refine ATodo.seq ?_
      refine ATodo.region ?_
      refine ARun.qv (q_assign rfl) rfl ?_
      refine ARun.nil ?_
      refine ATodo.seq ?_
      refine ATodo.regionM (id := 4) (A := [0, 1, 3, 0, 8, 24, 7, 127, 255]) 9 mixed rfl (by kernel_rfl) (by kernel_rfl) ?_
      refine AM.qv (n_field_ptr rfl rfl) rfl ?_
      refine AM.qv (q_load_ptr rfl rfl .here rfl) rfl ?_
      refine AM.qv (q_subw rfl rfl) rfl ?_
      refine AM.qv (n_field_ptr rfl rfl) rfl ?_
      refine AM.qv (q_load_ptr rfl rfl .here rfl) rfl ?_
      refine AM.qv (q_subw rfl rfl) rfl ?_
      refine AM.qv (q_assign rfl) rfl ?_
      refine AM.qv (q_assign rfl) rfl ?_
      refine AM.qv (q_assign rfl) rfl ?_
      refine AM.nil ?_
      refine ARun.nil ?_
      refine ATodo.seq ?_
      refine ATodo.seq ?_
      refine ATodo.region ?_
      refine ARun.qv (q_move rfl) rfl ?_
      refine ARun.qv (q_move rfl) rfl ?_
      refine ARun.nil ?_
      refine ATodo.block ?_
      refine ATodo.loopI (fun x : (List Int) × Int × Int => place_Cell_b1 p0x0 p1x0 x.1 x.2.1 x.2.2) (fun x σ' => ∃ (b7 : Bk), σ' = ⟨47, [(6, .sl 1 b7 0 x.1.length), (7, I (w64 (p0x0.X - (-16384 : Int)))), (8, I (w64 (p0x0.Y - (-16384 : Int)))), (9, I x.2.1), (23, I p1x0), (24, I x.2.2)], [(b7, .arr 1 (x.1.map (AV.int .u8)))]⟩) h ?_ ?_
      · refine ImpX.arr (s := 6) 1 rfl (fun b11 => ?_)
        exact ImpX.lessP (by exact ⟨rfl, rfl, rfl, rfl, rfl, rfl, True.intro⟩) (.cons .here .nil) (ImpX.here ⟨b11, rfl⟩)
      · intro x z1 σ' J1 hmk h hJ1 hA1
        obtain ⟨l8, n9, n10⟩ := x
        obtain ⟨b7, rfl⟩ := hmk
        replace h : place_Cell_b1 p0x0 p1x0 l8 n9 n10 = some z1 := h
        unfold place_Cell_b1 at h
        refine ATodo.seq ?_
        refine ATodo.region ?_
        refine ARun.qv (q_lss rfl rfl) rfl ?_
        refine ARun.nil ?_
        refine ATodo.seq ?_
        refine ATodo.cond_d rfl (fun hc => ?_) (fun hc => ?_)
        · replace h := iteT hc h
          refine ATodo.skip ?_
          refine ATodo.seq ?_
          refine ATodo.block ?_
          refine ATodo.seq ?_
          refine ATodo.region ?_
          refine ARun.qv (q_move rfl) rfl ?_
          refine ARun.qv (t_quo rfl rfl (by decide)) rfl ?_
          refine ARun.qv (q_assign rfl) rfl ?_
          refine ARun.nil ?_
          refine ATodo.regionM (id := 8) (A := [0, 0, 0, 6, 14, 30, 62, 0, 0, 384, 896, 1920, 3968, 8190, 16382, 32767, 65535]) 15 mixed rfl (by kernel_rfl) (by kernel_rfl) ?_
          refine AM.qv (q_move rfl) rfl ?_
          refine AM.qv (q_move rfl) rfl ?_
          refine AM.qv (q_move rfl) rfl ?_
          obtain ⟨n12, e1, h⟩ := bnd h
          refine AM.qv (t_quoS rfl rfl e1) rfl ?_
          refine AM.qv (q_rem rfl rfl (by decide)) rfl ?_
          refine AM.qv (q_conv_int rfl) rfl ?_
          refine AM.qv (q_addw rfl rfl) rfl ?_
          refine AM.qv (q_move rfl) rfl ?_
          refine AM.qv (q_move rfl) rfl ?_
          obtain ⟨n13, e2, h⟩ := bnd h
          refine AM.qv (t_quoS rfl rfl e2) rfl ?_
          refine AM.qv (q_rem rfl rfl (by decide)) rfl ?_
          refine AM.qv (q_conv_int rfl) rfl ?_
          refine AM.qv (q_mulw rfl rfl) rfl ?_
          refine AM.qv (q_addw rfl rfl) rfl ?_
          refine AM.buildSliceL (xs := ([IntKind.u8.wrap ((IntKind.u8.wrap ((48 : Int) + (IntKind.u8.wrap (n12.tmod (2 : Int))))) + (IntKind.u8.wrap ((2 : Int) * (IntKind.u8.wrap (n13.tmod (2 : Int))))))]).map (AV.int .u8)) rfl rfl rfl rfl rfl rfl ?_
          refine AM.nil ?_
          obtain ⟨l14, e3, h⟩ := bnd h
          refine t_append (g := (AV.int .u8)) rfl rfl rfl rfl rfl rfl rfl rfl (.list _) e3 (fun _ => .here) rfl (fun b15 => ?_)
          refine ARun.qv (q_assign rfl) rfl ?_
          refine ARun.nil ?_
          refine ATodo.blk ?_
          refine ATodo.region ?_
          refine ARun.qv (q_addw rfl rfl) rfl ?_
          refine ARun.qv (q_move rfl) rfl ?_
          refine ARun.nil ?_
          refine ATodo.stop ?_
          obtain rfl := Option.some.inj h
          refine hJ1 _ _ rfl ?_
          exact ImpX.lessP (by exact ⟨rfl, rfl, rfl, rfl, rfl, rfl, True.intro⟩) (.cons .here .nil) (ImpX.here ⟨b15, rfl⟩)
        · replace h := iteF hc h
          refine ATodo.exit rfl ?_
          replace h := outL h hA1
          refine ATodo.seq ?_
          refine ATodo.region ?_
          refine ARun.qv (q_move rfl) rfl ?_
          refine ARun.qv (q_conv_bs rfl (CoB.arrT .here)) rfl ?_
          refine ARun.qv (q_assign rfl) rfl ?_
          refine ARun.qv (q_assign rfl) rfl ?_
          refine ARun.nil ?_
          refine ATodo.ret ?_
          obtain rfl := Option.some.inj h
          exact ImpX.here ⟨_, .cons (.tmp _ _ rfl) (.cons (.tmp _ _ rfl) .nil), rfl⟩

set_option maxHeartbeats 4000000 in
theorem L_placed_c {r : Bool} (h : L_placed = some r) : Pu Try.prog 24 [] (.bool r) := by
  unfold L_placed at h
  refine ACall.bodyN Try.func24 rfl Try.ntmps24 Try.results24 rfl rfl ?_
  refine ATodo.seq ?_
  refine ATodo.region ?_
  refine ARun.qv (q_assign rfl) rfl ?_
  refine ARun.nil ?_
  refine ATodo.seq ?_
  refine ATodo.region ?_
  refine ARun.qv (n_build rfl rfl rfl rfl rfl) rfl ?_
  obtain ⟨v1, e1, h⟩ := bnd h
  refine r_callp rfl (place_Cell_c e1) (CoL.refl _) rfl ?_
  refine ARun.qv (q_move rfl) rfl ?_
  refine ARun.qv (q_extract rfl rfl) rfl ?_
  refine ARun.qv (q_extract rfl rfl) rfl ?_
  refine ARun.qv (q_assign rfl) rfl ?_
  refine ARun.qv (q_assign rfl) rfl ?_
  refine ARun.nil ?_
  refine ATodo.seq ?_
  refine ATodo.cut (fun σ' => ∃ (c2 : Bool), L_placed_j1 c2 = some r ∧ σ' = ⟨14, [(0, .bool c2)], []⟩) ?_ ?_
  · refine ATodo.region ?_
    refine ARun.qv (q_move rfl) rfl ?_
    refine ARun.qv (q_eql rfl rfl) rfl ?_
    refine ARun.qv (q_move rfl) rfl ?_
    refine ARun.guard_dt rfl rfl rfl (fun hc => ?_) (fun hc => ?_)
    · rw [andTd hc] at h
      refine ARun.qv (q_move rfl) rfl ?_
      refine ARun.guard_yes rfl rfl rfl ?_
      refine ARun.qv (q_seq rfl rfl) rfl ?_
      refine ARun.qv (q_pick_t rfl rfl) rfl ?_
      refine ARun.qv (q_assign rfl) rfl ?_
      refine ARun.nil ?_
      refine ATodo.stop ?_
      exact ImpX.lessP (by exact ⟨rfl, True.intro⟩) (.nil) (ImpX.here ⟨decide (v1.1 = ([51] : Str)), h, rfl⟩)
    · rw [andFd hc] at h
      refine ARun.guard_no rfl rfl rfl rfl ?_
      refine ARun.qv (q_pick_f rfl rfl) rfl ?_
      refine ARun.qv (q_assign rfl) rfl ?_
      refine ARun.nil ?_
      refine ATodo.stop ?_
      exact ImpX.lessP (by exact ⟨rfl, True.intro⟩) (.nil) (ImpX.here ⟨false, h, rfl⟩)
  · rintro σ' ⟨c2, h, rfl⟩
    unfold L_placed_j1 at h
    refine ATodo.ret ?_
    obtain rfl := Option.some.inj h
    exact ImpX.here ⟨_, .cons (.tmp _ _ rfl) .nil, rfl⟩

set_option maxHeartbeats 4000000 in
theorem L_FencesSure_c {p0x0 : List Int} {r : Bool} (h : L_FencesSure p0x0 = some r) : Pu Try.prog 3 [.list 1 (p0x0.map I)] (.bool r) := by
  unfold L_FencesSure at h
  refine ACall.bodyN Try.func3 rfl Try.ntmps3 Try.results3 rfl rfl ?_
  refine ATodo.seq ?_
  refine ATodo.region ?_
  refine ARun.qv (q_assign rfl) rfl ?_
  refine ARun.nil ?_
  refine ATodo.seq ?_
  refine ATodo.region ?_
  refine ARun.qv (q_move rfl) rfl ?_
  refine ARun.qv (n_build rfl rfl rfl rfl rfl) rfl ?_
  refine n_box rfl rfl rfl rfl (fun b1 => ?_)
  refine ARun.qv (q_assign rfl) rfl ?_
  refine ARun.nil ?_
  refine ATodo.seq ?_
  refine ATodo.region ?_
  refine ARun.qv (q_move rfl) rfl ?_
  obtain ⟨v2, e1, h⟩ := bnd h
  refine t_call0 rfl (Stream_Fence_c e1) (CoL.refl _) (.cons .here .nil) rfl rfl ?_
  refine ARun.qv (q_move rfl) rfl ?_
  obtain ⟨v3, e2, h⟩ := bnd h
  refine t_call0 rfl (Stream_Spot_c e2) (CoL.refl _) (.cons .here .nil) rfl rfl ?_
  refine n_alloc rfl rfl rfl rfl (fun b4 => ?_)
  refine n_alloc rfl rfl rfl rfl (fun b5 => ?_)
  refine n_store_ptr rfl rfl rfl rfl (.next .here) rfl rfl ?_
  refine n_store_ptr rfl rfl rfl rfl .here rfl rfl ?_
  refine ARun.nil ?_
  refine ATodo.seq ?_
  obtain ⟨v6, e3, h⟩ := bnd h
  obtain ⟨v7, e4, h⟩ := bnd h
  obtain ⟨v8, e5, h⟩ := bnd h
  refine ATodo.regionT (id := 3) (A := [0, 0, 3, 0, 15, 0, 32, 0, 128, 0, 0, 1567, 4095, 0, 16383]) (H0 := [(b1, .cells [.list 1 (v3.2.L.map I), I v3.2.at_])]) (HH := fun β => [(b1, .cells [.list 1 (v8.2.L.map I), I v8.2.at_]), ((β 13), .cells [.str [], I (0 : Int), I (0 : Int), I (0 : Int), I (0 : Int)]), (b5, .cells [I v3.1.X, I v3.1.Y]), (b4, .cells [.str v2.1.Key, .list 2 (v2.1.Corners.map Spot.av)])]) 14 mixed rfl (by kernel_rfl) (by kernel_rfl) [⟨none, some 2, [], fun _ => (b1, .cells [.list 1 (v3.2.L.map I), I v3.2.at_]), none⟩, ⟨some 2, some 4, [], fun _ => (b1, .cells [.list 1 (v6.2.L.map I), I v6.2.at_]), none⟩, ⟨some 4, some 11, [], fun _ => (b1, .cells [.list 1 (v7.2.L.map I), I v7.2.at_]), none⟩, ⟨some 11, none, [], fun _ => (b1, .cells [.list 1 (v8.2.L.map I), I v8.2.at_]), none⟩, ⟨some 13, none, [], fun b => (b, .cells [.str [], I (0 : Int), I (0 : Int), I (0 : Int), I (0 : Int)]), none⟩] [13] rfl (by kernel_rfl) rfl (.cons (.next (.next .here)) .nil) (fun _ => rfl) ?_
  refine AT.am 2 rfl rfl ?_
  refine AM.qv (q_move rfl) rfl ?_
  refine AM.buildSliceL (xs := ([([100] : Str), ([100] : Str), ([100] : Str), ([] : Str)]).map AV.str) rfl rfl rfl rfl rfl rfl ?_
  refine AM.nil ?_
  refine AT.runS (av := .str v6.1) (Ti := [(b1, .cells [.list 1 (v3.2.L.map I), I v3.2.at_])]) (Pi := [(b1, .cells [.list 1 (v6.2.L.map I), I v6.2.at_])]) (fun _ => rfl) (fun _ => rfl) (fun _ => rfl) rfl rfl rfl ?_ ?_
  · refine t_call0 rfl (Stream_Some_c e3) (CoL.refl _) (.cons .here .nil) rfl rfl ?_
    exact ARun.nil ⟨_, rfl, rfl⟩
  refine AT.am 1 rfl rfl ?_
  refine AM.qv (q_move rfl) rfl ?_
  refine AM.nil ?_
  refine AT.runS (av := I v7.1) (Ti := [(b1, .cells [.list 1 (v6.2.L.map I), I v6.2.at_])]) (Pi := [(b1, .cells [.list 1 (v7.2.L.map I), I v7.2.at_])]) (fun _ => rfl) (fun _ => rfl) (fun _ => rfl) rfl rfl rfl ?_ ?_
  · refine t_call0 rfl (Stream_Odd_c e4) (CoL.refl _) (.cons .here .nil) rfl rfl ?_
    exact ARun.nil ⟨_, rfl, rfl⟩
  refine AT.am 6 rfl rfl ?_
  refine AM.qv (n_field_ptr rfl rfl) rfl ?_
  refine AM.qv (q_load_ptr rfl rfl .here rfl) rfl ?_
  refine AM.qv (n_field_ptr rfl rfl) rfl ?_
  refine AM.qv (q_load_ptr rfl rfl .here rfl) rfl ?_
  refine AM.qv (q_move rfl) rfl ?_
  refine AM.buildSliceL (xs := ([(0 : Int), (1 : Int), (2 : Int), (3 : Int), (5 : Int), (10 : Int), (10000 : Int), (-1 : Int)]).map I) rfl rfl rfl rfl rfl rfl ?_
  refine AM.nil ?_
  refine AT.runS (av := I v8.1) (Ti := [(b1, .cells [.list 1 (v7.2.L.map I), I v7.2.at_])]) (Pi := [(b1, .cells [.list 1 (v8.2.L.map I), I v8.2.at_])]) (fun _ => rfl) (fun _ => rfl) (fun _ => rfl) rfl rfl rfl ?_ ?_
  · refine t_call0 rfl (Stream_Pick_c e5) (CoL.refl _) (.cons .here .nil) rfl rfl ?_
    exact ARun.nil ⟨_, rfl, rfl⟩
  refine AT.am 1 rfl rfl ?_
  refine AM.qv (n_build rfl rfl rfl rfl rfl) rfl ?_
  refine AM.nil ?_
  refine AT.runD (V := fun b => .ptr b 0) (Ti := []) (Pi := fun b => [(b, .cells [.str [], I (0 : Int), I (0 : Int), I (0 : Int), I (0 : Int)])]) (fun _ => rfl) (fun _ => rfl) (fun _ _ => rfl) rfl (fun _ => rfl) rfl rfl rfl ?_ ?_
  · refine n_alloc rfl rfl rfl rfl (fun b9 => ?_)
    exact ARun.nil ⟨b9, _, rfl, rfl⟩
  refine AT.nilN (fun _ => rfl) (fun β => ?_)
  generalize β 13 = b9
  clear β
  refine n_store_ptr rfl rfl rfl rfl (.next .here) rfl rfl ?_
  refine ARun.nil ?_
  refine ATodo.seq ?_
  refine ATodo.region ?_
  refine ARun.qv (q_load_ptr_all rfl rfl (.next (.next (.next .here))) rfl) rfl ?_
  refine ARun.qv (q_load_ptr_all rfl rfl (.next (.next .here)) rfl) rfl ?_
  obtain ⟨v10, e6, h⟩ := bnd h
  refine r_callp rfl (place_Far_c e6) (CoL.refl _) rfl ?_
  refine ARun.qv (q_move rfl) rfl ?_
  refine ARun.qv (q_extract rfl rfl) rfl ?_
  refine ARun.qv (q_extract rfl rfl) rfl ?_
  refine n_alloc rfl rfl rfl rfl (fun b11 => ?_)
  refine n_store_ptr rfl rfl rfl rfl .here rfl rfl ?_
  refine ARun.qv (q_assign rfl) rfl ?_
  refine ARun.nil ?_
  refine ATodo.seq ?_
  refine ATodo.region ?_
  refine ARun.qv (q_load_ptr_all rfl rfl (.next (.next (.next (.next .here)))) rfl) rfl ?_
  refine ARun.qv (q_load_ptr_all rfl rfl (.next (.next .here)) rfl) rfl ?_
  obtain ⟨v12, e7, h⟩ := bnd h
  refine r_callp rfl (place_Surely_c e7) (CoL.refl _) rfl ?_
  refine ARun.qv (q_move rfl) rfl ?_
  refine ARun.qv (q_extract rfl rfl) rfl ?_
  refine ARun.qv (q_extract rfl rfl) rfl ?_
  refine ARun.qv (q_assign rfl) rfl ?_
  refine ARun.qv (q_assign rfl) rfl ?_
  refine ARun.nil ?_
  refine ATodo.seq ?_
  refine ATodo.region ?_
  refine ARun.qv (q_load_ptr_all rfl rfl (.next (.next (.next (.next .here)))) rfl) rfl ?_
  obtain ⟨v13, e8, h⟩ := bnd h
  refine r_callp rfl (Q_FenceFault_c e8) (CoL.refl _) rfl ?_
  refine ARun.qv (q_assign rfl) rfl ?_
  refine ARun.nil ?_
  refine ATodo.seq ?_
  refine ATodo.regionM (id := 7) (A := [0, 0, 2, 7, 15, 0, 0, 64, 223, 511, 1023, 2047, 4095]) 13 mixed rfl (by kernel_rfl) (by kernel_rfl) ?_
  refine AM.qv (q_move rfl) rfl ?_
  refine AM.qv (q_load_ptr_all rfl rfl (.next (.next (.next .here))) rfl) rfl ?_
  refine AM.callp rfl (Q_SpotFault_c rfl) (CoL.refl _) rfl ?_
  refine AM.buildSliceL (xs := ([v13, (Q_SpotFault v3.1)] : List Int).map I) rfl rfl rfl rfl rfl rfl ?_
  obtain ⟨v14, e9, h⟩ := bnd h
  refine AM.callp rfl (L_errs_c e9) (CoL.refl _) rfl ?_
  refine AM.qv (q_move rfl) rfl ?_
  refine AM.qv (q_load_ptr_all rfl rfl (.next (.next .here)) rfl) rfl ?_
  refine AM.buildSliceL (xs := ([(⟨v6.1, v7.1, v3.1.X, v3.1.Y, v8.1⟩ : Fix)]).map Fix.av) rfl rfl rfl rfl rfl rfl ?_
  obtain ⟨v15, e10, h⟩ := bnd h
  refine AM.callp rfl (Q_FixesFault_c e10) (CoL.refl _) rfl ?_
  refine AM.buildSliceL (xs := ([v13, v15] : List Int).map I) rfl rfl rfl rfl rfl rfl ?_
  obtain ⟨v16, e11, h⟩ := bnd h
  refine AM.callp rfl (L_errs_c e11) (CoL.refl _) rfl ?_
  refine AM.qv (q_assign rfl) rfl ?_
  refine AM.qv (q_assign rfl) rfl ?_
  refine AM.nil ?_
  refine ARun.nil ?_
  refine ATodo.seq ?_
  refine ATodo.region ?_
  refine ARun.qv (n_build rfl rfl rfl rfl rfl) rfl ?_
  refine n_alloc rfl rfl rfl rfl (fun b17 => ?_)
  refine n_store_ptr rfl rfl rfl rfl .here rfl rfl ?_
  refine ARun.qv (q_assign rfl) rfl ?_
  refine ARun.nil ?_
  refine ATodo.seq ?_
  refine ATodo.seq ?_
  refine ATodo.region ?_
  refine ARun.qv (q_move rfl) rfl ?_
  refine ARun.qv (q_eql rfl rfl) rfl ?_
  refine ARun.nil ?_
  refine ATodo.cut (fun σ' => ∃ (n18 : Int) (n19 : Int), L_FencesSure_j1 v2 v3 v6 v7 v8 v10 v12 v14 v16 n18 n19 = some r ∧ σ' = ⟨94, [(4, .ptr b4 0), (6, .ptr b9 0), (7, .ptr b11 0), (8, I v10.2), (9, I v12.1), (10, I v12.2), (12, I v14), (13, I v16), (14, .ptr b17 0), (15, I (0 : Int))], [(b4, .cells [.str v2.1.Key, .list 2 (v2.1.Corners.map Spot.av)]), (b9, .cells [.str v6.1, I v7.1, I v3.1.X, I v3.1.Y, I v8.1]), (b11, .cells [I v10.1.Num, I v10.1.Den]), (b17, .cells [I n18, I n19])]⟩) ?_ ?_
  · refine ATodo.cond_d rfl (fun hc => ?_) (fun hc => ?_)
    · replace h := iteT hc h
      refine ATodo.region ?_
      refine ARun.qv (n_field_ptr rfl rfl) rfl ?_
      refine ARun.qv (q_load_ptr rfl rfl (.next (.next (.next (.next (.next .here))))) rfl) rfl ?_
      refine ARun.qv (q_load_ptr_all rfl rfl (.next (.next (.next (.next .here)))) rfl) rfl ?_
      obtain ⟨v20, e12, h⟩ := bnd h
      refine r_callp rfl (Q_FarOf_c e12) (CoL.refl _) rfl ?_
      refine n_store_ptr rfl rfl rfl rfl .here rfl rfl ?_
      refine ARun.nil ?_
      refine ATodo.stop ?_
      exact ImpX.lessP (by exact ⟨rfl, rfl, rfl, rfl, rfl, rfl, rfl, rfl, rfl, rfl, True.intro⟩) (.cons (.next (.next (.next (.next (.next .here))))) (.cons (.next (.next (.next .here))) (.cons (.next .here) (.cons .here .nil)))) (ImpX.here ⟨v20.Num, v20.Den, h, rfl⟩)
    · replace h := iteF hc h
      refine ATodo.skip ?_
      refine ATodo.stop ?_
      exact ImpX.lessP (by exact ⟨rfl, rfl, rfl, rfl, rfl, rfl, rfl, rfl, rfl, rfl, True.intro⟩) (.cons (.next (.next (.next (.next (.next .here))))) (.cons (.next (.next (.next .here))) (.cons (.next .here) (.cons .here .nil)))) (ImpX.here ⟨(0 : Int), (0 : Int), h, rfl⟩)
  · rintro σ' ⟨n18, n19, h, rfl⟩
    unfold L_FencesSure_j1 at h
    refine ATodo.seq ?_
    refine ATodo.seq ?_
    refine ATodo.region ?_
    refine ARun.qv (q_move rfl) rfl ?_
    refine ARun.qv (q_eql rfl rfl) rfl ?_
    refine ARun.nil ?_
    refine ATodo.cut (fun σ' => ∃ (n21 : Int), L_FencesSure_j2 v10 v12 v14 v16 n18 n19 n21 = some r ∧ σ' = ⟨94, [(7, .ptr b11 0), (8, I v10.2), (9, I v12.1), (10, I v12.2), (12, I v14), (13, I v16), (14, .ptr b17 0), (15, I n21)], [(b11, .cells [I v10.1.Num, I v10.1.Den]), (b17, .cells [I n18, I n19])]⟩) ?_ ?_
    · refine ATodo.cond_d rfl (fun hc => ?_) (fun hc => ?_)
      · replace h := iteT hc h
        refine ATodo.region ?_
        refine ARun.qv (q_load_ptr_all rfl rfl .here rfl) rfl ?_
        refine ARun.qv (q_load_ptr_all rfl rfl (.next .here) rfl) rfl ?_
        obtain ⟨v22, e13, h⟩ := bnd h
        refine r_callp rfl (Q_SurelyOf_c e13) (CoL.refl _) rfl ?_
        refine ARun.qv (q_assign rfl) rfl ?_
        refine ARun.nil ?_
        refine ATodo.stop ?_
        exact ImpX.lessP (by exact ⟨rfl, rfl, rfl, rfl, rfl, rfl, rfl, rfl, True.intro⟩) (.cons (.next (.next .here)) (.cons (.next (.next .here)) .nil)) (ImpX.here ⟨v22, h, rfl⟩)
      · replace h := iteF hc h
        refine ATodo.skip ?_
        refine ATodo.stop ?_
        exact ImpX.lessP (by exact ⟨rfl, rfl, rfl, rfl, rfl, rfl, rfl, rfl, True.intro⟩) (.cons (.next (.next .here)) (.cons (.next (.next .here)) .nil)) (ImpX.here ⟨(0 : Int), h, rfl⟩)
    · rintro σ' ⟨n21, h, rfl⟩
      unfold L_FencesSure_j2 at h
      refine ATodo.seq ?_
      refine ATodo.cut (fun σ' => ∃ (c23 : Bool), L_FencesSure_j3 c23 = some r ∧ σ' = ⟨94, [(2, .bool c23)], []⟩) ?_ ?_
      · refine ATodo.region ?_
        refine ARun.qv (q_move rfl) rfl ?_
        refine ARun.qv (q_move rfl) rfl ?_
        refine ARun.qv (q_eql rfl rfl) rfl ?_
        refine ARun.qv (q_move rfl) rfl ?_
        refine ARun.guard_dt rfl rfl rfl (fun hc => ?_) (fun hc => ?_)
        · replace h := iteT hc h
          refine ARun.qv (q_load_ptr_all rfl rfl .here rfl) rfl ?_
          refine ARun.guard_yes rfl rfl rfl ?_
          refine ARun.qv (q_load_ptr_all rfl rfl (.next .here) rfl) rfl ?_
          refine ARun.guard_yes rfl rfl rfl ?_
          refine ARun.qv (t_teq (g := Fraction.av) (X := v10.1) (Y := (⟨n18, n19⟩ : Fraction)) rfl rfl rfl rfl rfl) rfl ?_
          refine ARun.qv (q_pick_t rfl rfl) rfl ?_
          refine ARun.qv (q_move rfl) rfl ?_
          refine ARun.guard_dt rfl rfl rfl (fun hc => ?_) (fun hc => ?_)
          · replace h := iteT hc h
            refine ARun.qv (q_move rfl) rfl ?_
            refine ARun.guard_yes rfl rfl rfl ?_
            refine ARun.qv (q_move rfl) rfl ?_
            refine ARun.guard_yes rfl rfl rfl ?_
            refine ARun.qv (q_eql rfl rfl) rfl ?_
            refine ARun.qv (q_pick_t rfl rfl) rfl ?_
            refine ARun.qv (q_move rfl) rfl ?_
            refine ARun.guard_dt rfl rfl rfl (fun hc => ?_) (fun hc => ?_)
            · replace h := iteT hc h
              refine ARun.qv (q_move rfl) rfl ?_
              refine ARun.guard_yes rfl rfl rfl ?_
              refine ARun.qv (q_move rfl) rfl ?_
              refine ARun.guard_yes rfl rfl rfl ?_
              refine ARun.qv (q_eql rfl rfl) rfl ?_
              refine ARun.qv (q_pick_t rfl rfl) rfl ?_
              refine ARun.qv (q_move rfl) rfl ?_
              refine ARun.guard_dt rfl rfl rfl (fun hc => ?_) (fun hc => ?_)
              · replace h := iteT hc h
                obtain ⟨v24, e14, h⟩ := bnd h
                refine r_callp rfl (L_placed_c e14) (CoL.refl _) rfl ?_
                refine ARun.qv (q_pick_t rfl rfl) rfl ?_
                refine ARun.qv (q_assign rfl) rfl ?_
                refine ARun.nil ?_
                refine ATodo.stop ?_
                exact ImpX.lessP (by exact ⟨rfl, True.intro⟩) (.nil) (ImpX.here ⟨v24, h, rfl⟩)
              · replace h := iteF hc h
                refine ARun.qv (q_pick_f rfl rfl) rfl ?_
                refine ARun.qv (q_assign rfl) rfl ?_
                refine ARun.nil ?_
                refine ATodo.stop ?_
                exact ImpX.lessP (by exact ⟨rfl, True.intro⟩) (.nil) (ImpX.here ⟨false, h, rfl⟩)
            · replace h := iteF hc h
              refine ARun.guard_no rfl rfl rfl rfl ?_
              refine ARun.guard_no rfl rfl rfl rfl ?_
              refine ARun.qv (q_pick_f rfl rfl) rfl ?_
              refine ARun.qv (q_move rfl) rfl ?_
              refine ARun.guard_no rfl rfl rfl rfl ?_
              refine ARun.qv (q_pick_f rfl rfl) rfl ?_
              refine ARun.qv (q_assign rfl) rfl ?_
              refine ARun.nil ?_
              refine ATodo.stop ?_
              exact ImpX.lessP (by exact ⟨rfl, True.intro⟩) (.nil) (ImpX.here ⟨false, h, rfl⟩)
          · replace h := iteF hc h
            refine ARun.guard_no rfl rfl rfl rfl ?_
            refine ARun.guard_no rfl rfl rfl rfl ?_
            refine ARun.qv (q_pick_f rfl rfl) rfl ?_
            refine ARun.qv (q_move rfl) rfl ?_
            refine ARun.guard_no rfl rfl rfl rfl ?_
            refine ARun.guard_no rfl rfl rfl rfl ?_
            refine ARun.guard_no rfl rfl rfl rfl ?_
            refine ARun.qv (q_pick_f rfl rfl) rfl ?_
            refine ARun.qv (q_move rfl) rfl ?_
            refine ARun.guard_no rfl rfl rfl rfl ?_
            refine ARun.qv (q_pick_f rfl rfl) rfl ?_
            refine ARun.qv (q_assign rfl) rfl ?_
            refine ARun.nil ?_
            refine ATodo.stop ?_
            exact ImpX.lessP (by exact ⟨rfl, True.intro⟩) (.nil) (ImpX.here ⟨false, h, rfl⟩)
        · replace h := iteF hc h
          refine ARun.guard_no rfl rfl rfl rfl ?_
          refine ARun.guard_no rfl rfl rfl rfl ?_
          refine ARun.qv (q_pick_f rfl rfl) rfl ?_
          refine ARun.qv (q_move rfl) rfl ?_
          refine ARun.guard_no rfl rfl rfl rfl ?_
          refine ARun.guard_no rfl rfl rfl rfl ?_
          refine ARun.guard_no rfl rfl rfl rfl ?_
          refine ARun.qv (q_pick_f rfl rfl) rfl ?_
          refine ARun.qv (q_move rfl) rfl ?_
          refine ARun.guard_no rfl rfl rfl rfl ?_
          refine ARun.guard_no rfl rfl rfl rfl ?_
          refine ARun.guard_no rfl rfl rfl rfl ?_
          refine ARun.qv (q_pick_f rfl rfl) rfl ?_
          refine ARun.qv (q_move rfl) rfl ?_
          refine ARun.guard_no rfl rfl rfl rfl ?_
          refine ARun.qv (q_pick_f rfl rfl) rfl ?_
          refine ARun.qv (q_assign rfl) rfl ?_
          refine ARun.nil ?_
          refine ATodo.stop ?_
          exact ImpX.lessP (by exact ⟨rfl, True.intro⟩) (.nil) (ImpX.here ⟨false, h, rfl⟩)
      · rintro σ' ⟨c23, h, rfl⟩
        unfold L_FencesSure_j3 at h
        refine ATodo.ret ?_
        obtain rfl := Option.some.inj h
        exact ImpX.here ⟨_, .cons (.tmp _ _ rfl) .nil, rfl⟩

end Go.Proofs.Ytkmbppeelkbjoaa
