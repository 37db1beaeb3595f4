/- The code computes the plain functions: proofs written by shal.py. -/
import Derived.Test.YtkmbppeelkbjoaaTrvW2
set_option maxRecDepth 100000
set_option linter.unusedVariables false
set_option linter.unusedSimpArgs false
namespace Go.Proofs.Ytkmbppeelkbjoaa
open Go Go.Eng Go.Proofs Go.Beacon
attribute [local irreducible] ARun ATodo AQ QV ACall ImpX AWp AM
set_option maxHeartbeats 4000000 in
theorem Q_FarOf_c {p0x0 : List Spot} {p1x0 : Spot} {r : Fraction} (h : Q_FarOf p0x0 p1x0 = some r) : Pu Try.prog 22 [.list 2 (p0x0.map Spot.av), .agg [I p1x0.X, I p1x0.Y]] (.agg [I r.Num, I r.Den]) := by
  unfold Q_FarOf at h
  refine ACall.bodyN Try.func22 rfl Try.ntmps22 Try.results22 rfl rfl ?_
  refine ATodo.seq ?_
  refine ATodo.region ?_
  refine n_box rfl rfl rfl rfl (fun b1 => ?_)
  refine n_alloc rfl rfl rfl rfl (fun b2 => ?_)
  refine ARun.nil ?_
  refine ATodo.seq ?_
  refine ATodo.region ?_
  refine ARun.qv (q_move rfl) rfl ?_
  obtain ⟨v3, e1, h⟩ := bnd h
  refine r_callp rfl (Q_edge_c e1) (CoL.refl _) rfl ?_
  refine ARun.qv (q_move rfl) rfl ?_
  refine ARun.qv (q_extract rfl rfl) rfl ?_
  refine ARun.qv (q_extract rfl rfl) rfl ?_
  refine n_alloc rfl rfl rfl rfl (fun b4 => ?_)
  refine n_alloc rfl rfl rfl rfl (fun b5 => ?_)
  refine n_store_ptr rfl rfl rfl rfl (.next .here) rfl rfl ?_
  refine n_store_ptr rfl rfl rfl rfl .here rfl rfl ?_
  refine ARun.nil ?_
  refine ATodo.seq ?_
  refine ATodo.region ?_
  refine ARun.qv (q_load_ptr_all rfl rfl (.next .here) rfl) rfl ?_
  refine ARun.qv (q_load_ptr_all rfl rfl .here rfl) rfl ?_
  refine ARun.qv (q_load_ptr_all rfl rfl (.next (.next (.next .here))) rfl) rfl ?_
  obtain ⟨v6, e2, h⟩ := bnd h
  refine r_callp rfl (Q_farWay_c e2) (CoL.refl _) rfl ?_
  refine n_alloc rfl rfl rfl rfl (fun b7 => ?_)
  refine n_store_ptr rfl rfl rfl rfl .here rfl rfl ?_
  refine ARun.nil ?_
  refine ATodo.seq ?_
  refine ATodo.seq ?_
  refine ATodo.region ?_
  refine ARun.qv (q_move rfl) rfl ?_
  refine ARun.qv (t_len rfl) rfl ?_
  refine ARun.qv (q_move rfl) rfl ?_
  refine ARun.nil ?_
  refine ATodo.block ?_
  refine ATodo.loopI (fun x : Int × Int × Int × Int × Int × Int × Int => Q_FarOf_b1 p0x0 p1x0 x.1 x.2.1 x.2.2.1 x.2.2.2.1 x.2.2.2.2.1 x.2.2.2.2.2.1 x.2.2.2.2.2.2) (fun x σ' => σ' = ⟨40, [(0, .list 2 (p0x0.map Spot.av)), (3, .ptr b1 0), (4, .ptr b2 0), (5, .ptr b4 0), (6, .ptr b5 0), (7, .ptr b7 0), (20, I (p0x0.length : Int)), (21, I x.2.2.2.2.2.2)], [(b1, .cells [I p1x0.X, I p1x0.Y]), (b2, .cells [I (0 : Int), I (0 : Int)]), (b4, .cells [I x.1, I x.2.1]), (b5, .cells [I x.2.2.1, I x.2.2.2.1]), (b7, .cells [I x.2.2.2.2.1, I x.2.2.2.2.2.1])]⟩) h ?_ ?_
  · exact ImpX.lessP (by exact ⟨rfl, rfl, rfl, rfl, rfl, rfl, rfl, rfl, True.intro⟩) (.cons (.next (.next (.next (.next .here)))) (.cons (.next (.next (.next .here))) (.cons (.next (.next .here)) (.cons (.next .here) (.cons .here .nil))))) (ImpX.here rfl)
  · intro x z1 σ' J1 hmk h hJ1 hA1
    obtain ⟨n15, n16, n17, n18, n19, n20, n21⟩ := x
    obtain rfl := hmk
    replace h : Q_FarOf_b1 p0x0 p1x0 n15 n16 n17 n18 n19 n20 n21 = some z1 := h
    unfold Q_FarOf_b1 at h
    refine ATodo.seq ?_
    refine ATodo.region ?_
    refine ARun.qv (q_lss rfl rfl) rfl ?_
    refine ARun.nil ?_
    refine ATodo.seq ?_
    refine ATodo.cond_d rfl (fun hc => ?_) (fun hc => ?_)
    · replace h := iteT hc h
      refine ATodo.skip ?_
      refine ATodo.seq ?_
      refine ATodo.block ?_
      refine ATodo.seq ?_
      refine ATodo.region ?_
      refine ARun.qv (q_move rfl) rfl ?_
      refine ARun.qv (q_assign rfl) rfl ?_
      refine ARun.nil ?_
      refine ATodo.seq ?_
      refine ATodo.region ?_
      refine ARun.qv (q_move rfl) rfl ?_
      refine ARun.qv (q_move rfl) rfl ?_
      obtain ⟨v22, e3, h⟩ := bnd h
      refine r_callp rfl (Q_edge_c e3) (CoL.refl _) rfl ?_
      refine ARun.qv (q_move rfl) rfl ?_
      refine ARun.qv (q_extract rfl rfl) rfl ?_
      refine ARun.qv (q_extract rfl rfl) rfl ?_
      refine n_store_ptr rfl rfl rfl rfl (.next (.next .here)) rfl rfl ?_
      refine n_store_ptr rfl rfl rfl rfl (.next (.next (.next .here))) rfl rfl ?_
      refine ARun.nil ?_
      refine ATodo.seq ?_
      refine ATodo.region ?_
      refine ARun.qv (q_load_ptr_all rfl rfl (.next (.next .here)) rfl) rfl ?_
      refine ARun.qv (q_load_ptr_all rfl rfl (.next (.next (.next .here))) rfl) rfl ?_
      refine ARun.qv (q_load_ptr_all rfl rfl .here rfl) rfl ?_
      obtain ⟨v23, e4, h⟩ := bnd h
      refine r_callp rfl (Q_farWay_c e4) (CoL.refl _) rfl ?_
      refine n_alloc rfl rfl rfl rfl (fun b24 => ?_)
      refine n_store_ptr rfl rfl rfl rfl .here rfl rfl ?_
      refine ARun.nil ?_
      refine ATodo.seq ?_
      refine ATodo.region ?_
      refine ARun.qv (q_load_ptr_all rfl rfl .here rfl) rfl ?_
      refine ARun.qv (q_load_ptr_all rfl rfl (.next (.next (.next (.next (.next .here))))) rfl) rfl ?_
      obtain ⟨v25, e5, h⟩ := bnd h
      refine r_callp rfl (Q_less_c e5) (CoL.refl _) rfl ?_
      refine ARun.nil ?_
      refine ATodo.cut (fun σ' => ∃ (n26 : Int) (n27 : Int), Q_FarOf_j1 n21 v22 n26 n27 = some z1 ∧ σ' = ⟨40, [(0, .list 2 (p0x0.map Spot.av)), (3, .ptr b1 0), (4, .ptr b2 0), (5, .ptr b4 0), (6, .ptr b5 0), (7, .ptr b7 0), (20, I (p0x0.length : Int)), (21, I n21)], [(b1, .cells [I p1x0.X, I p1x0.Y]), (b2, .cells [I (0 : Int), I (0 : Int)]), (b4, .cells [I v22.1.X, I v22.1.Y]), (b5, .cells [I v22.2.X, I v22.2.Y]), (b7, .cells [I n26, I n27])]⟩) ?_ ?_
      · refine ATodo.cond rfl (fun hc => ?_) (fun hc => ?_)
        · replace h := iteT hc h
          refine ATodo.region ?_
          refine ARun.qv (q_load_ptr_all rfl rfl .here rfl) rfl ?_
          refine n_store_ptr rfl rfl rfl rfl (.next (.next (.next (.next (.next .here))))) rfl rfl ?_
          refine ARun.nil ?_
          refine ATodo.stop ?_
          exact ImpX.lessP (by exact ⟨rfl, rfl, rfl, rfl, rfl, rfl, rfl, rfl, True.intro⟩) (.cons (.next .here) (.cons (.next .here) (.cons (.next .here) (.cons (.next .here) (.cons (.next .here) .nil))))) (ImpX.here ⟨v23.Num, v23.Den, h, rfl⟩)
        · replace h := iteFb hc h
          refine ATodo.skip ?_
          refine ATodo.stop ?_
          exact ImpX.lessP (by exact ⟨rfl, rfl, rfl, rfl, rfl, rfl, rfl, rfl, True.intro⟩) (.cons (.next .here) (.cons (.next .here) (.cons (.next .here) (.cons (.next .here) (.cons (.next .here) .nil))))) (ImpX.here ⟨n19, n20, h, rfl⟩)
      · rintro σ' ⟨n26, n27, h, rfl⟩
        unfold Q_FarOf_j1 at h
        refine ATodo.blk ?_
        refine ATodo.region ?_
        refine ARun.qv (q_addw rfl rfl) rfl ?_
        refine ARun.qv (q_move rfl) rfl ?_
        refine ARun.nil ?_
        refine ATodo.stop ?_
        obtain rfl := Option.some.inj h
        refine hJ1 _ _ rfl ?_
        exact ImpX.lessP (by exact ⟨rfl, rfl, rfl, rfl, rfl, rfl, rfl, rfl, True.intro⟩) (.cons .here (.cons .here (.cons .here (.cons .here (.cons .here .nil))))) (ImpX.here rfl)
    · replace h := iteF hc h
      refine ATodo.exit rfl ?_
      replace h := outL h hA1
      refine ATodo.seq ?_
      refine ATodo.region ?_
      refine ARun.qv (q_load_ptr_all rfl rfl (.next (.next (.next (.next .here)))) rfl) rfl ?_
      refine n_store_ptr rfl rfl rfl rfl (.next .here) rfl rfl ?_
      refine ARun.nil ?_
      refine ATodo.ret ?_
      obtain rfl := Option.some.inj h
      exact ImpX.here ⟨_, .cons (.all _ _ _ _ _ _ rfl (.next .here) TUnder.h TInfo.h rfl rfl) .nil, rfl⟩

set_option maxHeartbeats 4000000 in
theorem Q_SurelyOf_c {p0x0 : FenceS} {p1x0 : Fix} {r : Int} (h : Q_SurelyOf p0x0 p1x0 = some r) : Pu Try.prog 23 [.agg [.str p0x0.Key, .list 2 (p0x0.Corners.map Spot.av)], .agg [.str p1x0.Device, I p1x0.At, I p1x0.X, I p1x0.Y, I p1x0.Error]] (I r) := by
  unfold Q_SurelyOf at h
  refine ACall.bodyN Try.func23 rfl Try.ntmps23 Try.results23 rfl rfl ?_
  refine ATodo.seq ?_
  refine ATodo.region ?_
  refine n_box rfl rfl rfl rfl (fun b1 => ?_)
  refine n_box rfl rfl rfl rfl (fun b2 => ?_)
  refine ARun.qv (q_assign rfl) rfl ?_
  refine ARun.nil ?_
  refine ATodo.seq ?_
  refine ATodo.regionM (id := 1) (A := [0, 1, 0, 4, 15, 31]) 6 mixed rfl (by kernel_rfl) (by kernel_rfl) ?_
  refine AM.qv (n_field_ptr rfl rfl) rfl ?_
  refine AM.qv (q_load_ptr rfl rfl (.next .here) rfl) rfl ?_
  refine AM.qv (q_load_ptr_all rfl rfl .here rfl) rfl ?_
  refine AM.callp rfl (Q_spotOf_c rfl) (CoL.refl _) rfl ?_
  obtain ⟨v3, e1, h⟩ := bnd h
  refine AM.callp rfl (Q_WhereOf_c e1) (CoL.refl _) rfl ?_
  refine AM.qv (q_assign rfl) rfl ?_
  refine AM.nil ?_
  refine ARun.nil ?_
  refine ATodo.seq ?_
  refine ATodo.seq ?_
  refine ATodo.cut (fun σ' => ∃ (c4 : Bool), Q_SurelyOf_j1 v3 c4 = some r ∧ σ' = ⟨29, [(5, I v3), (27, .bool c4)], []⟩) ?_ ?_
  · refine ATodo.regionM (id := 2) (A := [0, 1, 3, 7, 15, 7, 39, 127, 255, 7, 519, 7, 2055, 7687, 16383, 32767, 65535]) 17 mixed rfl (by kernel_rfl) (by kernel_rfl) ?_
    refine AM.qv (q_move rfl) rfl ?_
    refine AM.qv (q_eql rfl rfl) rfl ?_
    refine AM.qv (q_move rfl) rfl ?_
    refine AM.guard_df rfl rfl rfl (fun hc => ?_) (fun hc => ?_)
    · replace h := iteF hc h
      refine AM.qv (n_field_ptr rfl rfl) rfl ?_
      refine AM.guard_yes rfl rfl rfl ?_
      refine AM.qv (q_load_ptr rfl rfl .here rfl) rfl ?_
      refine AM.guard_yes rfl rfl rfl ?_
      refine AM.qv (n_field_ptr rfl rfl) rfl ?_
      refine AM.guard_yes rfl rfl rfl ?_
      refine AM.qv (q_load_ptr rfl rfl .here rfl) rfl ?_
      refine AM.guard_yes rfl rfl rfl ?_
      refine AM.qv (q_mulw rfl rfl) rfl ?_
      refine AM.guard_yes rfl rfl rfl ?_
      refine AM.qv (n_build rfl rfl rfl rfl rfl) rfl ?_
      refine AM.guard_yes rfl rfl rfl ?_
      refine AM.qv (n_field_ptr rfl rfl) rfl ?_
      refine AM.guard_yes rfl rfl rfl ?_
      refine AM.qv (q_load_ptr rfl rfl (.next .here) rfl) rfl ?_
      refine AM.guard_yes rfl rfl rfl ?_
      refine AM.qv (q_load_ptr_all rfl rfl .here rfl) rfl ?_
      refine AM.guard_yes rfl rfl rfl ?_
      refine AM.callp rfl (Q_spotOf_c rfl) (CoL.refl _) rfl ?_
      refine AM.guard_yes rfl rfl rfl ?_
      obtain ⟨v5, e2, h⟩ := bnd h
      refine AM.callp rfl (Q_FarOf_c e2) (CoL.refl _) rfl ?_
      refine AM.guard_yes rfl rfl rfl ?_
      obtain ⟨v6, e3, h⟩ := bnd h
      refine AM.callp rfl (Q_less_c e3) (CoL.refl _) rfl ?_
      refine AM.guard_yes rfl rfl rfl ?_
      refine AM.qv (q_not rfl) rfl ?_
      refine AM.qv (q_pick_f rfl rfl) rfl ?_
      refine AM.nil ?_
      refine ARun.nil ?_
      refine ATodo.stop ?_
      exact ImpX.lessP (by exact ⟨rfl, rfl, True.intro⟩) (.nil) (ImpX.here ⟨!v6, h, rfl⟩)
    · replace h := iteT hc h
      refine AM.guard_no rfl rfl rfl rfl ?_
      refine AM.guard_no rfl rfl rfl rfl ?_
      refine AM.guard_no rfl rfl rfl rfl ?_
      refine AM.guard_no rfl rfl rfl rfl ?_
      refine AM.guard_no rfl rfl rfl rfl ?_
      refine AM.guard_no rfl rfl rfl rfl ?_
      refine AM.guard_no rfl rfl rfl rfl ?_
      refine AM.guard_no rfl rfl rfl rfl ?_
      refine AM.guard_no rfl rfl rfl rfl ?_
      refine AM.guard_no rfl rfl rfl rfl ?_
      refine AM.guard_no rfl rfl rfl rfl ?_
      refine AM.guard_no rfl rfl rfl rfl ?_
      refine AM.qv (q_pick_t rfl rfl) rfl ?_
      refine AM.nil ?_
      refine ARun.nil ?_
      refine ATodo.stop ?_
      exact ImpX.lessP (by exact ⟨rfl, rfl, True.intro⟩) (.nil) (ImpX.here ⟨true, h, rfl⟩)
  · rintro σ' ⟨c4, h, rfl⟩
    unfold Q_SurelyOf_j1 at h
    refine ATodo.cond rfl (fun hc => ?_) (fun hc => ?_)
    · replace h := iteT hc h
      refine ATodo.seq ?_
      refine ATodo.region ?_
      refine ARun.qv (q_assign rfl) rfl ?_
      refine ARun.nil ?_
      refine ATodo.ret ?_
      obtain rfl := Option.some.inj h
      exact ImpX.here ⟨_, .cons (.tmp _ _ rfl) .nil, rfl⟩
    · replace h := iteFb hc h
      refine ATodo.skip ?_
      refine ATodo.seq ?_
      refine ATodo.region ?_
      refine ARun.qv (q_move rfl) rfl ?_
      refine ARun.qv (q_assign rfl) rfl ?_
      refine ARun.nil ?_
      refine ATodo.ret ?_
      obtain rfl := Option.some.inj h
      exact ImpX.here ⟨_, .cons (.tmp _ _ rfl) .nil, rfl⟩

set_option maxHeartbeats 4000000 in
theorem Q_VisitsOf_c {p0x0 : FenceS} {p1x0 : List Fix} {r : (List Visit)} (h : Q_VisitsOf p0x0 p1x0 = some r) : ACall Try.prog 31 [.agg [.str p0x0.Key, .list 2 (p0x0.Corners.map Spot.av)], .list 5 (p1x0.map Fix.av)] [] (T1 (fun d_0 => [(d_0, .arr 2 (r.map Visit.av))]) (fun d_0 => .sl 2 d_0 0 r.length)) := by
  unfold Q_VisitsOf at h
  refine ACall.lessH ?_
  refine ACall.bodyN Try.func31 rfl Try.ntmps31 Try.results31 rfl rfl ?_
  refine ATodo.seq ?_
  refine ATodo.region ?_
  refine n_box rfl rfl rfl rfl (fun b1 => ?_)
  refine ARun.qv (q_assign rfl) rfl ?_
  refine ARun.nil ?_
  refine ATodo.seq ?_
  refine ATodo.region ?_
  refine ARun.qv (q_assign rfl) rfl ?_
  refine ARun.nil ?_
  refine ATodo.seq ?_
  refine ATodo.region ?_
  refine ARun.qv (q_assign rfl) rfl ?_
  refine ARun.nil ?_
  refine ATodo.seq ?_
  refine ATodo.seq ?_
  refine ATodo.region ?_
  refine ARun.qv (q_move rfl) rfl ?_
  refine ARun.qv (t_len rfl) rfl ?_
  refine ARun.qv (q_move rfl) rfl ?_
  refine ARun.nil ?_
  refine ATodo.block ?_
  refine ATodo.loopI (fun x : (List Visit) × Bool × Int => Q_VisitsOf_b1 p0x0 p1x0 x.1 x.2.1 x.2.2) (fun x σ' => ∃ (b6 : Bk), σ' = ⟨48, [(2, .ptr b1 0), (5, .sl 2 b6 0 x.1.length), (6, .bool x.2.1), (10, .list 5 (p1x0.map Fix.av)), (11, I (p1x0.length : Int)), (12, I x.2.2)], [(b1, .cells [.str p0x0.Key, .list 2 (p0x0.Corners.map Spot.av)]), (b6, .arr 2 (x.1.map Visit.av))]⟩) h ?_ ?_
  · refine ImpX.arr (s := 5) 2 rfl (fun b10 => ?_)
    exact ImpX.lessP (by exact ⟨rfl, rfl, rfl, rfl, rfl, rfl, True.intro⟩) (.cons (.next .here) (.cons .here .nil)) (ImpX.here ⟨b10, rfl⟩)
  · intro x z1 σ' J1 hmk h hJ1 hA1
    obtain ⟨l7, c8, n9⟩ := x
    obtain ⟨b6, rfl⟩ := hmk
    replace h : Q_VisitsOf_b1 p0x0 p1x0 l7 c8 n9 = some z1 := h
    unfold Q_VisitsOf_b1 at h
    refine ATodo.seq ?_
    refine ATodo.region ?_
    refine ARun.qv (q_lss rfl rfl) rfl ?_
    refine ARun.nil ?_
    refine ATodo.seq ?_
    refine ATodo.cond_d rfl (fun hc => ?_) (fun hc => ?_)
    · replace h := iteT hc h
      refine ATodo.skip ?_
      refine ATodo.seq ?_
      refine ATodo.block ?_
      refine ATodo.seq ?_
      refine ATodo.region ?_
      obtain ⟨v11, e1, h⟩ := bnd h
      refine ARun.qv (t_index rfl rfl rfl e1 rfl rfl) rfl ?_
      refine ARun.qv (q_load_rptr_agg rfl rfl rfl) rfl ?_
      refine n_alloc rfl rfl rfl rfl (fun b12 => ?_)
      refine n_store_ptr rfl rfl rfl rfl .here rfl rfl ?_
      refine ARun.nil ?_
      refine ATodo.seq ?_
      refine ATodo.region ?_
      refine ARun.qv (q_load_ptr_all rfl rfl (.next .here) rfl) rfl ?_
      refine ARun.qv (q_load_ptr_all rfl rfl .here rfl) rfl ?_
      obtain ⟨v13, e2, h⟩ := bnd h
      refine r_callp rfl (Q_SurelyOf_c e2) (CoL.refl _) rfl ?_
      refine ARun.qv (q_assign rfl) rfl ?_
      refine ARun.nil ?_
      refine ATodo.block ?_
      refine ATodo.seq ?_
      refine ATodo.cut (fun σ' => ∃ (c14 : Bool), Q_VisitsOf_j1 l7 c8 n9 v11 v13 c14 = some z1 ∧ σ' = ⟨48, [(2, .ptr b1 0), (5, .sl 2 b6 0 l7.length), (6, .bool c8), (8, .ptr b12 0), (9, I v13), (10, .list 5 (p1x0.map Fix.av)), (11, I (p1x0.length : Int)), (12, I n9), (19, .bool c14)], [(b1, .cells [.str p0x0.Key, .list 2 (p0x0.Corners.map Spot.av)]), (b6, .arr 2 (l7.map Visit.av)), (b12, .cells [.str v11.Device, I v11.At, I v11.X, I v11.Y, I v11.Error])]⟩) ?_ ?_
      · refine ATodo.region ?_
        refine ARun.qv (q_move rfl) rfl ?_
        refine ARun.qv (q_eql rfl rfl) rfl ?_
        refine ARun.qv (q_move rfl) rfl ?_
        refine ARun.guard_dt rfl rfl rfl (fun hc => ?_) (fun hc => ?_)
        · rw [andTd hc] at h
          refine ARun.qv (q_move rfl) rfl ?_
          refine ARun.guard_yes rfl rfl rfl ?_
          refine ARun.qv (q_not rfl) rfl ?_
          refine ARun.qv (q_pick_t rfl rfl) rfl ?_
          refine ARun.qv (q_assign rfl) rfl ?_
          refine ARun.nil ?_
          refine ATodo.stop ?_
          exact ImpX.lessP (by exact ⟨rfl, rfl, rfl, rfl, rfl, rfl, rfl, rfl, rfl, True.intro⟩) (.cons (.next .here) (.cons (.next .here) (.cons .here .nil))) (ImpX.here ⟨!c8, h, rfl⟩)
        · rw [andFd hc] at h
          refine ARun.guard_no rfl rfl rfl rfl ?_
          refine ARun.qv (q_pick_f rfl rfl) rfl ?_
          refine ARun.qv (q_assign rfl) rfl ?_
          refine ARun.nil ?_
          refine ATodo.stop ?_
          exact ImpX.lessP (by exact ⟨rfl, rfl, rfl, rfl, rfl, rfl, rfl, rfl, rfl, True.intro⟩) (.cons (.next .here) (.cons (.next .here) (.cons .here .nil))) (ImpX.here ⟨false, h, rfl⟩)
      · rintro σ' ⟨c14, h, rfl⟩
        unfold Q_VisitsOf_j1 at h
        refine ATodo.cut (fun σ' => ∃ (b15 : Bk) (l16 : List Visit) (c17 : Bool), Q_VisitsOf_j2 n9 l16 c17 = some z1 ∧ σ' = ⟨48, [(2, .ptr b1 0), (5, .sl 2 b15 0 l16.length), (6, .bool c17), (10, .list 5 (p1x0.map Fix.av)), (11, I (p1x0.length : Int)), (12, I n9)], [(b1, .cells [.str p0x0.Key, .list 2 (p0x0.Corners.map Spot.av)]), (b15, .arr 2 (l16.map Visit.av))]⟩) ?_ ?_
        · refine ATodo.cond rfl (fun hc => ?_) (fun hc => ?_)
          · replace h := iteT hc h
            refine ATodo.region ?_
            refine ARun.qv (q_move rfl) rfl ?_
            refine ARun.qv (n_field_ptr rfl rfl) rfl ?_
            refine ARun.qv (q_load_ptr rfl rfl (.next (.next .here)) rfl) rfl ?_
            refine ARun.qv (n_build rfl rfl rfl rfl rfl) rfl ?_
            refine n_buildSliceL (xs := ([(⟨v11.At, (-1 : Int)⟩ : Visit)]).map Visit.av) rfl rfl rfl rfl rfl rfl ?_
            obtain ⟨l18, e3, h⟩ := bnd h
            refine t_append (g := Visit.av) rfl rfl rfl rfl rfl rfl rfl rfl (.list _) e3 (fun _ => (.next .here)) rfl (fun b19 => ?_)
            refine ARun.qv (q_assign rfl) rfl ?_
            refine ARun.qv (q_assign rfl) rfl ?_
            refine ARun.nil ?_
            refine ATodo.stop ?_
            exact ImpX.lessP (by exact ⟨rfl, rfl, rfl, rfl, rfl, rfl, True.intro⟩) (.cons .here (.cons .here .nil)) (ImpX.here ⟨b19, l18, true, h, rfl⟩)
          · replace h := iteFb hc h
            refine ATodo.seq ?_
            refine ATodo.cut (fun σ' => ∃ (c20 : Bool), Q_VisitsOf_j3 l7 c8 n9 v11 c20 = some z1 ∧ σ' = ⟨48, [(2, .ptr b1 0), (5, .sl 2 b6 0 l7.length), (6, .bool c8), (8, .ptr b12 0), (10, .list 5 (p1x0.map Fix.av)), (11, I (p1x0.length : Int)), (12, I n9), (32, .bool c20)], [(b1, .cells [.str p0x0.Key, .list 2 (p0x0.Corners.map Spot.av)]), (b6, .arr 2 (l7.map Visit.av)), (b12, .cells [.str v11.Device, I v11.At, I v11.X, I v11.Y, I v11.Error])]⟩) ?_ ?_
            · refine ATodo.region ?_
              refine ARun.qv (q_move rfl) rfl ?_
              refine ARun.qv (q_eql rfl rfl) rfl ?_
              refine ARun.qv (q_move rfl) rfl ?_
              refine ARun.guard_dt rfl rfl rfl (fun hc => ?_) (fun hc => ?_)
              · rw [andTd hc] at h
                refine ARun.qv (q_move rfl) rfl ?_
                refine ARun.qv (q_pick_t rfl rfl) rfl ?_
                refine ARun.qv (q_assign rfl) rfl ?_
                refine ARun.nil ?_
                refine ATodo.stop ?_
                exact ImpX.lessP (by exact ⟨rfl, rfl, rfl, rfl, rfl, rfl, rfl, rfl, True.intro⟩) (.cons .here (.cons .here (.cons .here .nil))) (ImpX.here ⟨c8, h, rfl⟩)
              · rw [andFd hc] at h
                refine ARun.qv (q_pick_f rfl rfl) rfl ?_
                refine ARun.qv (q_assign rfl) rfl ?_
                refine ARun.nil ?_
                refine ATodo.stop ?_
                exact ImpX.lessP (by exact ⟨rfl, rfl, rfl, rfl, rfl, rfl, rfl, rfl, True.intro⟩) (.cons .here (.cons .here (.cons .here .nil))) (ImpX.here ⟨false, h, rfl⟩)
            · rintro σ' ⟨c20, h, rfl⟩
              unfold Q_VisitsOf_j3 at h
              refine ATodo.cut (fun σ' => ∃ (l21 : List Visit) (c22 : Bool), Q_VisitsOf_j4 n9 l21 c22 = some z1 ∧ σ' = ⟨48, [(2, .ptr b1 0), (5, .sl 2 b6 0 l21.length), (6, .bool c22), (10, .list 5 (p1x0.map Fix.av)), (11, I (p1x0.length : Int)), (12, I n9)], [(b1, .cells [.str p0x0.Key, .list 2 (p0x0.Corners.map Spot.av)]), (b6, .arr 2 (l21.map Visit.av))]⟩) ?_ ?_
              · refine ATodo.cond rfl (fun hc => ?_) (fun hc => ?_)
                · replace h := iteT hc h
                  refine ATodo.region ?_
                  refine ARun.qv (q_move rfl) rfl ?_
                  refine ARun.qv (q_move rfl) rfl ?_
                  refine ARun.qv (t_len_sl rfl) rfl ?_
                  refine ARun.qv (q_subw rfl rfl) rfl ?_
                  refine ARun.qv (n_field_ptr rfl rfl) rfl ?_
                  refine ARun.qv (q_load_ptr rfl rfl (.next (.next .here)) rfl) rfl ?_
                  obtain ⟨v23, e4, h⟩ := bnd h
                  refine ARun.qv (t_index_sl rfl rfl rfl e4) rfl ?_
                  refine ARun.qv (t_field_aptr rfl rfl) rfl ?_
                  refine t_store_aptr1 (g := Visit.av) (el' := (⟨v23.From, v11.At⟩ : Visit)) rfl rfl rfl rfl e4 rfl (.next .here) rfl ?_
                  refine ARun.ghost (ImpX.eqs (s := 5) (av' := .sl 2 b6 0 (l7.set (w64 ((l7.length : Int) - (1 : Int))).toNat (⟨v23.From, v11.At⟩ : Visit)).length) rfl (by rw [List.length_set]) (ImpX.here ?_))
                  refine ARun.ghost (ImpX.eqs (s := 38) (av' := .sl 2 b6 0 (l7.set (w64 ((l7.length : Int) - (1 : Int))).toNat (⟨v23.From, v11.At⟩ : Visit)).length) rfl (by rw [List.length_set]) (ImpX.here ?_))
                  refine ARun.ghost (ImpX.eqs (s := 39) (av' := .sl 2 b6 0 (l7.set (w64 ((l7.length : Int) - (1 : Int))).toNat (⟨v23.From, v11.At⟩ : Visit)).length) rfl (by rw [List.length_set]) (ImpX.here ?_))
                  refine ARun.qv (q_assign rfl) rfl ?_
                  refine ARun.nil ?_
                  refine ATodo.stop ?_
                  exact ImpX.lessP (by exact ⟨rfl, rfl, rfl, rfl, rfl, rfl, True.intro⟩) (.cons .here (.cons .here .nil)) (ImpX.here ⟨l7.set (w64 ((l7.length : Int) - (1 : Int))).toNat (⟨v23.From, v11.At⟩ : Visit), false, h, rfl⟩)
                · replace h := iteFb hc h
                  refine ATodo.skip ?_
                  refine ATodo.stop ?_
                  exact ImpX.lessP (by exact ⟨rfl, rfl, rfl, rfl, rfl, rfl, True.intro⟩) (.cons .here (.cons .here .nil)) (ImpX.here ⟨l7, c8, h, rfl⟩)
              · rintro σ' ⟨l21, c22, h, rfl⟩
                unfold Q_VisitsOf_j4 at h
                refine ATodo.stop ?_
                exact ImpX.lessP (by exact ⟨rfl, rfl, rfl, rfl, rfl, rfl, True.intro⟩) (.cons .here (.cons .here .nil)) (ImpX.here ⟨b6, l21, c22, h, rfl⟩)
        · rintro σ' ⟨b15, l16, c17, h, rfl⟩
          unfold Q_VisitsOf_j2 at h
          refine ATodo.blk ?_
          refine ATodo.blk ?_
          refine ATodo.region ?_
          refine ARun.qv (q_addw rfl rfl) rfl ?_
          refine ARun.qv (q_move rfl) rfl ?_
          refine ARun.nil ?_
          refine ATodo.stop ?_
          obtain rfl := Option.some.inj h
          refine hJ1 _ _ rfl ?_
          exact ImpX.lessP (by exact ⟨rfl, rfl, rfl, rfl, rfl, rfl, True.intro⟩) (.cons .here (.cons .here .nil)) (ImpX.here ⟨b15, rfl⟩)
    · replace h := iteF hc h
      refine ATodo.exit rfl ?_
      replace h := outL h hA1
      refine ATodo.seq ?_
      refine ATodo.region ?_
      refine ARun.qv (q_move rfl) rfl ?_
      refine ARun.qv (q_assign rfl) rfl ?_
      refine ARun.nil ?_
      refine ATodo.ret ?_
      obtain rfl := Option.some.inj h
      exact ImpX.here ⟨_, .cons (.tmp _ _ rfl) .nil, _, .cons (.next .here) .nil, ⟨b6, rfl, rfl⟩⟩

set_option maxHeartbeats 4000000 in
theorem Q_square_c {p0x0 : Fix} {p1x0 : Fix} {r : Int} (h : Q_square p0x0 p1x0 = r) : Pu Try.prog 117 [.agg [.str p0x0.Device, I p0x0.At, I p0x0.X, I p0x0.Y, I p0x0.Error], .agg [.str p1x0.Device, I p1x0.At, I p1x0.X, I p1x0.Y, I p1x0.Error]] (I r) := by
  unfold Q_square at h
  refine ACall.bodyN Try.func117 rfl Try.ntmps117 Try.results117 rfl rfl ?_
  refine ATodo.seq ?_
  refine ATodo.region ?_
  refine n_box rfl rfl rfl rfl (fun b1 => ?_)
  refine n_box rfl rfl rfl rfl (fun b2 => ?_)
  refine ARun.qv (q_assign rfl) rfl ?_
  refine ARun.nil ?_
  refine ATodo.seq ?_
  refine ATodo.regionT (id := 1) (A := [0, 1, 0, 7, 15, 0, 63]) (H0 := []) (HH := fun β => [((β 5), .cells [I (0 : Int), I (0 : Int)]), (b2, .cells [.str p1x0.Device, I p1x0.At, I p1x0.X, I p1x0.Y, I p1x0.Error]), (b1, .cells [.str p0x0.Device, I p0x0.At, I p0x0.X, I p0x0.Y, I p0x0.Error])]) 6 mixed rfl (by kernel_rfl) (by kernel_rfl) [⟨some 5, none, [], fun b => (b, .cells [I (0 : Int), I (0 : Int)]), none⟩] [5] rfl (by kernel_rfl) rfl .nil (fun _ => rfl) ?_
  refine AT.am 5 rfl rfl ?_
  refine AM.qv (q_load_ptr_all rfl rfl (.next .here) rfl) rfl ?_
  refine AM.callp rfl (Q_spotOf_c rfl) (CoL.refl _) rfl ?_
  refine AM.qv (q_load_ptr_all rfl rfl .here rfl) rfl ?_
  refine AM.callp rfl (Q_spotOf_c rfl) (CoL.refl _) rfl ?_
  refine AM.callp rfl (Q_minus_c rfl) (CoL.refl _) rfl ?_
  refine AM.nil ?_
  refine AT.runD (V := fun b => .ptr b 0) (Ti := []) (Pi := fun b => [(b, .cells [I (0 : Int), I (0 : Int)])]) (fun _ => rfl) (fun _ => rfl) (fun _ _ => rfl) rfl (fun _ => rfl) rfl rfl rfl ?_ ?_
  · refine n_alloc rfl rfl rfl rfl (fun b3 => ?_)
    exact ARun.nil ⟨b3, _, rfl, rfl⟩
  refine AT.nilN (fun _ => rfl) (fun β => ?_)
  generalize β 5 = b3
  clear β
  refine n_store_ptr rfl rfl rfl rfl .here rfl rfl ?_
  refine ARun.nil ?_
  refine ATodo.seq ?_
  refine ATodo.region ?_
  refine ARun.qv (q_load_ptr_all rfl rfl .here rfl) rfl ?_
  refine ARun.qv (q_load_ptr_all rfl rfl .here rfl) rfl ?_
  refine r_callp rfl (Q_dot_c rfl) (CoL.refl _) rfl ?_
  refine ARun.qv (q_assign rfl) rfl ?_
  refine ARun.nil ?_
  refine ATodo.ret ?_
  obtain rfl := h
  exact ImpX.here ⟨_, .cons (.tmp _ _ rfl) .nil, rfl⟩

set_option maxHeartbeats 4000000 in
theorem Q_StaysOf_1x_c {p0x0 : Fix} {p1x0 : List Fix} {p2x0 : Int} {r : Bool} (h : Q_StaysOf_1x p0x0 p1x0 p2x0 = some r) : Pu Try.prog 116 [.agg [.str p0x0.Device, I p0x0.At, I p0x0.X, I p0x0.Y, I p0x0.Error], .rptr [.list 5 (p1x0.map Fix.av)], .rptr [I p2x0]] (.bool r) := by
  unfold Q_StaysOf_1x at h
  refine ACall.bodyN Try.func116 rfl Try.ntmps116 Try.results116 rfl rfl ?_
  refine ATodo.seq ?_
  refine ATodo.region ?_
  refine n_box rfl rfl rfl rfl (fun b1 => ?_)
  refine ARun.qv (q_assign rfl) rfl ?_
  refine ARun.nil ?_
  refine ATodo.seq ?_
  refine ATodo.regionM (id := 1) (A := [0, 0, 2, 6, 15, 0, 0, 96, 255, 511]) 10 mixed rfl (by kernel_rfl) (by kernel_rfl) ?_
  refine AM.qv (q_load_ptr_all rfl rfl .here rfl) rfl ?_
  refine AM.qv (q_load_rptr rfl rfl rfl) rfl ?_
  obtain ⟨v2, e1, h⟩ := bnd h
  refine AM.qv (t_index rfl rfl rfl e1 rfl rfl) rfl ?_
  refine AM.qv (q_load_rptr_agg rfl rfl rfl) rfl ?_
  refine AM.callp rfl (Q_square_c rfl) (CoL.refl _) rfl ?_
  refine AM.qv (q_load_rptr rfl rfl rfl) rfl ?_
  refine AM.qv (q_load_rptr rfl rfl rfl) rfl ?_
  refine AM.qv (q_mulw rfl rfl) rfl ?_
  refine AM.qv (q_gtr rfl rfl) rfl ?_
  refine AM.qv (q_assign rfl) rfl ?_
  refine AM.nil ?_
  refine ARun.nil ?_
  refine ATodo.ret ?_
  obtain rfl := Option.some.inj h
  exact ImpX.here ⟨_, .cons (.tmp _ _ rfl) .nil, rfl⟩

set_option maxHeartbeats 4000000 in
theorem Q_StaysOf_c {p0x0 : List Fix} {p1x0 : Int} {p2x0 : Int} {r : (List Stay)} (h : Q_StaysOf p0x0 p1x0 p2x0 = some r) : ACall Try.prog 32 [.list 5 (p0x0.map Fix.av), I p1x0, I p2x0] [] (T1 (fun d_0 => [(d_0, .arr 4 (r.map Stay.av))]) (fun d_0 => .sl 4 d_0 0 r.length)) := by
  unfold Q_StaysOf at h
  refine ACall.lessH ?_
  refine ACall.bodyN Try.func32 rfl Try.ntmps32 Try.results32 rfl rfl ?_
  refine ATodo.seq ?_
  refine ATodo.region ?_
  refine n_box rfl rfl rfl rfl (fun b1 => ?_)
  refine n_box rfl rfl rfl rfl (fun b2 => ?_)
  refine ARun.qv (q_assign rfl) rfl ?_
  refine ARun.nil ?_
  refine ATodo.seq ?_
  refine ATodo.region ?_
  refine ARun.qv (q_assign rfl) rfl ?_
  refine ARun.nil ?_
  refine ATodo.seq ?_
  refine ATodo.block ?_
  refine ATodo.loopI (fun x : (List Fix) × (List Stay) => Q_StaysOf_b1 p1x0 p2x0 x.1 x.2) (fun x σ' => ∃ (b7 : Bk), σ' = ⟨56, [(2, I p2x0), (3, .ptr b1 0), (4, .ptr b2 0), (7, .sl 4 b7 0 x.2.length)], [(b1, .cells [.list 5 (x.1.map Fix.av)]), (b2, .cells [I p1x0]), (b7, .arr 4 (x.2.map Stay.av))]⟩) h ?_ ?_
  · refine ImpX.arr (s := 7) 4 rfl (fun b9 => ?_)
    exact ImpX.lessP (by exact ⟨rfl, rfl, rfl, rfl, True.intro⟩) (.cons (.next (.next .here)) (.cons (.next .here) (.cons .here .nil))) (ImpX.here ⟨b9, rfl⟩)
  · intro x z1 σ' J1 hmk h hJ1 hA1
    obtain ⟨l6, l8⟩ := x
    obtain ⟨b7, rfl⟩ := hmk
    replace h : Q_StaysOf_b1 p1x0 p2x0 l6 l8 = some z1 := h
    unfold Q_StaysOf_b1 at h
    refine ATodo.seq ?_
    refine ATodo.seq ?_
    refine ATodo.region ?_
    refine ARun.qv (q_load_ptr rfl rfl .here rfl) rfl ?_
    refine ARun.qv (t_len rfl) rfl ?_
    refine ARun.qv (q_gtr rfl rfl) rfl ?_
    refine ARun.nil ?_
    refine ATodo.cond_d rfl (fun hc => ?_) (fun hc => ?_)
    · replace h := iteT hc h
      refine ATodo.skip ?_
      refine ATodo.cut (fun σ' => ∃ (b11 : Bk) (l10 : List Fix) (l12 : List Stay), Q_StaysOf_j1 l10 l12 = some z1 ∧ σ' = ⟨56, [(2, I p2x0), (3, .ptr b1 0), (4, .ptr b2 0), (7, .sl 4 b11 0 l12.length)], [(b1, .cells [.list 5 (l10.map Fix.av)]), (b2, .cells [I p1x0]), (b11, .arr 4 (l12.map Stay.av))]⟩) ?_ ?_
      · refine ATodo.block ?_
        refine ATodo.seq ?_
        refine ATodo.region ?_
        refine ARun.qv (q_load_ptr rfl rfl .here rfl) rfl ?_
        refine ARun.qv (q_makeFunc rfl) rfl ?_
        obtain ⟨v13, e1, h⟩ := bnd h
        refine r_callpB rfl (slices_IndexFunc_Fix_Fix_c (fun e => Q_StaysOf_1x_c e) e1) (.cons (.co (.refl _)) (.cons (.funcL _ _ _ (.cons (.boxL _ _ _ .here (.cons (.co (.refl _)) .nil)) (.cons (.boxL _ _ _ (.next .here) (.cons (.co (.refl _)) .nil)) .nil))) .nil)) rfl rfl ?_
        refine ARun.qv (q_assign rfl) rfl ?_
        refine ARun.nil ?_
        refine ATodo.seq ?_
        refine ATodo.seq ?_
        refine ATodo.region ?_
        refine ARun.qv (q_move rfl) rfl ?_
        refine ARun.qv (q_lss rfl rfl) rfl ?_
        refine ARun.nil ?_
        refine ATodo.cut (fun σ' => ∃ (n14 : Int), Q_StaysOf_j2 p2x0 l6 l8 n14 = some z1 ∧ σ' = ⟨56, [(2, I p2x0), (3, .ptr b1 0), (4, .ptr b2 0), (7, .sl 4 b7 0 l8.length), (8, I n14)], [(b1, .cells [.list 5 (l6.map Fix.av)]), (b2, .cells [I p1x0]), (b7, .arr 4 (l8.map Stay.av))]⟩) ?_ ?_
        · refine ATodo.cond_d rfl (fun hc => ?_) (fun hc => ?_)
          · replace h := iteT hc h
            refine ATodo.region ?_
            refine ARun.qv (q_load_ptr rfl rfl .here rfl) rfl ?_
            refine ARun.qv (t_len rfl) rfl ?_
            refine ARun.qv (q_assign rfl) rfl ?_
            refine ARun.nil ?_
            refine ATodo.stop ?_
            exact ImpX.lessP (by exact ⟨rfl, rfl, rfl, rfl, rfl, True.intro⟩) (.cons .here (.cons .here (.cons .here .nil))) (ImpX.here ⟨(l6.length : Int), h, rfl⟩)
          · replace h := iteF hc h
            refine ATodo.skip ?_
            refine ATodo.stop ?_
            exact ImpX.lessP (by exact ⟨rfl, rfl, rfl, rfl, rfl, True.intro⟩) (.cons .here (.cons .here (.cons .here .nil))) (ImpX.here ⟨v13, h, rfl⟩)
        · rintro σ' ⟨n14, h, rfl⟩
          unfold Q_StaysOf_j2 at h
          refine ATodo.seq ?_
          refine ATodo.seq ?_
          refine ATodo.regionM (id := 6) (A := [0, 0, 2, 7, 15, 31, 0, 64, 192, 448, 1023, 0, 4095]) 13 mixed rfl (by kernel_rfl) (by kernel_rfl) ?_
          refine AM.qv (q_load_ptr rfl rfl .here rfl) rfl ?_
          refine AM.qv (q_move rfl) rfl ?_
          refine AM.qv (q_subw rfl rfl) rfl ?_
          obtain ⟨v15, e2, h⟩ := bnd h
          refine AM.qv (t_index rfl rfl rfl e2 rfl rfl) rfl ?_
          refine AM.qv (n_field_rptr rfl rfl) rfl ?_
          refine AM.qv (q_load_rptr rfl rfl rfl) rfl ?_
          refine AM.qv (q_load_ptr rfl rfl .here rfl) rfl ?_
          obtain ⟨v16, e3, h⟩ := bnd h
          refine AM.qv (t_index rfl rfl rfl e3 rfl rfl) rfl ?_
          refine AM.qv (n_field_rptr rfl rfl) rfl ?_
          refine AM.qv (q_load_rptr rfl rfl rfl) rfl ?_
          refine AM.qv (q_subw rfl rfl) rfl ?_
          refine AM.qv (q_move rfl) rfl ?_
          refine AM.qv (q_lss rfl rfl) rfl ?_
          refine AM.nil ?_
          refine ARun.nil ?_
          refine ATodo.cond_d rfl (fun hc => ?_) (fun hc => ?_)
          · replace h := iteT hc h
            refine ATodo.seq ?_
            refine ATodo.region ?_
            refine ARun.qv (q_load_ptr rfl rfl .here rfl) rfl ?_
            obtain ⟨l17, e4, h⟩ := bnd h
            refine ARun.qv (t_slice_list rfl rfl (.some _ _ _ rfl) .none rfl rfl e4) rfl ?_
            refine n_store_ptr rfl rfl rfl rfl .here rfl rfl ?_
            refine ARun.nil ?_
            refine ATodo.exit rfl ?_
            refine ATodo.stop ?_
            exact ImpX.lessP (by exact ⟨rfl, rfl, rfl, rfl, True.intro⟩) (.cons .here (.cons .here (.cons .here .nil))) (ImpX.here ⟨b7, l17, l8, h, rfl⟩)
          · replace h := iteF hc h
            refine ATodo.skip ?_
            refine ATodo.seq ?_
            refine ATodo.regionM (id := 8) (A := [0, 0, 2, 6, 14, 0, 0, 64, 224, 480, 992, 0, 2048, 6144, 14336, 32766, 65534, 131071, 262143]) 17 mixed rfl (by kernel_rfl) (by kernel_rfl) ?_
            refine AM.qv (q_move rfl) rfl ?_
            refine AM.qv (q_load_ptr rfl rfl .here rfl) rfl ?_
            obtain ⟨v18, e5, h⟩ := bnd h
            refine AM.qv (t_index rfl rfl rfl e5 rfl rfl) rfl ?_
            refine AM.qv (n_field_rptr rfl rfl) rfl ?_
            refine AM.qv (q_load_rptr rfl rfl rfl) rfl ?_
            refine AM.qv (q_load_ptr rfl rfl .here rfl) rfl ?_
            refine AM.qv (q_move rfl) rfl ?_
            refine AM.qv (q_subw rfl rfl) rfl ?_
            obtain ⟨v19, e6, h⟩ := bnd h
            refine AM.qv (t_index rfl rfl rfl e6 rfl rfl) rfl ?_
            refine AM.qv (n_field_rptr rfl rfl) rfl ?_
            refine AM.qv (q_load_rptr rfl rfl rfl) rfl ?_
            refine AM.qv (q_load_ptr rfl rfl .here rfl) rfl ?_
            obtain ⟨v20, e7, h⟩ := bnd h
            refine AM.qv (t_index rfl rfl rfl e7 rfl rfl) rfl ?_
            refine AM.qv (q_load_rptr_agg rfl rfl rfl) rfl ?_
            refine AM.callp rfl (Q_spotOf_c rfl) (CoL.refl _) rfl ?_
            refine AM.qv (n_build rfl rfl rfl rfl rfl) rfl ?_
            refine AM.buildSliceL (xs := ([(⟨v18.At, v19.At, (Q_spotOf v20)⟩ : Stay)]).map Stay.av) rfl rfl rfl rfl rfl rfl ?_
            refine AM.nil ?_
            obtain ⟨l21, e8, h⟩ := bnd h
            refine t_append (g := Stay.av) rfl rfl rfl rfl rfl rfl rfl rfl (.list _) e8 (fun _ => (.next (.next .here))) rfl (fun b22 => ?_)
            refine ARun.qv (q_assign rfl) rfl ?_
            refine ARun.nil ?_
            refine ATodo.region ?_
            refine ARun.qv (q_load_ptr rfl rfl .here rfl) rfl ?_
            refine ARun.qv (q_move rfl) rfl ?_
            obtain ⟨l23, e9, h⟩ := bnd h
            refine ARun.qv (t_slice_list rfl rfl (.some _ _ _ rfl) .none rfl rfl e9) rfl ?_
            refine n_store_ptr rfl rfl rfl rfl .here rfl rfl ?_
            refine ARun.nil ?_
            refine ATodo.blk ?_
            refine ATodo.stop ?_
            exact ImpX.lessP (by exact ⟨rfl, rfl, rfl, rfl, True.intro⟩) (.cons .here (.cons .here (.cons .here .nil))) (ImpX.here ⟨b22, l23, l21, h, rfl⟩)
      · rintro σ' ⟨b11, l10, l12, h, rfl⟩
        unfold Q_StaysOf_j1 at h
        refine ATodo.stop ?_
        obtain rfl := Option.some.inj h
        refine hJ1 _ _ rfl ?_
        exact ImpX.lessP (by exact ⟨rfl, rfl, rfl, rfl, True.intro⟩) (.cons .here (.cons .here (.cons .here .nil))) (ImpX.here ⟨b11, rfl⟩)
    · replace h := iteF hc h
      refine ATodo.exit rfl ?_
      replace h := outL h hA1
      refine ATodo.seq ?_
      refine ATodo.region ?_
      refine ARun.qv (q_move rfl) rfl ?_
      refine ARun.qv (q_assign rfl) rfl ?_
      refine ARun.nil ?_
      refine ATodo.ret ?_
      obtain rfl := Option.some.inj h
      exact ImpX.here ⟨_, .cons (.tmp _ _ rfl) .nil, _, .cons (.next (.next .here)) .nil, ⟨b7, rfl, rfl⟩⟩

set_option maxHeartbeats 4000000 in
theorem Q_root_c {p0x0 : Int} {r : Int} (h : Q_root p0x0 = some r) : Pu Try.prog 118 [I p0x0] (I r) := by
  unfold Q_root at h
  refine ACall.bodyN Try.func118 rfl Try.ntmps118 Try.results118 rfl rfl ?_
  refine ATodo.seq ?_
  refine ATodo.region ?_
  refine ARun.qv (q_assign rfl) rfl ?_
  refine ARun.nil ?_
  refine ATodo.seq ?_
  refine ATodo.region ?_
  refine ARun.qv (q_assign rfl) rfl ?_
  refine ARun.qv (q_assign rfl) rfl ?_
  refine ARun.nil ?_
  refine ATodo.seq ?_
  refine ATodo.block ?_
  refine ATodo.loopI (fun x : Int × Int => Q_root_b1 p0x0 x.1 x.2) (fun x σ' => σ' = ⟨23, [(0, I p0x0), (3, I x.1), (4, I x.2)], []⟩) h ?_ ?_
  · exact ImpX.lessP (by exact ⟨rfl, rfl, rfl, True.intro⟩) (.nil) (ImpX.here rfl)
  · intro x z1 σ' J1 hmk h hJ1 hA1
    obtain ⟨n3, n4⟩ := x
    obtain rfl := hmk
    replace h : Q_root_b1 p0x0 n3 n4 = some z1 := h
    unfold Q_root_b1 at h
    refine ATodo.seq ?_
    refine ATodo.seq ?_
    refine ATodo.region ?_
    refine ARun.qv (q_move rfl) rfl ?_
    refine ARun.qv (q_move rfl) rfl ?_
    refine ARun.qv (q_lss rfl rfl) rfl ?_
    refine ARun.nil ?_
    refine ATodo.cond_d rfl (fun hc => ?_) (fun hc => ?_)
    · replace h := iteT hc h
      refine ATodo.skip ?_
      refine ATodo.block ?_
      refine ATodo.seq ?_
      refine ATodo.region ?_
      refine ARun.qv (q_move rfl) rfl ?_
      refine ARun.qv (q_move rfl) rfl ?_
      refine ARun.qv (q_addw rfl rfl) rfl ?_
      refine ARun.qv (q_addw rfl rfl) rfl ?_
      refine ARun.qv (t_quo rfl rfl (by decide)) rfl ?_
      refine ARun.qv (q_assign rfl) rfl ?_
      refine ARun.nil ?_
      refine ATodo.seq ?_
      refine ATodo.region ?_
      refine ARun.qv (q_move rfl) rfl ?_
      refine ARun.qv (q_move rfl) rfl ?_
      refine ARun.qv (q_mulw rfl rfl) rfl ?_
      refine ARun.qv (q_move rfl) rfl ?_
      refine ARun.qv (q_leq rfl rfl) rfl ?_
      refine ARun.nil ?_
      refine ATodo.cut (fun σ' => ∃ (n5 : Int) (n6 : Int), Q_root_j1 n5 n6 = some z1 ∧ σ' = ⟨23, [(0, I p0x0), (3, I n5), (4, I n6)], []⟩) ?_ ?_
      · refine ATodo.cond_d rfl (fun hc => ?_) (fun hc => ?_)
        · replace h := iteT hc h
          refine ATodo.region ?_
          refine ARun.qv (q_move rfl) rfl ?_
          refine ARun.qv (q_assign rfl) rfl ?_
          refine ARun.nil ?_
          refine ATodo.stop ?_
          exact ImpX.lessP (by exact ⟨rfl, rfl, rfl, True.intro⟩) (.nil) (ImpX.here ⟨w64 ((w64 ((w64 (n3 + n4)) + (1 : Int))).tdiv (2 : Int)), n4, h, rfl⟩)
        · replace h := iteF hc h
          refine ATodo.region ?_
          refine ARun.qv (q_move rfl) rfl ?_
          refine ARun.qv (q_subw rfl rfl) rfl ?_
          refine ARun.qv (q_assign rfl) rfl ?_
          refine ARun.nil ?_
          refine ATodo.stop ?_
          exact ImpX.lessP (by exact ⟨rfl, rfl, rfl, True.intro⟩) (.nil) (ImpX.here ⟨n3, w64 ((w64 ((w64 ((w64 (n3 + n4)) + (1 : Int))).tdiv (2 : Int))) - (1 : Int)), h, rfl⟩)
      · rintro σ' ⟨n5, n6, h, rfl⟩
        unfold Q_root_j1 at h
        refine ATodo.blk ?_
        refine ATodo.stop ?_
        obtain rfl := Option.some.inj h
        refine hJ1 _ _ rfl ?_
        exact ImpX.lessP (by exact ⟨rfl, rfl, rfl, True.intro⟩) (.nil) (ImpX.here rfl)
    · replace h := iteF hc h
      refine ATodo.exit rfl ?_
      replace h := outL h hA1
      refine ATodo.seq ?_
      refine ATodo.region ?_
      refine ARun.qv (q_move rfl) rfl ?_
      refine ARun.qv (q_assign rfl) rfl ?_
      refine ARun.nil ?_
      refine ATodo.ret ?_
      obtain rfl := Option.some.inj h
      exact ImpX.here ⟨_, .cons (.tmp _ _ rfl) .nil, rfl⟩

set_option maxHeartbeats 4000000 in
theorem Q_LengthOf_c {p0x0 : List Fix} {r : Int} (h : Q_LengthOf p0x0 = some r) : Pu Try.prog 33 [.list 5 (p0x0.map Fix.av)] (I r) := by
  unfold Q_LengthOf at h
  refine ACall.bodyN Try.func33 rfl Try.ntmps33 Try.results33 rfl rfl ?_
  refine ATodo.seq ?_
  refine ATodo.region ?_
  refine ARun.qv (q_assign rfl) rfl ?_
  refine ARun.nil ?_
  refine ATodo.seq ?_
  refine ATodo.region ?_
  refine ARun.qv (q_assign rfl) rfl ?_
  refine ARun.nil ?_
  refine ATodo.seq ?_
  refine ATodo.seq ?_
  refine ATodo.region ?_
  refine ARun.qv (q_assign rfl) rfl ?_
  refine ARun.nil ?_
  refine ATodo.block ?_
  refine ATodo.loopI (fun x : Int × Int => Q_LengthOf_b1 p0x0 x.1 x.2) (fun x σ' => σ' = ⟨25, [(0, .list 5 (p0x0.map Fix.av)), (3, I x.1), (4, I x.2)], []⟩) h ?_ ?_
  · exact ImpX.lessP (by exact ⟨rfl, rfl, rfl, True.intro⟩) (.nil) (ImpX.here rfl)
  · intro x z1 σ' J1 hmk h hJ1 hA1
    obtain ⟨n3, n4⟩ := x
    obtain rfl := hmk
    replace h : Q_LengthOf_b1 p0x0 n3 n4 = some z1 := h
    unfold Q_LengthOf_b1 at h
    refine ATodo.seq ?_
    refine ATodo.seq ?_
    refine ATodo.region ?_
    refine ARun.qv (q_move rfl) rfl ?_
    refine ARun.qv (q_move rfl) rfl ?_
    refine ARun.qv (t_len rfl) rfl ?_
    refine ARun.qv (q_lss rfl rfl) rfl ?_
    refine ARun.nil ?_
    refine ATodo.cond_d rfl (fun hc => ?_) (fun hc => ?_)
    · replace h := iteT hc h
      refine ATodo.skip ?_
      refine ATodo.seq ?_
      refine ATodo.block ?_
      refine ATodo.regionM (id := 5) (A := [0, 0, 0, 6, 14, 0, 0, 64, 224, 480, 1022, 2046, 4095, 8191]) 14 mixed rfl (by kernel_rfl) (by kernel_rfl) ?_
      refine AM.qv (q_move rfl) rfl ?_
      refine AM.qv (q_move rfl) rfl ?_
      refine AM.qv (q_move rfl) rfl ?_
      obtain ⟨v5, e1, h⟩ := bnd h
      refine AM.qv (t_index rfl rfl rfl e1 rfl rfl) rfl ?_
      refine AM.qv (q_load_rptr_agg rfl rfl rfl) rfl ?_
      refine AM.qv (q_move rfl) rfl ?_
      refine AM.qv (q_move rfl) rfl ?_
      refine AM.qv (q_subw rfl rfl) rfl ?_
      obtain ⟨v6, e2, h⟩ := bnd h
      refine AM.qv (t_index rfl rfl rfl e2 rfl rfl) rfl ?_
      refine AM.qv (q_load_rptr_agg rfl rfl rfl) rfl ?_
      refine AM.callp rfl (Q_square_c rfl) (CoL.refl _) rfl ?_
      obtain ⟨v7, e3, h⟩ := bnd h
      refine AM.callp rfl (Q_root_c e3) (CoL.refl _) rfl ?_
      refine AM.qv (q_addw rfl rfl) rfl ?_
      refine AM.qv (q_assign rfl) rfl ?_
      refine AM.nil ?_
      refine ARun.nil ?_
      refine ATodo.blk ?_
      refine ATodo.region ?_
      refine ARun.qv (q_move rfl) rfl ?_
      refine ARun.qv (q_addw rfl rfl) rfl ?_
      refine ARun.qv (q_assign rfl) rfl ?_
      refine ARun.nil ?_
      refine ATodo.stop ?_
      obtain rfl := Option.some.inj h
      refine hJ1 _ _ rfl ?_
      exact ImpX.lessP (by exact ⟨rfl, rfl, rfl, True.intro⟩) (.nil) (ImpX.here rfl)
    · replace h := iteF hc h
      refine ATodo.exit rfl ?_
      replace h := outL h hA1
      refine ATodo.seq ?_
      refine ATodo.region ?_
      refine ARun.qv (q_move rfl) rfl ?_
      refine ARun.qv (q_assign rfl) rfl ?_
      refine ARun.nil ?_
      refine ATodo.ret ?_
      obtain rfl := Option.some.inj h
      exact ImpX.here ⟨_, .cons (.tmp _ _ rfl) .nil, rfl⟩

set_option maxHeartbeats 4000000 in
theorem slices_Equal_Visit_Visit_c {p0x0 : List Visit} {p1x0 : List Visit} {r : Bool} (h : slices_Equal_Visit_Visit p0x0 p1x0 = some r) : Pu Try.prog 34 [.list 2 (p0x0.map Visit.av), .list 2 (p1x0.map Visit.av)] (.bool r) := by
  unfold slices_Equal_Visit_Visit at h
  refine ACall.bodyN Try.func34 rfl Try.ntmps34 Try.results34 rfl rfl ?_
  refine ATodo.seq ?_
  refine ATodo.region ?_
  refine ARun.qv (q_assign rfl) rfl ?_
  refine ARun.nil ?_
  refine ATodo.seq ?_
  refine ATodo.seq ?_
  refine ATodo.region ?_
  refine ARun.qv (q_move rfl) rfl ?_
  refine ARun.qv (t_len rfl) rfl ?_
  refine ARun.qv (q_move rfl) rfl ?_
  refine ARun.qv (t_len rfl) rfl ?_
  refine ARun.qv (q_neq rfl rfl) rfl ?_
  refine ARun.nil ?_
  refine ATodo.cond_d rfl (fun hc => ?_) (fun hc => ?_)
  · replace h := iteT hc h
    refine ATodo.seq ?_
    refine ATodo.region ?_
    refine ARun.qv (q_assign rfl) rfl ?_
    refine ARun.nil ?_
    refine ATodo.ret ?_
    obtain rfl := Option.some.inj h
    exact ImpX.here ⟨_, .cons (.tmp _ _ rfl) .nil, rfl⟩
  · replace h := iteF hc h
    refine ATodo.skip ?_
    refine ATodo.seq ?_
    refine ATodo.seq ?_
    refine ATodo.region ?_
    refine ARun.qv (q_move rfl) rfl ?_
    refine ARun.qv (t_len rfl) rfl ?_
    refine ARun.qv (q_move rfl) rfl ?_
    refine ARun.nil ?_
    refine ATodo.block ?_
    refine ATodo.loopI (fun x : Int => slices_Equal_Visit_Visit_b1 p0x0 p1x0 x) (fun x σ' => σ' = ⟨26, [(0, .list 2 (p0x0.map Visit.av)), (1, .list 2 (p1x0.map Visit.av)), (12, I (p0x0.length : Int)), (13, I x)], []⟩) h ?_ ?_
    · exact ImpX.lessP (by exact ⟨rfl, rfl, rfl, rfl, True.intro⟩) (.nil) (ImpX.here rfl)
    · intro n2 z1 σ' J1 hmk h hJ1 hA1
      obtain rfl := hmk
      replace h : slices_Equal_Visit_Visit_b1 p0x0 p1x0 n2 = some z1 := h
      unfold slices_Equal_Visit_Visit_b1 at h
      refine ATodo.seq ?_
      refine ATodo.region ?_
      refine ARun.qv (q_lss rfl rfl) rfl ?_
      refine ARun.nil ?_
      refine ATodo.seq ?_
      refine ATodo.cond_d rfl (fun hc => ?_) (fun hc => ?_)
      · replace h := iteT hc h
        refine ATodo.skip ?_
        refine ATodo.seq ?_
        refine ATodo.block ?_
        refine ATodo.seq ?_
        refine ATodo.region ?_
        refine ARun.qv (q_move rfl) rfl ?_
        refine ARun.qv (q_assign rfl) rfl ?_
        refine ARun.nil ?_
        refine ATodo.seq ?_
        refine ATodo.regionM (id := 6) (A := [0, 0, 3, 7, 0, 0, 48, 112, 255]) 9 mixed rfl (by kernel_rfl) (by kernel_rfl) ?_
        refine AM.qv (q_move rfl) rfl ?_
        refine AM.qv (q_move rfl) rfl ?_
        obtain ⟨v3, e1, h⟩ := bnd h
        refine AM.qv (t_index rfl rfl rfl e1 rfl rfl) rfl ?_
        refine AM.qv (q_load_rptr_agg rfl rfl rfl) rfl ?_
        refine AM.qv (q_move rfl) rfl ?_
        refine AM.qv (q_move rfl) rfl ?_
        obtain ⟨v4, e2, h⟩ := bnd h
        refine AM.qv (t_index rfl rfl rfl e2 rfl rfl) rfl ?_
        refine AM.qv (q_load_rptr_agg rfl rfl rfl) rfl ?_
        refine AM.qv (t_tne (g := Visit.av) (X := v3) (Y := v4) rfl rfl rfl rfl rfl) rfl ?_
        refine AM.nil ?_
        refine ARun.nil ?_
        refine ATodo.cond_d rfl (fun hc => ?_) (fun hc => ?_)
        · replace h := iteT hc h
          refine ATodo.seq ?_
          refine ATodo.region ?_
          refine ARun.qv (q_assign rfl) rfl ?_
          refine ARun.nil ?_
          refine ATodo.ret ?_
          replace h := outL h hA1
          obtain rfl := Option.some.inj h
          exact ImpX.here ⟨_, .cons (.tmp _ _ rfl) .nil, rfl⟩
        · replace h := iteF hc h
          refine ATodo.skip ?_
          refine ATodo.blk ?_
          refine ATodo.region ?_
          refine ARun.qv (q_addw rfl rfl) rfl ?_
          refine ARun.qv (q_move rfl) rfl ?_
          refine ARun.nil ?_
          refine ATodo.stop ?_
          obtain rfl := Option.some.inj h
          refine hJ1 _ _ rfl ?_
          exact ImpX.lessP (by exact ⟨rfl, rfl, rfl, rfl, True.intro⟩) (.nil) (ImpX.here rfl)
      · replace h := iteF hc h
        refine ATodo.exit rfl ?_
        replace h := outL h hA1
        refine ATodo.seq ?_
        refine ATodo.region ?_
        refine ARun.qv (q_assign rfl) rfl ?_
        refine ARun.nil ?_
        refine ATodo.ret ?_
        obtain rfl := Option.some.inj h
        exact ImpX.here ⟨_, .cons (.tmp _ _ rfl) .nil, rfl⟩

set_option maxHeartbeats 4000000 in
theorem slices_Equal_Stay_Stay_c {p0x0 : List Stay} {p1x0 : List Stay} {r : Bool} (h : slices_Equal_Stay_Stay p0x0 p1x0 = some r) : Pu Try.prog 35 [.list 4 (p0x0.map Stay.av), .list 4 (p1x0.map Stay.av)] (.bool r) := by
  unfold slices_Equal_Stay_Stay at h
  refine ACall.bodyN Try.func35 rfl Try.ntmps35 Try.results35 rfl rfl ?_
  refine ATodo.seq ?_
  refine ATodo.region ?_
  refine ARun.qv (q_assign rfl) rfl ?_
  refine ARun.nil ?_
  refine ATodo.seq ?_
  refine ATodo.seq ?_
  refine ATodo.region ?_
  refine ARun.qv (q_move rfl) rfl ?_
  refine ARun.qv (t_len rfl) rfl ?_
  refine ARun.qv (q_move rfl) rfl ?_
  refine ARun.qv (t_len rfl) rfl ?_
  refine ARun.qv (q_neq rfl rfl) rfl ?_
  refine ARun.nil ?_
  refine ATodo.cond_d rfl (fun hc => ?_) (fun hc => ?_)
  · replace h := iteT hc h
    refine ATodo.seq ?_
    refine ATodo.region ?_
    refine ARun.qv (q_assign rfl) rfl ?_
    refine ARun.nil ?_
    refine ATodo.ret ?_
    obtain rfl := Option.some.inj h
    exact ImpX.here ⟨_, .cons (.tmp _ _ rfl) .nil, rfl⟩
  · replace h := iteF hc h
    refine ATodo.skip ?_
    refine ATodo.seq ?_
    refine ATodo.seq ?_
    refine ATodo.region ?_
    refine ARun.qv (q_move rfl) rfl ?_
    refine ARun.qv (t_len rfl) rfl ?_
    refine ARun.qv (q_move rfl) rfl ?_
    refine ARun.nil ?_
    refine ATodo.block ?_
    refine ATodo.loopI (fun x : Int => slices_Equal_Stay_Stay_b1 p0x0 p1x0 x) (fun x σ' => σ' = ⟨26, [(0, .list 4 (p0x0.map Stay.av)), (1, .list 4 (p1x0.map Stay.av)), (12, I (p0x0.length : Int)), (13, I x)], []⟩) h ?_ ?_
    · exact ImpX.lessP (by exact ⟨rfl, rfl, rfl, rfl, True.intro⟩) (.nil) (ImpX.here rfl)
    · intro n2 z1 σ' J1 hmk h hJ1 hA1
      obtain rfl := hmk
      replace h : slices_Equal_Stay_Stay_b1 p0x0 p1x0 n2 = some z1 := h
      unfold slices_Equal_Stay_Stay_b1 at h
      refine ATodo.seq ?_
      refine ATodo.region ?_
      refine ARun.qv (q_lss rfl rfl) rfl ?_
      refine ARun.nil ?_
      refine ATodo.seq ?_
      refine ATodo.cond_d rfl (fun hc => ?_) (fun hc => ?_)
      · replace h := iteT hc h
        refine ATodo.skip ?_
        refine ATodo.seq ?_
        refine ATodo.block ?_
        refine ATodo.seq ?_
        refine ATodo.region ?_
        refine ARun.qv (q_move rfl) rfl ?_
        refine ARun.qv (q_assign rfl) rfl ?_
        refine ARun.nil ?_
        refine ATodo.seq ?_
        refine ATodo.regionM (id := 6) (A := [0, 0, 3, 7, 0, 0, 48, 112, 255]) 9 mixed rfl (by kernel_rfl) (by kernel_rfl) ?_
        refine AM.qv (q_move rfl) rfl ?_
        refine AM.qv (q_move rfl) rfl ?_
        obtain ⟨v3, e1, h⟩ := bnd h
        refine AM.qv (t_index rfl rfl rfl e1 rfl rfl) rfl ?_
        refine AM.qv (q_load_rptr_agg rfl rfl rfl) rfl ?_
        refine AM.qv (q_move rfl) rfl ?_
        refine AM.qv (q_move rfl) rfl ?_
        obtain ⟨v4, e2, h⟩ := bnd h
        refine AM.qv (t_index rfl rfl rfl e2 rfl rfl) rfl ?_
        refine AM.qv (q_load_rptr_agg rfl rfl rfl) rfl ?_
        refine AM.qv (t_tne (g := Stay.av) (X := v3) (Y := v4) rfl rfl rfl rfl rfl) rfl ?_
        refine AM.nil ?_
        refine ARun.nil ?_
        refine ATodo.cond_d rfl (fun hc => ?_) (fun hc => ?_)
        · replace h := iteT hc h
          refine ATodo.seq ?_
          refine ATodo.region ?_
          refine ARun.qv (q_assign rfl) rfl ?_
          refine ARun.nil ?_
          refine ATodo.ret ?_
          replace h := outL h hA1
          obtain rfl := Option.some.inj h
          exact ImpX.here ⟨_, .cons (.tmp _ _ rfl) .nil, rfl⟩
        · replace h := iteF hc h
          refine ATodo.skip ?_
          refine ATodo.blk ?_
          refine ATodo.region ?_
          refine ARun.qv (q_addw rfl rfl) rfl ?_
          refine ARun.qv (q_move rfl) rfl ?_
          refine ARun.nil ?_
          refine ATodo.stop ?_
          obtain rfl := Option.some.inj h
          refine hJ1 _ _ rfl ?_
          exact ImpX.lessP (by exact ⟨rfl, rfl, rfl, rfl, True.intro⟩) (.nil) (ImpX.here rfl)
      · replace h := iteF hc h
        refine ATodo.exit rfl ?_
        replace h := outL h hA1
        refine ATodo.seq ?_
        refine ATodo.region ?_
        refine ARun.qv (q_assign rfl) rfl ?_
        refine ARun.nil ?_
        refine ATodo.ret ?_
        obtain rfl := Option.some.inj h
        exact ImpX.here ⟨_, .cons (.tmp _ _ rfl) .nil, rfl⟩

set_option maxHeartbeats 4000000 in
theorem place_Cell_c {p0x0 : Spot} {p1x0 : Int} {r : Str × Int} (h : place_Cell p0x0 p1x0 = some r) : Pu Try.prog 106 [.agg [I p0x0.X, I p0x0.Y], I p1x0] (.tup [.str r.1, I r.2]) := by
  unfold place_Cell at h
  refine ACall.bodyN Try.func106 rfl Try.ntmps106 Try.results106 rfl rfl ?_
  refine ATodo.seq ?_
  refine ATodo.region ?_
  refine n_box rfl rfl rfl rfl (fun b1 => ?_)
  refine ARun.qv (q_assign rfl) rfl ?_
  refine ARun.qv (q_assign rfl) rfl ?_
  refine ARun.nil ?_
  refine ATodo.seq ?_
  refine ATodo.seq ?_
  refine ATodo.cut (fun σ' => ∃ (c2 : Bool), place_Cell_j1 p0x0 p1x0 c2 = some r ∧ σ' = ⟨47, [(1, I p1x0), (2, .ptr b1 0), (16, .bool c2)], [(b1, .cells [I p0x0.X, I p0x0.Y])]⟩) ?_ ?_
  · refine ATodo.region ?_
    refine ARun.qv (q_load_ptr_all rfl rfl .here rfl) rfl ?_
    refine r_callp rfl (place_isSpot_c rfl) (CoL.refl _) rfl ?_
    refine ARun.qv (q_not rfl) rfl ?_
    refine ARun.qv (q_move rfl) rfl ?_
    refine ARun.guard rfl rfl rfl (fun hc => ?_) (fun hc => ?_)
    · rw [orFb hc] at h
      refine ARun.qv (q_move rfl) rfl ?_
      refine ARun.guard_yes rfl rfl rfl ?_
      refine r_callp rfl (base_Out_c rfl) (CoL.refl _) rfl ?_
      refine ARun.qv (q_pick_f rfl rfl) rfl ?_
      refine ARun.nil ?_
      refine ATodo.stop ?_
      exact ImpX.lessP (by exact ⟨rfl, rfl, rfl, True.intro⟩) (.cons .here .nil) (ImpX.here ⟨(base_Out p1x0 (0 : Int) (15 : Int)), h, rfl⟩)
    · rw [orTb hc] at h
      refine ARun.guard_no rfl rfl rfl rfl ?_
      refine ARun.qv (q_pick_t rfl rfl) rfl ?_
      refine ARun.nil ?_
      refine ATodo.stop ?_
      exact ImpX.lessP (by exact ⟨rfl, rfl, rfl, True.intro⟩) (.cons .here .nil) (ImpX.here ⟨true, h, rfl⟩)
  · rintro σ' ⟨c2, h, rfl⟩
    unfold place_Cell_j1 at h
    refine ATodo.cond rfl (fun hc => ?_) (fun hc => ?_)
    · replace h := iteT hc h
      refine ATodo.seq ?_
      refine ATodo.region ?_
      refine ARun.qv (q_assign rfl) rfl ?_
      refine ARun.qv (q_assign rfl) rfl ?_
      refine ARun.nil ?_
      refine ATodo.ret ?_
      obtain rfl := Option.some.inj h
      exact ImpX.here ⟨_, .cons (.tmp _ _ rfl) (.cons (.tmp _ _ rfl) .nil), rfl⟩
    · replace h := iteFb hc h
      refine ATodo.skip ?_
      refine ATodo.seq ?_
      refine ATodo.region ?_
      refine ARun.qv (q_assign rfl) rfl ?_
      refine ARun.nil ?_
      refine ATodo.seq ?_
      refine ATodo.regionM (id := 4) (A := [0, 1, 3, 0, 8, 24, 7, 127, 255]) 9 mixed rfl (by kernel_rfl) (by kernel_rfl) ?_
      refine AM.qv (n_field_ptr rfl rfl) rfl ?_
      refine AM.qv (q_load_ptr rfl rfl .here rfl) rfl ?_
      refine AM.qv (q_subw rfl rfl) rfl ?_
      refine AM.qv (n_field_ptr rfl rfl) rfl ?_
      refine AM.qv (q_load_ptr rfl rfl .here rfl) rfl ?_
      refine AM.qv (q_subw rfl rfl) rfl ?_
      refine AM.qv (q_assign rfl) rfl ?_
      refine AM.qv (q_assign rfl) rfl ?_
      refine AM.qv (q_assign rfl) rfl ?_
      refine AM.nil ?_
      refine ARun.nil ?_
      refine ATodo.seq ?_
      refine ATodo.seq ?_
      refine ATodo.region ?_
      refine ARun.qv (q_move rfl) rfl ?_
      refine ARun.qv (q_move rfl) rfl ?_
      refine ARun.nil ?_
      refine ATodo.block ?_
      refine ATodo.loopI (fun x : (List Int) × Int × Int => place_Cell_b1 p0x0 p1x0 x.1 x.2.1 x.2.2) (fun x σ' => ∃ (b7 : Bk), σ' = ⟨47, [(6, .sl 1 b7 0 x.1.length), (7, I (w64 (p0x0.X - (-16384 : Int)))), (8, I (w64 (p0x0.Y - (-16384 : Int)))), (9, I x.2.1), (23, I p1x0), (24, I x.2.2)], [(b7, .arr 1 (x.1.map (AV.int .u8)))]⟩) h ?_ ?_
      · refine ImpX.arr (s := 6) 1 rfl (fun b11 => ?_)
        exact ImpX.lessP (by exact ⟨rfl, rfl, rfl, rfl, rfl, rfl, True.intro⟩) (.cons .here .nil) (ImpX.here ⟨b11, rfl⟩)
      · intro x z1 σ' J1 hmk h hJ1 hA1
        obtain ⟨l8, n9, n10⟩ := x
        obtain ⟨b7, rfl⟩ := hmk
        replace h : place_Cell_b1 p0x0 p1x0 l8 n9 n10 = some z1 := h
        unfold place_Cell_b1 at h
        refine ATodo.seq ?_
        refine ATodo.region ?_
        refine ARun.qv (q_lss rfl rfl) rfl ?_
        refine ARun.nil ?_
        refine ATodo.seq ?_
        refine ATodo.cond_d rfl (fun hc => ?_) (fun hc => ?_)
        · replace h := iteT hc h
          refine ATodo.skip ?_
          refine ATodo.seq ?_
          refine ATodo.block ?_
          refine ATodo.seq ?_
          refine ATodo.region ?_
          refine ARun.qv (q_move rfl) rfl ?_
          refine ARun.qv (t_quo rfl rfl (by decide)) rfl ?_
          refine ARun.qv (q_assign rfl) rfl ?_
          refine ARun.nil ?_
          refine ATodo.regionM (id := 8) (A := [0, 0, 0, 6, 14, 30, 62, 0, 0, 384, 896, 1920, 3968, 8190, 16382, 32767, 65535]) 15 mixed rfl (by kernel_rfl) (by kernel_rfl) ?_
          refine AM.qv (q_move rfl) rfl ?_
          refine AM.qv (q_move rfl) rfl ?_
          refine AM.qv (q_move rfl) rfl ?_
          obtain ⟨n12, e1, h⟩ := bnd h
          refine AM.qv (t_quoS rfl rfl e1) rfl ?_
          refine AM.qv (q_rem rfl rfl (by decide)) rfl ?_
          refine AM.qv (q_conv_int rfl) rfl ?_
          refine AM.qv (q_addw rfl rfl) rfl ?_
          refine AM.qv (q_move rfl) rfl ?_
          refine AM.qv (q_move rfl) rfl ?_
          obtain ⟨n13, e2, h⟩ := bnd h
          refine AM.qv (t_quoS rfl rfl e2) rfl ?_
          refine AM.qv (q_rem rfl rfl (by decide)) rfl ?_
          refine AM.qv (q_conv_int rfl) rfl ?_
          refine AM.qv (q_mulw rfl rfl) rfl ?_
          refine AM.qv (q_addw rfl rfl) rfl ?_
          refine AM.buildSliceL (xs := ([IntKind.u8.wrap ((IntKind.u8.wrap ((48 : Int) + (IntKind.u8.wrap (n12.tmod (2 : Int))))) + (IntKind.u8.wrap ((2 : Int) * (IntKind.u8.wrap (n13.tmod (2 : Int))))))]).map (AV.int .u8)) rfl rfl rfl rfl rfl rfl ?_
          refine AM.nil ?_
          obtain ⟨l14, e3, h⟩ := bnd h
          refine t_append (g := (AV.int .u8)) rfl rfl rfl rfl rfl rfl rfl rfl (.list _) e3 (fun _ => .here) rfl (fun b15 => ?_)
          refine ARun.qv (q_assign rfl) rfl ?_
          refine ARun.nil ?_
          refine ATodo.blk ?_
          refine ATodo.region ?_
          refine ARun.qv (q_addw rfl rfl) rfl ?_
          refine ARun.qv (q_move rfl) rfl ?_
          refine ARun.nil ?_
          refine ATodo.stop ?_
          obtain rfl := Option.some.inj h
          refine hJ1 _ _ rfl ?_
          exact ImpX.lessP (by exact ⟨rfl, rfl, rfl, rfl, rfl, rfl, True.intro⟩) (.cons .here .nil) (ImpX.here ⟨b15, rfl⟩)
        · replace h := iteF hc h
          refine ATodo.exit rfl ?_
          replace h := outL h hA1
          refine ATodo.seq ?_
          refine ATodo.region ?_
          refine ARun.qv (q_move rfl) rfl ?_
          refine ARun.qv (q_conv_bs rfl (CoB.arrT .here)) rfl ?_
          refine ARun.qv (q_assign rfl) rfl ?_
          refine ARun.qv (q_assign rfl) rfl ?_
          refine ARun.nil ?_
          refine ATodo.ret ?_
          obtain rfl := Option.some.inj h
          exact ImpX.here ⟨_, .cons (.tmp _ _ rfl) (.cons (.tmp _ _ rfl) .nil), rfl⟩

set_option maxHeartbeats 4000000 in
theorem L_placed_c {r : Bool} (h : L_placed = some r) : Pu Try.prog 24 [] (.bool r) := by
  unfold L_placed at h
  refine ACall.bodyN Try.func24 rfl Try.ntmps24 Try.results24 rfl rfl ?_
  refine ATodo.seq ?_
  refine ATodo.region ?_
  refine ARun.qv (q_assign rfl) rfl ?_
  refine ARun.nil ?_
  refine ATodo.seq ?_
  refine ATodo.region ?_
  refine ARun.qv (n_build rfl rfl rfl rfl rfl) rfl ?_
  obtain ⟨v1, e1, h⟩ := bnd h
  refine r_callp rfl (place_Cell_c e1) (CoL.refl _) rfl ?_
  refine ARun.qv (q_move rfl) rfl ?_
  refine ARun.qv (q_extract rfl rfl) rfl ?_
  refine ARun.qv (q_extract rfl rfl) rfl ?_
  refine ARun.qv (q_assign rfl) rfl ?_
  refine ARun.qv (q_assign rfl) rfl ?_
  refine ARun.nil ?_
  refine ATodo.seq ?_
  refine ATodo.cut (fun σ' => ∃ (c2 : Bool), L_placed_j1 c2 = some r ∧ σ' = ⟨14, [(0, .bool c2)], []⟩) ?_ ?_
  · refine ATodo.region ?_
    refine ARun.qv (q_move rfl) rfl ?_
    refine ARun.qv (q_eql rfl rfl) rfl ?_
    refine ARun.qv (q_move rfl) rfl ?_
    refine ARun.guard_dt rfl rfl rfl (fun hc => ?_) (fun hc => ?_)
    · rw [andTd hc] at h
      refine ARun.qv (q_move rfl) rfl ?_
      refine ARun.guard_yes rfl rfl rfl ?_
      refine ARun.qv (q_seq rfl rfl) rfl ?_
      refine ARun.qv (q_pick_t rfl rfl) rfl ?_
      refine ARun.qv (q_assign rfl) rfl ?_
      refine ARun.nil ?_
      refine ATodo.stop ?_
      exact ImpX.lessP (by exact ⟨rfl, True.intro⟩) (.nil) (ImpX.here ⟨decide (v1.1 = ([51] : Str)), h, rfl⟩)
    · rw [andFd hc] at h
      refine ARun.guard_no rfl rfl rfl rfl ?_
      refine ARun.qv (q_pick_f rfl rfl) rfl ?_
      refine ARun.qv (q_assign rfl) rfl ?_
      refine ARun.nil ?_
      refine ATodo.stop ?_
      exact ImpX.lessP (by exact ⟨rfl, True.intro⟩) (.nil) (ImpX.here ⟨false, h, rfl⟩)
  · rintro σ' ⟨c2, h, rfl⟩
    unfold L_placed_j1 at h
    refine ATodo.ret ?_
    obtain rfl := Option.some.inj h
    exact ImpX.here ⟨_, .cons (.tmp _ _ rfl) .nil, rfl⟩

set_option maxHeartbeats 4000000 in
theorem L_TracksVisit_c {p0x0 : List Int} {r : Bool} (h : L_TracksVisit p0x0 = some r) : Pu Try.prog 4 [.list 1 (p0x0.map I)] (.bool r) := by
  unfold L_TracksVisit at h
  refine ACall.bodyN Try.func4 rfl Try.ntmps4 Try.results4 rfl rfl ?_
  refine ATodo.seq ?_
  refine ATodo.region ?_
  refine ARun.qv (q_assign rfl) rfl ?_
  refine ARun.nil ?_
  refine ATodo.seq ?_
  refine ATodo.region ?_
  refine ARun.qv (q_move rfl) rfl ?_
  refine ARun.qv (n_build rfl rfl rfl rfl rfl) rfl ?_
  refine n_box rfl rfl rfl rfl (fun b1 => ?_)
  refine ARun.qv (q_assign rfl) rfl ?_
  refine ARun.nil ?_
  refine ATodo.seq ?_
  refine ATodo.region ?_
  refine ARun.qv (q_move rfl) rfl ?_
  obtain ⟨v2, e1, h⟩ := bnd h
  refine t_call0 rfl (Stream_Fence_c e1) (CoL.refl _) (.cons .here .nil) rfl rfl ?_
  refine ARun.qv (q_move rfl) rfl ?_
  obtain ⟨v3, e2, h⟩ := bnd h
  refine t_call1 rfl (Stream_Track_c e2) (CoL.refl _) (.cons .here .nil) (fun _ => rfl) rfl (fun b4 => ?_)
  refine ARun.qv (q_move rfl) rfl ?_
  refine n_buildSliceL (xs := ([(0 : Int), (1 : Int), (3 : Int), (5 : Int), (-1 : Int), (10001 : Int)]).map I) rfl rfl rfl rfl rfl rfl ?_
  obtain ⟨v5, e3, h⟩ := bnd h
  refine t_call0 rfl (Stream_Pick_c e3) (CoL.refl _) (.cons .here .nil) rfl rfl ?_
  refine ARun.qv (q_move rfl) rfl ?_
  refine n_buildSliceL (xs := ([(1 : Int), (10 : Int), (1000 : Int), (2000 : Int), (0 : Int), (345686400001 : Int)]).map I) rfl rfl rfl rfl rfl rfl ?_
  obtain ⟨v6, e4, h⟩ := bnd h
  refine t_call0 rfl (Stream_Pick_c e4) (CoL.refl _) (.cons .here .nil) rfl rfl ?_
  refine n_alloc rfl rfl rfl rfl (fun b7 => ?_)
  refine n_store_ptr rfl rfl rfl rfl .here rfl rfl ?_
  refine ARun.qv (q_assign rfl) rfl ?_
  refine ARun.qv (q_assign rfl) rfl ?_
  refine ARun.qv (q_assign rfl) rfl ?_
  refine ARun.nil ?_
  refine ATodo.seq ?_
  refine ATodo.region ?_
  refine ARun.qv (q_load_ptr_all rfl rfl .here rfl) rfl ?_
  refine ARun.qv (q_move rfl) rfl ?_
  obtain ⟨v8, e5, h⟩ := bnd h
  refine ARun.ghost (ImpX.freeze (.next (.next .here)) (ImpX.here ?_))
  refine t_call1 rfl (place_Visits_c e5) (.cons (.refl _) (.cons (Co.froT (.next (.next .here))) .nil)) .nil (fun _ => rfl) rfl (fun b9 => ?_)
  refine ARun.qv (q_move rfl) rfl ?_
  refine ARun.qv (q_extract rfl rfl) rfl ?_
  refine ARun.qv (q_extract rfl rfl) rfl ?_
  refine ARun.qv (q_assign rfl) rfl ?_
  refine ARun.qv (q_assign rfl) rfl ?_
  refine ARun.nil ?_
  refine ATodo.seq ?_
  refine ATodo.region ?_
  refine ARun.qv (q_move rfl) rfl ?_
  refine ARun.qv (q_move rfl) rfl ?_
  refine ARun.qv (q_move rfl) rfl ?_
  obtain ⟨v10, e6, h⟩ := bnd h
  refine t_call1 rfl (place_Stays_c e6) (.cons (Co.froT (.next (.next (.next .here)))) (.cons (.refl _) (.cons (.refl _) .nil))) .nil (fun _ => rfl) rfl (fun b11 => ?_)
  refine ARun.qv (q_move rfl) rfl ?_
  refine ARun.qv (q_extract rfl rfl) rfl ?_
  refine ARun.qv (q_extract rfl rfl) rfl ?_
  refine ARun.qv (q_assign rfl) rfl ?_
  refine ARun.qv (q_assign rfl) rfl ?_
  refine ARun.nil ?_
  refine ATodo.seq ?_
  refine ATodo.region ?_
  refine ARun.qv (q_move rfl) rfl ?_
  obtain ⟨v12, e7, h⟩ := bnd h
  refine r_callp rfl (place_Length_c e7) (.cons (Co.froT (.next (.next (.next (.next .here))))) .nil) rfl ?_
  refine ARun.qv (q_move rfl) rfl ?_
  refine ARun.qv (q_extract rfl rfl) rfl ?_
  refine ARun.qv (q_extract rfl rfl) rfl ?_
  refine ARun.qv (q_assign rfl) rfl ?_
  refine ARun.qv (q_assign rfl) rfl ?_
  refine ARun.nil ?_
  refine ATodo.seq ?_
  refine ATodo.region ?_
  refine ARun.qv (q_move rfl) rfl ?_
  obtain ⟨v13, e8, h⟩ := bnd h
  refine r_callp rfl (Q_TrackFault_c e8) (.cons (Co.froT (.next (.next (.next (.next .here))))) .nil) rfl ?_
  refine ARun.qv (q_assign rfl) rfl ?_
  refine ARun.nil ?_
  refine ATodo.seq ?_
  refine ATodo.region ?_
  refine ARun.qv (q_load_ptr_all rfl rfl (.next (.next .here)) rfl) rfl ?_
  obtain ⟨v14, e9, h⟩ := bnd h
  refine r_callp rfl (Q_FenceFault_c e9) (CoL.refl _) rfl ?_
  refine ARun.qv (q_move rfl) rfl ?_
  refine n_buildSliceL (xs := ([v14, v13] : List Int).map I) rfl rfl rfl rfl rfl rfl ?_
  obtain ⟨v15, e10, h⟩ := bnd h
  refine r_callp rfl (L_errs_c e10) (CoL.refl _) rfl ?_
  refine ARun.qv (q_assign rfl) rfl ?_
  refine ARun.nil ?_
  refine ATodo.seq ?_
  refine ATodo.cut (fun σ' => ∃ (n16 : Int), L_TracksVisit_j1 v2 v3 v5 v6 v8 v10 v12 v13 v15 n16 = some r ∧ σ' = ⟨122, [(4, .ptr b7 0), (5, .sl 5 b4 0 v3.1.length), (6, I v5.1), (7, I v6.1), (8, .sl 2 b9 0 v8.1.length), (9, I v8.2), (10, .sl 4 b11 0 v10.1.length), (11, I v10.2), (12, I v12.1), (13, I v12.2), (14, I v13), (15, I v15), (16, I n16)], [(b7, .cells [.str v2.1.Key, .list 2 (v2.1.Corners.map Spot.av)]), (b4, .fro 5 (v3.1.map Fix.av)), (b9, .arr 2 (v8.1.map Visit.av)), (b11, .arr 4 (v10.1.map Stay.av))]⟩) ?_ ?_
  · refine ATodo.region ?_
    refine ARun.qv (q_move rfl) rfl ?_
    refine ARun.qv (q_move rfl) rfl ?_
    refine ARun.qv (q_lss rfl rfl) rfl ?_
    refine ARun.qv (q_move rfl) rfl ?_
    refine ARun.guard_df rfl rfl rfl (fun hc => ?_) (fun hc => ?_)
    · replace h := iteF hc h
      refine ARun.qv (q_move rfl) rfl ?_
      refine ARun.guard_yes rfl rfl rfl ?_
      refine ARun.qv (q_gtr rfl rfl) rfl ?_
      refine ARun.qv (q_pick_f rfl rfl) rfl ?_
      refine ARun.qv (q_move rfl) rfl ?_
      refine ARun.guard_df rfl rfl rfl (fun hc => ?_) (fun hc => ?_)
      · replace h := iteF hc h
        refine ARun.qv (q_move rfl) rfl ?_
        refine ARun.guard_yes rfl rfl rfl ?_
        refine ARun.qv (q_lss rfl rfl) rfl ?_
        refine ARun.qv (q_pick_f rfl rfl) rfl ?_
        refine ARun.qv (q_move rfl) rfl ?_
        refine ARun.guard_df rfl rfl rfl (fun hc => ?_) (fun hc => ?_)
        · replace h := iteF hc h
          refine ARun.qv (q_move rfl) rfl ?_
          refine ARun.guard_yes rfl rfl rfl ?_
          refine ARun.qv (q_gtr rfl rfl) rfl ?_
          refine ARun.qv (q_pick_f rfl rfl) rfl ?_
          refine r_callp rfl (L_when_c rfl) (CoL.refl _) rfl ?_
          refine n_buildSliceL (xs := ([v13, (L_when (decide ((345686400000 : Int) < v6.1)) (1 : Int))]).map I) rfl rfl rfl rfl rfl rfl ?_
          obtain ⟨v17, e11, h⟩ := bnd h
          refine r_callp rfl (L_errs_c e11) (CoL.refl _) rfl ?_
          refine ARun.qv (q_assign rfl) rfl ?_
          refine ARun.nil ?_
          refine ATodo.stop ?_
          exact ImpX.lessP (by exact ⟨rfl, rfl, rfl, rfl, rfl, rfl, rfl, rfl, rfl, rfl, rfl, rfl, rfl, True.intro⟩) (.cons (.next (.next .here)) (.cons (.next (.next (.next .here))) (.cons (.next .here) (.cons .here .nil)))) (ImpX.here ⟨v17, h, rfl⟩)
        · replace h := iteT hc h
          refine ARun.guard_no rfl rfl rfl rfl ?_
          refine ARun.qv (q_pick_t rfl rfl) rfl ?_
          refine r_callp rfl (L_when_c rfl) (CoL.refl _) rfl ?_
          refine n_buildSliceL (xs := ([v13, (L_when true (1 : Int))]).map I) rfl rfl rfl rfl rfl rfl ?_
          obtain ⟨v18, e12, h⟩ := bnd h
          refine r_callp rfl (L_errs_c e12) (CoL.refl _) rfl ?_
          refine ARun.qv (q_assign rfl) rfl ?_
          refine ARun.nil ?_
          refine ATodo.stop ?_
          exact ImpX.lessP (by exact ⟨rfl, rfl, rfl, rfl, rfl, rfl, rfl, rfl, rfl, rfl, rfl, rfl, rfl, True.intro⟩) (.cons (.next (.next .here)) (.cons (.next (.next (.next .here))) (.cons (.next .here) (.cons .here .nil)))) (ImpX.here ⟨v18, h, rfl⟩)
      · replace h := iteT hc h
        refine ARun.guard_no rfl rfl rfl rfl ?_
        refine ARun.qv (q_pick_t rfl rfl) rfl ?_
        refine ARun.qv (q_move rfl) rfl ?_
        refine ARun.guard_no rfl rfl rfl rfl ?_
        refine ARun.guard_no rfl rfl rfl rfl ?_
        refine ARun.qv (q_pick_t rfl rfl) rfl ?_
        refine r_callp rfl (L_when_c rfl) (CoL.refl _) rfl ?_
        refine n_buildSliceL (xs := ([v13, (L_when true (1 : Int))]).map I) rfl rfl rfl rfl rfl rfl ?_
        obtain ⟨v19, e13, h⟩ := bnd h
        refine r_callp rfl (L_errs_c e13) (CoL.refl _) rfl ?_
        refine ARun.qv (q_assign rfl) rfl ?_
        refine ARun.nil ?_
        refine ATodo.stop ?_
        exact ImpX.lessP (by exact ⟨rfl, rfl, rfl, rfl, rfl, rfl, rfl, rfl, rfl, rfl, rfl, rfl, rfl, True.intro⟩) (.cons (.next (.next .here)) (.cons (.next (.next (.next .here))) (.cons (.next .here) (.cons .here .nil)))) (ImpX.here ⟨v19, h, rfl⟩)
    · replace h := iteT hc h
      refine ARun.guard_no rfl rfl rfl rfl ?_
      refine ARun.qv (q_pick_t rfl rfl) rfl ?_
      refine ARun.qv (q_move rfl) rfl ?_
      refine ARun.guard_no rfl rfl rfl rfl ?_
      refine ARun.guard_no rfl rfl rfl rfl ?_
      refine ARun.qv (q_pick_t rfl rfl) rfl ?_
      refine ARun.qv (q_move rfl) rfl ?_
      refine ARun.guard_no rfl rfl rfl rfl ?_
      refine ARun.guard_no rfl rfl rfl rfl ?_
      refine ARun.qv (q_pick_t rfl rfl) rfl ?_
      refine r_callp rfl (L_when_c rfl) (CoL.refl _) rfl ?_
      refine n_buildSliceL (xs := ([v13, (L_when true (1 : Int))]).map I) rfl rfl rfl rfl rfl rfl ?_
      obtain ⟨v20, e14, h⟩ := bnd h
      refine r_callp rfl (L_errs_c e14) (CoL.refl _) rfl ?_
      refine ARun.qv (q_assign rfl) rfl ?_
      refine ARun.nil ?_
      refine ATodo.stop ?_
      exact ImpX.lessP (by exact ⟨rfl, rfl, rfl, rfl, rfl, rfl, rfl, rfl, rfl, rfl, rfl, rfl, rfl, True.intro⟩) (.cons (.next (.next .here)) (.cons (.next (.next (.next .here))) (.cons (.next .here) (.cons .here .nil)))) (ImpX.here ⟨v20, h, rfl⟩)
  · rintro σ' ⟨n16, h, rfl⟩
    unfold L_TracksVisit_j1 at h
    refine ATodo.seq ?_
    refine ATodo.region ?_
    refine ARun.qv (q_assign rfl) rfl ?_
    refine ARun.nil ?_
    refine ATodo.seq ?_
    refine ATodo.region ?_
    refine ARun.qv (q_assign rfl) rfl ?_
    refine ARun.nil ?_
    refine ATodo.seq ?_
    refine ATodo.region ?_
    refine ARun.qv (q_assign rfl) rfl ?_
    refine ARun.nil ?_
    refine ATodo.seq ?_
    refine ATodo.seq ?_
    refine ATodo.region ?_
    refine ARun.qv (q_move rfl) rfl ?_
    refine ARun.qv (q_eql rfl rfl) rfl ?_
    refine ARun.nil ?_
    refine ATodo.cut (fun σ' => ∃ (b21 : Bk) (l22 : List Visit), L_TracksVisit_j2 v3 v5 v6 v8 v10 v12 v13 v15 n16 l22 = some r ∧ σ' = ⟨122, [(5, .sl 5 b4 0 v3.1.length), (6, I v5.1), (7, I v6.1), (8, .sl 2 b9 0 v8.1.length), (9, I v8.2), (10, .sl 4 b11 0 v10.1.length), (11, I v10.2), (12, I v12.1), (13, I v12.2), (14, I v13), (15, I v15), (16, I n16), (17, .sl 2 b21 0 l22.length), (18, .nil), (19, I (0 : Int))], [(b4, .fro 5 (v3.1.map Fix.av)), (b9, .arr 2 (v8.1.map Visit.av)), (b11, .arr 4 (v10.1.map Stay.av)), (b21, .arr 2 (l22.map Visit.av))]⟩) ?_ ?_
    · refine ATodo.cond_d rfl (fun hc => ?_) (fun hc => ?_)
      · replace h := iteT hc h
        refine ATodo.region ?_
        refine ARun.qv (q_load_ptr_all rfl rfl .here rfl) rfl ?_
        refine ARun.qv (q_move rfl) rfl ?_
        obtain ⟨v23, e15, h⟩ := bnd h
        refine t_call1 rfl (Q_VisitsOf_c e15) (.cons (.refl _) (.cons (Co.froT (.next .here)) .nil)) .nil (fun _ => rfl) rfl (fun b24 => ?_)
        refine ARun.qv (q_assign rfl) rfl ?_
        refine ARun.nil ?_
        refine ATodo.stop ?_
        exact ImpX.lessP (by exact ⟨rfl, rfl, rfl, rfl, rfl, rfl, rfl, rfl, rfl, rfl, rfl, rfl, rfl, rfl, rfl, True.intro⟩) (.cons (.next (.next .here)) (.cons (.next (.next .here)) (.cons (.next (.next .here)) (.cons .here .nil)))) (ImpX.here ⟨b24, v23, h, rfl⟩)
      · replace h := iteF hc h
        refine ATodo.skip ?_
        refine ATodo.stop ?_
        refine ImpX.arr (s := 17) 2 rfl (fun b25 => ?_)
        exact ImpX.lessP (by exact ⟨rfl, rfl, rfl, rfl, rfl, rfl, rfl, rfl, rfl, rfl, rfl, rfl, rfl, rfl, rfl, True.intro⟩) (.cons (.next (.next .here)) (.cons (.next (.next .here)) (.cons (.next (.next .here)) (.cons .here .nil)))) (ImpX.here ⟨b25, [], h, rfl⟩)
    · rintro σ' ⟨b21, l22, h, rfl⟩
      unfold L_TracksVisit_j2 at h
      refine ATodo.seq ?_
      refine ATodo.seq ?_
      refine ATodo.region ?_
      refine ARun.qv (q_move rfl) rfl ?_
      refine ARun.qv (q_eql rfl rfl) rfl ?_
      refine ARun.nil ?_
      refine ATodo.cut (fun σ' => ∃ (b26 : Bk) (l27 : List Stay), L_TracksVisit_j3 v3 v8 v10 v12 v13 v15 n16 l22 l27 = some r ∧ σ' = ⟨122, [(5, .sl 5 b4 0 v3.1.length), (8, .sl 2 b9 0 v8.1.length), (9, I v8.2), (10, .sl 4 b11 0 v10.1.length), (11, I v10.2), (12, I v12.1), (13, I v12.2), (14, I v13), (15, I v15), (16, I n16), (17, .sl 2 b21 0 l22.length), (18, .sl 4 b26 0 l27.length), (19, I (0 : Int))], [(b4, .fro 5 (v3.1.map Fix.av)), (b9, .arr 2 (v8.1.map Visit.av)), (b11, .arr 4 (v10.1.map Stay.av)), (b21, .arr 2 (l22.map Visit.av)), (b26, .arr 4 (l27.map Stay.av))]⟩) ?_ ?_
      · refine ATodo.cond_d rfl (fun hc => ?_) (fun hc => ?_)
        · replace h := iteT hc h
          refine ATodo.region ?_
          refine ARun.qv (q_move rfl) rfl ?_
          refine ARun.qv (q_move rfl) rfl ?_
          refine ARun.qv (q_move rfl) rfl ?_
          obtain ⟨v28, e16, h⟩ := bnd h
          refine t_call1 rfl (Q_StaysOf_c e16) (.cons (Co.froT .here) (.cons (.refl _) (.cons (.refl _) .nil))) .nil (fun _ => rfl) rfl (fun b29 => ?_)
          refine ARun.qv (q_assign rfl) rfl ?_
          refine ARun.nil ?_
          refine ATodo.stop ?_
          exact ImpX.lessP (by exact ⟨rfl, rfl, rfl, rfl, rfl, rfl, rfl, rfl, rfl, rfl, rfl, rfl, rfl, True.intro⟩) (.cons (.next .here) (.cons (.next .here) (.cons (.next .here) (.cons (.next .here) (.cons .here .nil))))) (ImpX.here ⟨b29, v28, h, rfl⟩)
        · replace h := iteF hc h
          refine ATodo.skip ?_
          refine ATodo.stop ?_
          refine ImpX.arr (s := 18) 4 rfl (fun b30 => ?_)
          exact ImpX.lessP (by exact ⟨rfl, rfl, rfl, rfl, rfl, rfl, rfl, rfl, rfl, rfl, rfl, rfl, rfl, True.intro⟩) (.cons (.next .here) (.cons (.next .here) (.cons (.next .here) (.cons (.next .here) (.cons .here .nil))))) (ImpX.here ⟨b30, [], h, rfl⟩)
      · rintro σ' ⟨b26, l27, h, rfl⟩
        unfold L_TracksVisit_j3 at h
        refine ATodo.seq ?_
        refine ATodo.seq ?_
        refine ATodo.region ?_
        refine ARun.qv (q_move rfl) rfl ?_
        refine ARun.qv (q_eql rfl rfl) rfl ?_
        refine ARun.nil ?_
        refine ATodo.cut (fun σ' => ∃ (n31 : Int), L_TracksVisit_j4 v8 v10 v12 v13 v15 n16 l22 l27 n31 = some r ∧ σ' = ⟨122, [(8, .sl 2 b9 0 v8.1.length), (9, I v8.2), (10, .sl 4 b11 0 v10.1.length), (11, I v10.2), (12, I v12.1), (13, I v12.2), (14, I v13), (15, I v15), (16, I n16), (17, .sl 2 b21 0 l22.length), (18, .sl 4 b26 0 l27.length), (19, I n31)], [(b9, .arr 2 (v8.1.map Visit.av)), (b11, .arr 4 (v10.1.map Stay.av)), (b21, .arr 2 (l22.map Visit.av)), (b26, .arr 4 (l27.map Stay.av))]⟩) ?_ ?_
        · refine ATodo.cond_d rfl (fun hc => ?_) (fun hc => ?_)
          · replace h := iteT hc h
            refine ATodo.region ?_
            refine ARun.qv (q_move rfl) rfl ?_
            obtain ⟨v32, e17, h⟩ := bnd h
            refine r_callp rfl (Q_LengthOf_c e17) (.cons (Co.froT .here) .nil) rfl ?_
            refine ARun.qv (q_assign rfl) rfl ?_
            refine ARun.nil ?_
            refine ATodo.stop ?_
            exact ImpX.lessP (by exact ⟨rfl, rfl, rfl, rfl, rfl, rfl, rfl, rfl, rfl, rfl, rfl, rfl, True.intro⟩) (.cons (.next .here) (.cons (.next .here) (.cons (.next .here) (.cons (.next .here) .nil)))) (ImpX.here ⟨v32, h, rfl⟩)
          · replace h := iteF hc h
            refine ATodo.skip ?_
            refine ATodo.stop ?_
            exact ImpX.lessP (by exact ⟨rfl, rfl, rfl, rfl, rfl, rfl, rfl, rfl, rfl, rfl, rfl, rfl, True.intro⟩) (.cons (.next .here) (.cons (.next .here) (.cons (.next .here) (.cons (.next .here) .nil)))) (ImpX.here ⟨(0 : Int), h, rfl⟩)
        · rintro σ' ⟨n31, h, rfl⟩
          unfold L_TracksVisit_j4 at h
          refine ATodo.seq ?_
          refine ATodo.cut (fun σ' => ∃ (c33 : Bool), L_TracksVisit_j5 c33 = some r ∧ σ' = ⟨122, [(2, .bool c33)], []⟩) ?_ ?_
          · refine ATodo.region ?_
            refine ARun.qv (q_move rfl) rfl ?_
            refine ARun.qv (q_move rfl) rfl ?_
            refine ARun.qv (q_eql rfl rfl) rfl ?_
            refine ARun.qv (q_move rfl) rfl ?_
            refine ARun.guard_dt rfl rfl rfl (fun hc => ?_) (fun hc => ?_)
            · replace h := iteT hc h
              refine ARun.qv (q_move rfl) rfl ?_
              refine ARun.guard_yes rfl rfl rfl ?_
              refine ARun.qv (q_move rfl) rfl ?_
              refine ARun.guard_yes rfl rfl rfl ?_
              obtain ⟨v34, e18, h⟩ := bnd h
              refine r_callpB rfl (slices_Equal_Visit_Visit_c e18) (.cons (CoB.arrT .here) (.cons (CoB.arrT (.next (.next .here))) .nil)) rfl rfl ?_
              refine ARun.qv (q_pick_t rfl rfl) rfl ?_
              refine ARun.qv (q_move rfl) rfl ?_
              refine ARun.guard rfl rfl rfl (fun hc => ?_) (fun hc => ?_)
              · replace h := iteT hc h
                refine ARun.qv (q_move rfl) rfl ?_
                refine ARun.guard_yes rfl rfl rfl ?_
                refine ARun.qv (q_move rfl) rfl ?_
                refine ARun.guard_yes rfl rfl rfl ?_
                refine ARun.qv (q_eql rfl rfl) rfl ?_
                refine ARun.qv (q_pick_t rfl rfl) rfl ?_
                refine ARun.qv (q_move rfl) rfl ?_
                refine ARun.guard_dt rfl rfl rfl (fun hc => ?_) (fun hc => ?_)
                · replace h := iteT hc h
                  refine ARun.qv (q_move rfl) rfl ?_
                  refine ARun.guard_yes rfl rfl rfl ?_
                  refine ARun.qv (q_move rfl) rfl ?_
                  refine ARun.guard_yes rfl rfl rfl ?_
                  obtain ⟨v35, e19, h⟩ := bnd h
                  refine r_callpB rfl (slices_Equal_Stay_Stay_c e19) (.cons (CoB.arrT (.next .here)) (.cons (CoB.arrT (.next (.next (.next .here)))) .nil)) rfl rfl ?_
                  refine ARun.qv (q_pick_t rfl rfl) rfl ?_
                  refine ARun.qv (q_move rfl) rfl ?_
                  refine ARun.guard rfl rfl rfl (fun hc => ?_) (fun hc => ?_)
                  · replace h := iteT hc h
                    refine ARun.qv (q_move rfl) rfl ?_
                    refine ARun.guard_yes rfl rfl rfl ?_
                    refine ARun.qv (q_move rfl) rfl ?_
                    refine ARun.guard_yes rfl rfl rfl ?_
                    refine ARun.qv (q_eql rfl rfl) rfl ?_
                    refine ARun.qv (q_pick_t rfl rfl) rfl ?_
                    refine ARun.qv (q_move rfl) rfl ?_
                    refine ARun.guard_dt rfl rfl rfl (fun hc => ?_) (fun hc => ?_)
                    · replace h := iteT hc h
                      refine ARun.qv (q_move rfl) rfl ?_
                      refine ARun.guard_yes rfl rfl rfl ?_
                      refine ARun.qv (q_move rfl) rfl ?_
                      refine ARun.guard_yes rfl rfl rfl ?_
                      refine ARun.qv (q_eql rfl rfl) rfl ?_
                      refine ARun.qv (q_pick_t rfl rfl) rfl ?_
                      refine ARun.qv (q_move rfl) rfl ?_
                      refine ARun.guard_dt rfl rfl rfl (fun hc => ?_) (fun hc => ?_)
                      · replace h := iteT hc h
                        obtain ⟨v36, e20, h⟩ := bnd h
                        refine r_callp rfl (L_placed_c e20) (CoL.refl _) rfl ?_
                        refine ARun.qv (q_pick_t rfl rfl) rfl ?_
                        refine ARun.qv (q_assign rfl) rfl ?_
                        refine ARun.nil ?_
                        refine ATodo.stop ?_
                        exact ImpX.lessP (by exact ⟨rfl, True.intro⟩) (.nil) (ImpX.here ⟨v36, h, rfl⟩)
                      · replace h := iteF hc h
                        refine ARun.qv (q_pick_f rfl rfl) rfl ?_
                        refine ARun.qv (q_assign rfl) rfl ?_
                        refine ARun.nil ?_
                        refine ATodo.stop ?_
                        exact ImpX.lessP (by exact ⟨rfl, True.intro⟩) (.nil) (ImpX.here ⟨false, h, rfl⟩)
                    · replace h := iteF hc h
                      refine ARun.guard_no rfl rfl rfl rfl ?_
                      refine ARun.guard_no rfl rfl rfl rfl ?_
                      refine ARun.qv (q_pick_f rfl rfl) rfl ?_
                      refine ARun.qv (q_move rfl) rfl ?_
                      refine ARun.guard_no rfl rfl rfl rfl ?_
                      refine ARun.qv (q_pick_f rfl rfl) rfl ?_
                      refine ARun.qv (q_assign rfl) rfl ?_
                      refine ARun.nil ?_
                      refine ATodo.stop ?_
                      exact ImpX.lessP (by exact ⟨rfl, True.intro⟩) (.nil) (ImpX.here ⟨false, h, rfl⟩)
                  · replace h := iteFb hc h
                    refine ARun.guard_no rfl rfl rfl rfl ?_
                    refine ARun.guard_no rfl rfl rfl rfl ?_
                    refine ARun.qv (q_pick_f rfl rfl) rfl ?_
                    refine ARun.qv (q_move rfl) rfl ?_
                    refine ARun.guard_no rfl rfl rfl rfl ?_
                    refine ARun.guard_no rfl rfl rfl rfl ?_
                    refine ARun.guard_no rfl rfl rfl rfl ?_
                    refine ARun.qv (q_pick_f rfl rfl) rfl ?_
                    refine ARun.qv (q_move rfl) rfl ?_
                    refine ARun.guard_no rfl rfl rfl rfl ?_
                    refine ARun.qv (q_pick_f rfl rfl) rfl ?_
                    refine ARun.qv (q_assign rfl) rfl ?_
                    refine ARun.nil ?_
                    refine ATodo.stop ?_
                    exact ImpX.lessP (by exact ⟨rfl, True.intro⟩) (.nil) (ImpX.here ⟨false, h, rfl⟩)
                · replace h := iteF hc h
                  refine ARun.guard_no rfl rfl rfl rfl ?_
                  refine ARun.guard_no rfl rfl rfl rfl ?_
                  refine ARun.qv (q_pick_f rfl rfl) rfl ?_
                  refine ARun.qv (q_move rfl) rfl ?_
                  refine ARun.guard_no rfl rfl rfl rfl ?_
                  refine ARun.guard_no rfl rfl rfl rfl ?_
                  refine ARun.guard_no rfl rfl rfl rfl ?_
                  refine ARun.qv (q_pick_f rfl rfl) rfl ?_
                  refine ARun.qv (q_move rfl) rfl ?_
                  refine ARun.guard_no rfl rfl rfl rfl ?_
                  refine ARun.guard_no rfl rfl rfl rfl ?_
                  refine ARun.guard_no rfl rfl rfl rfl ?_
                  refine ARun.qv (q_pick_f rfl rfl) rfl ?_
                  refine ARun.qv (q_move rfl) rfl ?_
                  refine ARun.guard_no rfl rfl rfl rfl ?_
                  refine ARun.qv (q_pick_f rfl rfl) rfl ?_
                  refine ARun.qv (q_assign rfl) rfl ?_
                  refine ARun.nil ?_
                  refine ATodo.stop ?_
                  exact ImpX.lessP (by exact ⟨rfl, True.intro⟩) (.nil) (ImpX.here ⟨false, h, rfl⟩)
              · replace h := iteFb hc h
                refine ARun.guard_no rfl rfl rfl rfl ?_
                refine ARun.guard_no rfl rfl rfl rfl ?_
                refine ARun.qv (q_pick_f rfl rfl) rfl ?_
                refine ARun.qv (q_move rfl) rfl ?_
                refine ARun.guard_no rfl rfl rfl rfl ?_
                refine ARun.guard_no rfl rfl rfl rfl ?_
                refine ARun.guard_no rfl rfl rfl rfl ?_
                refine ARun.qv (q_pick_f rfl rfl) rfl ?_
                refine ARun.qv (q_move rfl) rfl ?_
                refine ARun.guard_no rfl rfl rfl rfl ?_
                refine ARun.guard_no rfl rfl rfl rfl ?_
                refine ARun.guard_no rfl rfl rfl rfl ?_
                refine ARun.qv (q_pick_f rfl rfl) rfl ?_
                refine ARun.qv (q_move rfl) rfl ?_
                refine ARun.guard_no rfl rfl rfl rfl ?_
                refine ARun.guard_no rfl rfl rfl rfl ?_
                refine ARun.guard_no rfl rfl rfl rfl ?_
                refine ARun.qv (q_pick_f rfl rfl) rfl ?_
                refine ARun.qv (q_move rfl) rfl ?_
                refine ARun.guard_no rfl rfl rfl rfl ?_
                refine ARun.qv (q_pick_f rfl rfl) rfl ?_
                refine ARun.qv (q_assign rfl) rfl ?_
                refine ARun.nil ?_
                refine ATodo.stop ?_
                exact ImpX.lessP (by exact ⟨rfl, True.intro⟩) (.nil) (ImpX.here ⟨false, h, rfl⟩)
            · replace h := iteF hc h
              refine ARun.guard_no rfl rfl rfl rfl ?_
              refine ARun.guard_no rfl rfl rfl rfl ?_
              refine ARun.qv (q_pick_f rfl rfl) rfl ?_
              refine ARun.qv (q_move rfl) rfl ?_
              refine ARun.guard_no rfl rfl rfl rfl ?_
              refine ARun.guard_no rfl rfl rfl rfl ?_
              refine ARun.guard_no rfl rfl rfl rfl ?_
              refine ARun.qv (q_pick_f rfl rfl) rfl ?_
              refine ARun.qv (q_move rfl) rfl ?_
              refine ARun.guard_no rfl rfl rfl rfl ?_
              refine ARun.guard_no rfl rfl rfl rfl ?_
              refine ARun.guard_no rfl rfl rfl rfl ?_
              refine ARun.qv (q_pick_f rfl rfl) rfl ?_
              refine ARun.qv (q_move rfl) rfl ?_
              refine ARun.guard_no rfl rfl rfl rfl ?_
              refine ARun.guard_no rfl rfl rfl rfl ?_
              refine ARun.guard_no rfl rfl rfl rfl ?_
              refine ARun.qv (q_pick_f rfl rfl) rfl ?_
              refine ARun.qv (q_move rfl) rfl ?_
              refine ARun.guard_no rfl rfl rfl rfl ?_
              refine ARun.guard_no rfl rfl rfl rfl ?_
              refine ARun.guard_no rfl rfl rfl rfl ?_
              refine ARun.qv (q_pick_f rfl rfl) rfl ?_
              refine ARun.qv (q_move rfl) rfl ?_
              refine ARun.guard_no rfl rfl rfl rfl ?_
              refine ARun.qv (q_pick_f rfl rfl) rfl ?_
              refine ARun.qv (q_assign rfl) rfl ?_
              refine ARun.nil ?_
              refine ATodo.stop ?_
              exact ImpX.lessP (by exact ⟨rfl, True.intro⟩) (.nil) (ImpX.here ⟨false, h, rfl⟩)
          · rintro σ' ⟨c33, h, rfl⟩
            unfold L_TracksVisit_j5 at h
            refine ATodo.ret ?_
            obtain rfl := Option.some.inj h
            exact ImpX.here ⟨_, .cons (.tmp _ _ rfl) .nil, rfl⟩

end Go.Proofs.Ytkmbppeelkbjoaa
