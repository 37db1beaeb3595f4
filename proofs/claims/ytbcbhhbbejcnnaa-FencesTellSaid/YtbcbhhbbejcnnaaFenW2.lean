/- The code computes the plain functions: proofs written by shal.py. -/
import Derived.Test.YtbcbhhbbejcnnaaFenW1
set_option maxRecDepth 100000
set_option linter.unusedVariables false
set_option linter.unusedSimpArgs false
namespace Go.Proofs.Ytbcbhhbbejcnnaa
open Go Go.Eng Go.Proofs Go.Beacon
attribute [local irreducible] ARun ATodo AQ QV ACall ImpX AWp AM
set_option maxHeartbeats 4000000 in
theorem place_edges_c {p0x0 : List Spot} {fnb : Spot → Spot → Option Bool} {fnb_F : FuncId} [IsFn Try.prog fnb_F] {fnb_C : List AV} (fnb_h : ∀ {y0 y1 : _} {u : Bool}, fnb y0 y1 = some u → Pu Try.prog fnb_F (.agg [I y0.X, I y0.Y] :: .agg [I y1.X, I y1.Y] ::  fnb_C) (.bool u)) {r : Bool} (h : place_edges p0x0 fnb = some r) : Pu Try.prog 91 [.list 2 (p0x0.map Spot.av), .func (.func fnb_F) fnb_C] (.bool r) := by
  unfold place_edges at h
  refine ACall.bodyN Try.func91 rfl Try.ntmps91 Try.results91 rfl rfl ?_
  refine ATodo.seq ?_
  refine ATodo.region ?_
  refine ARun.qv (q_assign rfl) rfl ?_
  refine ARun.nil ?_
  refine ATodo.seq ?_
  refine ATodo.seq ?_
  refine ATodo.region ?_
  refine ARun.qv (q_move rfl) rfl ?_
  refine ARun.qv (t_len rfl) rfl ?_
  refine ARun.qv (q_move rfl) rfl ?_
  refine ARun.nil ?_
  refine ATodo.block ?_
  refine ATodo.loopI (fun x : Int => place_edges_b1 p0x0 fnb x) (fun x σ' => σ' = ⟨26, [(0, .list 2 (p0x0.map Spot.av)), (1, .func (.func fnb_F) fnb_C), (7, .list 2 (p0x0.map Spot.av)), (8, I (p0x0.length : Int)), (9, I x)], []⟩) h ?_ ?_
  · exact ImpX.lessP (by exact ⟨rfl, rfl, rfl, rfl, rfl, True.intro⟩) (.nil) (ImpX.here rfl)
  · intro n2 z1 σ' J1 hmk h hJ1 hA1
    obtain rfl := hmk
    replace h : place_edges_b1 p0x0 fnb n2 = some z1 := h
    unfold place_edges_b1 at h
    refine ATodo.seq ?_
    refine ATodo.region ?_
    refine ARun.qv (q_lss rfl rfl) rfl ?_
    refine ARun.nil ?_
    refine ATodo.seq ?_
    refine ATodo.cond_d rfl (fun hc => ?_) (fun hc => ?_)
    · replace h := iteT hc h
      refine ATodo.skip ?_
      refine ATodo.seq ?_
      refine ATodo.block ?_
      refine ATodo.seq ?_
      refine ATodo.region ?_
      refine ARun.qv (q_move rfl) rfl ?_
      obtain ⟨v3, e1, h⟩ := bnd h
      refine ARun.qv (t_index rfl rfl rfl e1 rfl rfl) rfl ?_
      refine ARun.qv (q_load_rptr_agg rfl rfl rfl) rfl ?_
      refine n_alloc rfl rfl rfl rfl (fun b4 => ?_)
      refine ARun.qv (q_assign rfl) rfl ?_
      refine n_store_ptr rfl rfl rfl rfl .here rfl rfl ?_
      refine ARun.nil ?_
      refine ATodo.seq ?_
      refine ATodo.regionM (id := 4) (A := [0, 0, 0, 0, 8, 0, 32, 120, 252, 508, 1023]) 10 mixed rfl (by kernel_rfl) (by kernel_rfl) ?_
      refine AM.qv (q_move rfl) rfl ?_
      refine AM.qv (q_load_ptr_all rfl rfl .here rfl) rfl ?_
      refine AM.qv (q_move rfl) rfl ?_
      refine AM.qv (q_move rfl) rfl ?_
      refine AM.qv (q_addw rfl rfl) rfl ?_
      refine AM.qv (q_move rfl) rfl ?_
      refine AM.qv (t_len rfl) rfl ?_
      obtain ⟨n5, e2, h⟩ := bnd h
      refine AM.qv (t_remS rfl rfl e2) rfl ?_
      obtain ⟨v6, e3, h⟩ := bnd h
      refine AM.qv (t_index rfl rfl rfl e3 rfl rfl) rfl ?_
      refine AM.qv (q_load_rptr_agg rfl rfl rfl) rfl ?_
      refine AM.nil ?_
      obtain ⟨v7, e4, h⟩ := bnd h
      refine r_callvp rfl rfl (fnb_h e4) (CoL.refl _) rfl ?_
      refine ARun.nil ?_
      refine ATodo.cond rfl (fun hc => ?_) (fun hc => ?_)
      · replace h := iteT hc h
        refine ATodo.seq ?_
        refine ATodo.region ?_
        refine ARun.qv (q_assign rfl) rfl ?_
        refine ARun.nil ?_
        refine ATodo.ret ?_
        replace h := outL h hA1
        obtain rfl := Option.some.inj h
        exact ImpX.here ⟨_, .cons (.tmp _ _ rfl) .nil, rfl⟩
      · replace h := iteFb hc h
        refine ATodo.skip ?_
        refine ATodo.blk ?_
        refine ATodo.region ?_
        refine ARun.qv (q_addw rfl rfl) rfl ?_
        refine ARun.qv (q_move rfl) rfl ?_
        refine ARun.nil ?_
        refine ATodo.stop ?_
        obtain rfl := Option.some.inj h
        refine hJ1 _ _ rfl ?_
        exact ImpX.lessP (by exact ⟨rfl, rfl, rfl, rfl, rfl, True.intro⟩) (.nil) (ImpX.here rfl)
    · replace h := iteF hc h
      refine ATodo.exit rfl ?_
      replace h := outL h hA1
      refine ATodo.seq ?_
      refine ATodo.region ?_
      refine ARun.qv (q_assign rfl) rfl ?_
      refine ARun.nil ?_
      refine ATodo.ret ?_
      obtain rfl := Option.some.inj h
      exact ImpX.here ⟨_, .cons (.tmp _ _ rfl) .nil, rfl⟩

set_option maxHeartbeats 4000000 in
theorem place_where_2x_c {b_2 : Bk} {b_3 : Bk} {p0x0 : Spot} {p1x0 : Spot} {p2x0 : Spot} {p3x0 : Bool} {r : Bool × Bool} (h : place_where_2x p0x0 p1x0 p2x0 p3x0 = r) : ACall Try.prog 137 [.agg [I p0x0.X, I p0x0.Y], .agg [I p1x0.X, I p1x0.Y], .ptr b_2 0, .ptr b_3 0] [(b_2, .cells [I p2x0.X, I p2x0.Y]), (b_3, .cells [.bool p3x0])] (T0 ([(b_2, .cells [I p2x0.X, I p2x0.Y]), (b_3, .cells [.bool r.2])]) (.bool r.1)) := by
  unfold place_where_2x at h
  refine ACall.lessH ?_
  refine ACall.bodyN Try.func137 rfl Try.ntmps137 Try.results137 rfl rfl ?_
  refine ATodo.seq ?_
  refine ATodo.region ?_
  refine n_box rfl rfl rfl rfl (fun b1 => ?_)
  refine n_box rfl rfl rfl rfl (fun b2 => ?_)
  refine ARun.qv (q_assign rfl) rfl ?_
  refine ARun.nil ?_
  refine ATodo.seq ?_
  refine ATodo.seq ?_
  refine ATodo.region ?_
  refine ARun.qv (n_field_ptr rfl rfl) rfl ?_
  refine ARun.qv (q_load_ptr rfl rfl (.next .here) rfl) rfl ?_
  refine ARun.qv (n_field_ptr rfl rfl) rfl ?_
  refine ARun.qv (q_load_ptr rfl rfl .here rfl) rfl ?_
  refine ARun.qv (q_gtr rfl rfl) rfl ?_
  refine ARun.nil ?_
  refine ATodo.cut (fun σ' => ∃ (n3 : Int) (n4 : Int) (n5 : Int) (n6 : Int), place_where_2x_j1 p2x0 p3x0 n3 n4 n5 n6 = r ∧ σ' = ⟨35, [(2, .ptr b_2 0), (3, .ptr b_3 0), (4, .ptr b1 0), (5, .ptr b2 0)], [(b_2, .cells [I p2x0.X, I p2x0.Y]), (b_3, .cells [.bool p3x0]), (b1, .cells [I n3, I n4]), (b2, .cells [I n5, I n6])]⟩) ?_ ?_
  · refine ATodo.cond_d rfl (fun hc => ?_) (fun hc => ?_)
    · replace h := iteT hc h
      refine ATodo.region ?_
      refine ARun.qv (q_load_ptr_all rfl rfl .here rfl) rfl ?_
      refine ARun.qv (q_load_ptr_all rfl rfl (.next .here) rfl) rfl ?_
      refine n_store_ptr rfl rfl rfl rfl (.next .here) rfl rfl ?_
      refine n_store_ptr rfl rfl rfl rfl .here rfl rfl ?_
      refine ARun.nil ?_
      refine ATodo.stop ?_
      exact ImpX.lessP (by exact ⟨rfl, rfl, rfl, rfl, True.intro⟩) (.cons (.next (.next .here)) (.cons (.next (.next .here)) (.cons (.next .here) (.cons .here .nil)))) (ImpX.here ⟨p1x0.X, p1x0.Y, p0x0.X, p0x0.Y, h, rfl⟩)
    · replace h := iteF hc h
      refine ATodo.skip ?_
      refine ATodo.stop ?_
      exact ImpX.lessP (by exact ⟨rfl, rfl, rfl, rfl, True.intro⟩) (.cons (.next (.next .here)) (.cons (.next (.next .here)) (.cons (.next .here) (.cons .here .nil)))) (ImpX.here ⟨p0x0.X, p0x0.Y, p1x0.X, p1x0.Y, h, rfl⟩)
  · rintro σ' ⟨n3, n4, n5, n6, h, rfl⟩
    unfold place_where_2x_j1 at h
    refine ATodo.seq ?_
    refine ATodo.seq ?_
    refine ATodo.cut (fun σ' => ∃ (c7 : Bool), place_where_2x_j2 p3x0 c7 = r ∧ σ' = ⟨35, [(3, .ptr b_3 0), (32, .bool c7)], [(b_2, .cells [I p2x0.X, I p2x0.Y]), (b_3, .cells [.bool p3x0])]⟩) ?_ ?_
    · refine ATodo.region ?_
      refine ARun.qv (n_field_ptr rfl rfl) rfl ?_
      refine ARun.qv (q_load_ptr rfl rfl (.next (.next .here)) rfl) rfl ?_
      refine ARun.qv (n_field_ptr rfl rfl) rfl ?_
      refine ARun.qv (q_load_ptr rfl rfl .here rfl) rfl ?_
      refine ARun.qv (q_leq rfl rfl) rfl ?_
      refine ARun.qv (q_move rfl) rfl ?_
      refine ARun.guard_dt rfl rfl rfl (fun hc => ?_) (fun hc => ?_)
      · rw [andTd hc] at h
        refine ARun.qv (n_field_ptr rfl rfl) rfl ?_
        refine ARun.guard_yes rfl rfl rfl ?_
        refine ARun.qv (q_load_ptr rfl rfl .here rfl) rfl ?_
        refine ARun.guard_yes rfl rfl rfl ?_
        refine ARun.qv (n_field_ptr rfl rfl) rfl ?_
        refine ARun.guard_yes rfl rfl rfl ?_
        refine ARun.qv (q_load_ptr rfl rfl (.next (.next (.next .here))) rfl) rfl ?_
        refine ARun.guard_yes rfl rfl rfl ?_
        refine ARun.qv (q_lss rfl rfl) rfl ?_
        refine ARun.qv (q_pick_t rfl rfl) rfl ?_
        refine ARun.qv (q_move rfl) rfl ?_
        refine ARun.guard_dt rfl rfl rfl (fun hc => ?_) (fun hc => ?_)
        · rw [andTd hc] at h
          refine ARun.qv (q_load_ptr_all rfl rfl (.next (.next .here)) rfl) rfl ?_
          refine ARun.guard_yes rfl rfl rfl ?_
          refine ARun.qv (q_load_ptr_all rfl rfl (.next (.next (.next .here))) rfl) rfl ?_
          refine ARun.guard_yes rfl rfl rfl ?_
          refine ARun.qv (q_load_ptr_all rfl rfl .here rfl) rfl ?_
          refine ARun.guard_yes rfl rfl rfl ?_
          refine r_callp rfl (place_side_c (rfl : place_side (⟨n3, n4⟩ : Spot) (⟨n5, n6⟩ : Spot) p2x0 = _)) (CoL.refl _) rfl ?_
          refine ARun.guard_yes rfl rfl rfl ?_
          refine ARun.qv (q_gtr rfl rfl) rfl ?_
          refine ARun.qv (q_pick_t rfl rfl) rfl ?_
          refine ARun.nil ?_
          refine ATodo.stop ?_
          exact ImpX.lessP (by exact ⟨rfl, rfl, True.intro⟩) (.cons .here (.cons .here .nil)) (ImpX.here ⟨decide ((0 : Int) < (place_side (⟨n3, n4⟩ : Spot) (⟨n5, n6⟩ : Spot) p2x0)), h, rfl⟩)
        · rw [andFd hc] at h
          refine ARun.guard_no rfl rfl rfl rfl ?_
          refine ARun.guard_no rfl rfl rfl rfl ?_
          refine ARun.guard_no rfl rfl rfl rfl ?_
          refine ARun.guard_no rfl rfl rfl rfl ?_
          refine ARun.qv (q_pick_f rfl rfl) rfl ?_
          refine ARun.nil ?_
          refine ATodo.stop ?_
          exact ImpX.lessP (by exact ⟨rfl, rfl, True.intro⟩) (.cons .here (.cons .here .nil)) (ImpX.here ⟨false, h, rfl⟩)
      · rw [andFd hc] at h
        refine ARun.guard_no rfl rfl rfl rfl ?_
        refine ARun.guard_no rfl rfl rfl rfl ?_
        refine ARun.guard_no rfl rfl rfl rfl ?_
        refine ARun.guard_no rfl rfl rfl rfl ?_
        refine ARun.qv (q_pick_f rfl rfl) rfl ?_
        refine ARun.qv (q_move rfl) rfl ?_
        refine ARun.guard_no rfl rfl rfl rfl ?_
        refine ARun.guard_no rfl rfl rfl rfl ?_
        refine ARun.guard_no rfl rfl rfl rfl ?_
        refine ARun.guard_no rfl rfl rfl rfl ?_
        refine ARun.guard_no rfl rfl rfl rfl ?_
        refine ARun.qv (q_pick_f rfl rfl) rfl ?_
        refine ARun.nil ?_
        refine ATodo.stop ?_
        exact ImpX.lessP (by exact ⟨rfl, rfl, True.intro⟩) (.cons .here (.cons .here .nil)) (ImpX.here ⟨false, h, rfl⟩)
    · rintro σ' ⟨c7, h, rfl⟩
      unfold place_where_2x_j2 at h
      refine ATodo.cut (fun σ' => ∃ (c8 : Bool), place_where_2x_j3 c8 = r ∧ σ' = ⟨35, [], [(b_2, .cells [I p2x0.X, I p2x0.Y]), (b_3, .cells [.bool c8])]⟩) ?_ ?_
      · refine ATodo.cond rfl (fun hc => ?_) (fun hc => ?_)
        · replace h := iteT hc h
          refine ATodo.region ?_
          refine ARun.qv (q_load_ptr rfl rfl (.next .here) rfl) rfl ?_
          refine ARun.qv (q_not rfl) rfl ?_
          refine n_store_ptr rfl rfl rfl rfl (.next .here) rfl rfl ?_
          refine ARun.nil ?_
          refine ATodo.stop ?_
          exact ImpX.lessP (by exact True.intro) (.cons .here (.cons .here .nil)) (ImpX.here ⟨!p3x0, h, rfl⟩)
        · replace h := iteFb hc h
          refine ATodo.skip ?_
          refine ATodo.stop ?_
          exact ImpX.lessP (by exact True.intro) (.cons .here (.cons .here .nil)) (ImpX.here ⟨p3x0, h, rfl⟩)
      · rintro σ' ⟨c8, h, rfl⟩
        unfold place_where_2x_j3 at h
        refine ATodo.seq ?_
        refine ATodo.region ?_
        refine ARun.qv (q_assign rfl) rfl ?_
        refine ARun.nil ?_
        refine ATodo.ret ?_
        obtain rfl := h
        exact ImpX.here ⟨_, .cons (.tmp _ _ rfl) .nil, _, .cons .here (.cons .here .nil), ⟨rfl, rfl⟩⟩

set_option maxHeartbeats 4000000 in
theorem place_edges_f1x_place_where_2x_c {b_2 : Bk} {b_3 : Bk} {p0x0 : List Spot} {p2x0 : Spot} {p3x0 : Bool} {r : Bool × Bool} (h : place_edges_f1x_place_where_2x p0x0 p2x0 p3x0 = some r) : ACall Try.prog 91 [.list 2 (p0x0.map Spot.av), .func (.func 137) [.ptr b_2 0, .ptr b_3 0]] [(b_2, .cells [I p2x0.X, I p2x0.Y]), (b_3, .cells [.bool p3x0])] (T0 ([(b_2, .cells [I p2x0.X, I p2x0.Y]), (b_3, .cells [.bool r.2])]) (.bool r.1)) := by
  unfold place_edges_f1x_place_where_2x at h
  refine ACall.lessH ?_
  refine ACall.bodyN Try.func91 rfl Try.ntmps91 Try.results91 rfl rfl ?_
  refine ATodo.seq ?_
  refine ATodo.region ?_
  refine ARun.qv (q_assign rfl) rfl ?_
  refine ARun.nil ?_
  refine ATodo.seq ?_
  refine ATodo.seq ?_
  refine ATodo.region ?_
  refine ARun.qv (q_move rfl) rfl ?_
  refine ARun.qv (t_len rfl) rfl ?_
  refine ARun.qv (q_move rfl) rfl ?_
  refine ARun.nil ?_
  refine ATodo.block ?_
  refine ATodo.loopI (fun x : Bool × Int => place_edges_f1x_place_where_2x_b1 p0x0 p2x0 x.1 x.2) (fun x σ' => σ' = ⟨26, [(0, .list 2 (p0x0.map Spot.av)), (1, .func (.func 137) [.ptr b_2 0, .ptr b_3 0]), (7, .list 2 (p0x0.map Spot.av)), (8, I (p0x0.length : Int)), (9, I x.2)], [(b_2, .cells [I p2x0.X, I p2x0.Y]), (b_3, .cells [.bool x.1])]⟩) h ?_ ?_
  · exact ImpX.lessP (by exact ⟨rfl, rfl, rfl, rfl, rfl, True.intro⟩) (.cons .here (.cons .here .nil)) (ImpX.here rfl)
  · intro x z1 σ' J1 hmk h hJ1 hA1
    obtain ⟨c3, n4⟩ := x
    obtain rfl := hmk
    replace h : place_edges_f1x_place_where_2x_b1 p0x0 p2x0 c3 n4 = some z1 := h
    unfold place_edges_f1x_place_where_2x_b1 at h
    refine ATodo.seq ?_
    refine ATodo.region ?_
    refine ARun.qv (q_lss rfl rfl) rfl ?_
    refine ARun.nil ?_
    refine ATodo.seq ?_
    refine ATodo.cond_d rfl (fun hc => ?_) (fun hc => ?_)
    · replace h := iteT hc h
      refine ATodo.skip ?_
      refine ATodo.seq ?_
      refine ATodo.block ?_
      refine ATodo.seq ?_
      refine ATodo.region ?_
      refine ARun.qv (q_move rfl) rfl ?_
      obtain ⟨v5, e1, h⟩ := bnd h
      refine ARun.qv (t_index rfl rfl rfl e1 rfl rfl) rfl ?_
      refine ARun.qv (q_load_rptr_agg rfl rfl rfl) rfl ?_
      refine n_alloc rfl rfl rfl rfl (fun b6 => ?_)
      refine ARun.qv (q_assign rfl) rfl ?_
      refine n_store_ptr rfl rfl rfl rfl .here rfl rfl ?_
      refine ARun.nil ?_
      refine ATodo.seq ?_
      refine ATodo.regionM (id := 4) (A := [0, 0, 0, 0, 8, 0, 32, 120, 252, 508, 1023]) 10 mixed rfl (by kernel_rfl) (by kernel_rfl) ?_
      refine AM.qv (q_move rfl) rfl ?_
      refine AM.qv (q_load_ptr_all rfl rfl .here rfl) rfl ?_
      refine AM.qv (q_move rfl) rfl ?_
      refine AM.qv (q_move rfl) rfl ?_
      refine AM.qv (q_addw rfl rfl) rfl ?_
      refine AM.qv (q_move rfl) rfl ?_
      refine AM.qv (t_len rfl) rfl ?_
      obtain ⟨n7, e2, h⟩ := bnd h
      refine AM.qv (t_remS rfl rfl e2) rfl ?_
      obtain ⟨v8, e3, h⟩ := bnd h
      refine AM.qv (t_index rfl rfl rfl e3 rfl rfl) rfl ?_
      refine AM.qv (q_load_rptr_agg rfl rfl rfl) rfl ?_
      refine AM.nil ?_
      refine t_callv0 rfl rfl rfl (place_where_2x_c rfl) (CoL.refl _) (.cons (.next .here) (.cons (.next .here) .nil)) rfl rfl ?_
      refine ARun.nil ?_
      refine ATodo.cond rfl (fun hc => ?_) (fun hc => ?_)
      · replace h := iteT hc h
        refine ATodo.seq ?_
        refine ATodo.region ?_
        refine ARun.qv (q_assign rfl) rfl ?_
        refine ARun.nil ?_
        refine ATodo.ret ?_
        replace h := outL h hA1
        obtain rfl := Option.some.inj h
        exact ImpX.here ⟨_, .cons (.tmp _ _ rfl) .nil, _, .cons .here (.cons .here .nil), ⟨rfl, rfl⟩⟩
      · replace h := iteFb hc h
        refine ATodo.skip ?_
        refine ATodo.blk ?_
        refine ATodo.region ?_
        refine ARun.qv (q_addw rfl rfl) rfl ?_
        refine ARun.qv (q_move rfl) rfl ?_
        refine ARun.nil ?_
        refine ATodo.stop ?_
        obtain rfl := Option.some.inj h
        refine hJ1 _ _ rfl ?_
        exact ImpX.lessP (by exact ⟨rfl, rfl, rfl, rfl, rfl, True.intro⟩) (.cons .here (.cons .here .nil)) (ImpX.here rfl)
    · replace h := iteF hc h
      refine ATodo.exit rfl ?_
      replace h := outL h hA1
      refine ATodo.seq ?_
      refine ATodo.region ?_
      refine ARun.qv (q_assign rfl) rfl ?_
      refine ARun.nil ?_
      refine ATodo.ret ?_
      obtain rfl := Option.some.inj h
      exact ImpX.here ⟨_, .cons (.tmp _ _ rfl) .nil, _, .cons .here (.cons .here .nil), ⟨rfl, rfl⟩⟩

set_option maxHeartbeats 4000000 in
theorem place_where_c {p0x0 : List Spot} {p1x0 : Spot} {r : Int} (h : place_where p0x0 p1x0 = some r) : Pu Try.prog 94 [.list 2 (p0x0.map Spot.av), .agg [I p1x0.X, I p1x0.Y]] (I r) := by
  unfold place_where at h
  refine ACall.bodyN Try.func94 rfl Try.ntmps94 Try.results94 rfl rfl ?_
  refine ATodo.seq ?_
  refine ATodo.region ?_
  refine n_box rfl rfl rfl rfl (fun b1 => ?_)
  refine ARun.qv (q_assign rfl) rfl ?_
  refine ARun.nil ?_
  refine ATodo.seq ?_
  refine ATodo.seq ?_
  refine ATodo.region ?_
  refine ARun.qv (q_move rfl) rfl ?_
  refine ARun.qv (q_makeFunc rfl) rfl ?_
  obtain ⟨v2, e1, h⟩ := bnd h
  refine r_callpB rfl (place_edges_c (fun e => place_where_1x_c (Option.some.inj e)) e1) (.cons (.co (.refl _)) (.cons (.funcL _ _ _ (.cons (.boxL _ _ _ .here (.cons (.co (.refl _)) (.cons (.co (.refl _)) .nil))) .nil)) .nil)) rfl rfl ?_
  refine ARun.nil ?_
  refine ATodo.cond rfl (fun hc => ?_) (fun hc => ?_)
  · replace h := iteT hc h
    refine ATodo.seq ?_
    refine ATodo.region ?_
    refine ARun.qv (q_assign rfl) rfl ?_
    refine ARun.nil ?_
    refine ATodo.ret ?_
    obtain rfl := Option.some.inj h
    exact ImpX.here ⟨_, .cons (.tmp _ _ rfl) .nil, rfl⟩
  · replace h := iteFb hc h
    refine ATodo.skip ?_
    refine ATodo.seq ?_
    refine ATodo.region ?_
    refine n_alloc rfl rfl rfl rfl (fun b3 => ?_)
    refine n_store_ptr rfl rfl rfl rfl .here rfl rfl ?_
    refine ARun.nil ?_
    refine ATodo.seq ?_
    refine ATodo.region ?_
    refine ARun.qv (q_move rfl) rfl ?_
    refine ARun.qv (q_makeFunc rfl) rfl ?_
    obtain ⟨v4, e2, h⟩ := bnd h
    refine t_call0 rfl (place_edges_f1x_place_where_2x_c e2) (CoL.refl _) (.cons (.next .here) (.cons .here .nil)) rfl rfl ?_
    refine ARun.nil ?_
    refine ATodo.seq ?_
    refine ATodo.seq ?_
    refine ATodo.region ?_
    refine ARun.qv (q_load_ptr rfl rfl (.next .here) rfl) rfl ?_
    refine ARun.nil ?_
    refine ATodo.cond rfl (fun hc => ?_) (fun hc => ?_)
    · replace h := iteT hc h
      refine ATodo.seq ?_
      refine ATodo.region ?_
      refine ARun.qv (q_assign rfl) rfl ?_
      refine ARun.nil ?_
      refine ATodo.ret ?_
      obtain rfl := Option.some.inj h
      exact ImpX.here ⟨_, .cons (.tmp _ _ rfl) .nil, rfl⟩
    · replace h := iteFb hc h
      refine ATodo.skip ?_
      refine ATodo.seq ?_
      refine ATodo.region ?_
      refine ARun.qv (q_assign rfl) rfl ?_
      refine ARun.nil ?_
      refine ATodo.ret ?_
      obtain rfl := Option.some.inj h
      exact ImpX.here ⟨_, .cons (.tmp _ _ rfl) .nil, rfl⟩

set_option maxHeartbeats 4000000 in
theorem place_Where_c {p0x0 : FenceS} {p1x0 : Spot} {r : Int × Int} (h : place_Where p0x0 p1x0 = some r) : Pu Try.prog 32 [.agg [.str p0x0.Key, .list 2 (p0x0.Corners.map Spot.av)], .agg [I p1x0.X, I p1x0.Y]] (.tup [I r.1, I r.2]) := by
  unfold place_Where at h
  refine ACall.bodyN Try.func32 rfl Try.ntmps32 Try.results32 rfl rfl ?_
  refine ATodo.seq ?_
  refine ATodo.region ?_
  refine n_box rfl rfl rfl rfl (fun b1 => ?_)
  refine n_box rfl rfl rfl rfl (fun b2 => ?_)
  refine ARun.qv (q_assign rfl) rfl ?_
  refine ARun.qv (q_assign rfl) rfl ?_
  refine ARun.nil ?_
  refine ATodo.seq ?_
  refine ATodo.seq ?_
  refine ATodo.region ?_
  refine ARun.qv (q_load_ptr_all rfl rfl (.next .here) rfl) rfl ?_
  refine ARun.qv (q_load_ptr_all rfl rfl .here rfl) rfl ?_
  obtain ⟨v3, e1, h⟩ := bnd h
  refine r_callp rfl (place_spotFault_c e1) (CoL.refl _) rfl ?_
  refine ARun.qv (q_assign rfl) rfl ?_
  refine ARun.nil ?_
  refine ATodo.seq ?_
  refine ATodo.region ?_
  refine ARun.qv (q_move rfl) rfl ?_
  refine ARun.qv (q_neq rfl rfl) rfl ?_
  refine ARun.nil ?_
  refine ATodo.cond_d rfl (fun hc => ?_) (fun hc => ?_)
  · replace h := iteT hc h
    refine ATodo.seq ?_
    refine ATodo.region ?_
    refine ARun.qv (q_move rfl) rfl ?_
    refine ARun.qv (q_assign rfl) rfl ?_
    refine ARun.qv (q_assign rfl) rfl ?_
    refine ARun.nil ?_
    refine ATodo.ret ?_
    obtain rfl := Option.some.inj h
    exact ImpX.here ⟨_, .cons (.tmp _ _ rfl) (.cons (.tmp _ _ rfl) .nil), rfl⟩
  · replace h := iteF hc h
    refine ATodo.skip ?_
    refine ATodo.seq ?_
    refine ATodo.region ?_
    refine ARun.qv (n_field_ptr rfl rfl) rfl ?_
    refine ARun.qv (q_load_ptr rfl rfl (.next .here) rfl) rfl ?_
    refine ARun.qv (q_load_ptr_all rfl rfl .here rfl) rfl ?_
    obtain ⟨v4, e2, h⟩ := bnd h
    refine r_callp rfl (place_where_c e2) (CoL.refl _) rfl ?_
    refine ARun.qv (q_assign rfl) rfl ?_
    refine ARun.qv (q_assign rfl) rfl ?_
    refine ARun.nil ?_
    refine ATodo.ret ?_
    obtain rfl := Option.some.inj h
    exact ImpX.here ⟨_, .cons (.tmp _ _ rfl) (.cons (.tmp _ _ rfl) .nil), rfl⟩

set_option maxHeartbeats 4000000 in
theorem place_box_c {p0x0 : List Spot} {r : Spot × Spot} (h : place_box p0x0 = some r) : Pu Try.prog 95 [.list 2 (p0x0.map Spot.av)] (.tup [.agg [I r.1.X, I r.1.Y], .agg [I r.2.X, I r.2.Y]]) := by
  unfold place_box at h
  refine ACall.bodyN Try.func95 rfl Try.ntmps95 Try.results95 rfl rfl ?_
  refine ATodo.seq ?_
  refine ATodo.region ?_
  refine n_alloc rfl rfl rfl rfl (fun b1 => ?_)
  refine n_alloc rfl rfl rfl rfl (fun b2 => ?_)
  refine ARun.nil ?_
  refine ATodo.seq ?_
  obtain ⟨v3, e1, h⟩ := bnd h
  obtain ⟨v4, e2, h⟩ := bnd h
  refine ATodo.regionT (id := 1) (A := [0, 1, 3, 0, 8, 24, 7, 127]) (H0 := [(b1, .cells [I (0 : Int), I (0 : Int)])]) (HH := fun β => [(b1, .cells [I v3.X, I v3.Y]), (b2, .cells [I (0 : Int), I (0 : Int)])]) 7 mixed rfl (by kernel_rfl) (by kernel_rfl) [⟨none, some 6, [], fun _ => (b1, .cells [I (0 : Int), I (0 : Int)]), none⟩, ⟨some 6, none, [], fun _ => (b1, .cells [I v3.X, I v3.Y]), none⟩] [] rfl (by kernel_rfl) rfl (.cons (.next .here) .nil) (fun _ => rfl) ?_
  refine AT.am 6 rfl rfl ?_
  refine AM.qv (q_move rfl) rfl ?_
  refine AM.qv (t_index rfl rfl rfl e1 rfl rfl) rfl ?_
  refine AM.qv (q_load_rptr_agg rfl rfl rfl) rfl ?_
  refine AM.qv (q_move rfl) rfl ?_
  refine AM.qv (t_index rfl rfl rfl e2 rfl rfl) rfl ?_
  refine AM.qv (q_load_rptr_agg rfl rfl rfl) rfl ?_
  refine AM.nil ?_
  refine AT.run0 (Ti := [(b1, .cells [I (0 : Int), I (0 : Int)])]) (Pi := [(b1, .cells [I v3.X, I v3.Y])]) (fun _ => rfl) (fun _ => rfl) (fun _ => rfl) rfl rfl ?_ ?_
  · refine n_store_ptr rfl rfl rfl rfl .here rfl rfl ?_
    exact ARun.nil ⟨_, rfl⟩
  refine AT.nilN (fun _ => rfl) (fun β => ?_)
  refine n_store_ptr rfl rfl rfl rfl (.next .here) rfl rfl ?_
  refine ARun.nil ?_
  refine ATodo.seq ?_
  refine ATodo.seq ?_
  refine ATodo.region ?_
  refine ARun.qv (q_move rfl) rfl ?_
  refine ARun.qv (t_len rfl) rfl ?_
  refine ARun.qv (q_move rfl) rfl ?_
  refine ARun.nil ?_
  refine ATodo.block ?_
  refine ATodo.loopI (fun x : Int × Int × Int × Int × Int => place_box_b1 p0x0 x.1 x.2.1 x.2.2.1 x.2.2.2.1 x.2.2.2.2) (fun x σ' => σ' = ⟨43, [(2, .ptr b1 0), (3, .ptr b2 0), (12, .list 2 (p0x0.map Spot.av)), (13, I (p0x0.length : Int)), (14, I x.2.2.2.2)], [(b1, .cells [I x.1, I x.2.1]), (b2, .cells [I x.2.2.1, I x.2.2.2.1])]⟩) h ?_ ?_
  · exact ImpX.lessP (by exact ⟨rfl, rfl, rfl, rfl, rfl, True.intro⟩) (.cons .here (.cons .here .nil)) (ImpX.here rfl)
  · intro x z1 σ' J1 hmk h hJ1 hA1
    obtain ⟨n10, n11, n12, n13, n14⟩ := x
    obtain rfl := hmk
    replace h : place_box_b1 p0x0 n10 n11 n12 n13 n14 = some z1 := h
    unfold place_box_b1 at h
    refine ATodo.seq ?_
    refine ATodo.region ?_
    refine ARun.qv (q_lss rfl rfl) rfl ?_
    refine ARun.nil ?_
    refine ATodo.seq ?_
    refine ATodo.cond_d rfl (fun hc => ?_) (fun hc => ?_)
    · replace h := iteT hc h
      refine ATodo.skip ?_
      refine ATodo.seq ?_
      refine ATodo.block ?_
      refine ATodo.seq ?_
      refine ATodo.region ?_
      obtain ⟨v15, e3, h⟩ := bnd h
      refine ARun.qv (t_index rfl rfl rfl e3 rfl rfl) rfl ?_
      refine ARun.qv (q_load_rptr_agg rfl rfl rfl) rfl ?_
      refine n_alloc rfl rfl rfl rfl (fun b16 => ?_)
      refine n_store_ptr rfl rfl rfl rfl .here rfl rfl ?_
      refine ARun.nil ?_
      refine ATodo.seq ?_
      refine ATodo.region ?_
      refine ARun.qv (n_field_ptr rfl rfl) rfl ?_
      refine ARun.qv (q_load_ptr rfl rfl (.next .here) rfl) rfl ?_
      refine ARun.qv (n_field_ptr rfl rfl) rfl ?_
      refine ARun.qv (q_load_ptr rfl rfl .here rfl) rfl ?_
      refine ARun.qv (q_min rfl rfl) rfl ?_
      refine ARun.qv (n_field_ptr rfl rfl) rfl ?_
      refine ARun.qv (q_load_ptr rfl rfl (.next .here) rfl) rfl ?_
      refine ARun.qv (n_field_ptr rfl rfl) rfl ?_
      refine ARun.qv (q_load_ptr rfl rfl .here rfl) rfl ?_
      refine ARun.qv (q_min rfl rfl) rfl ?_
      refine ARun.qv (n_build rfl rfl rfl rfl rfl) rfl ?_
      refine n_store_ptr rfl rfl rfl rfl (.next .here) rfl rfl ?_
      refine ARun.nil ?_
      refine ATodo.region ?_
      refine ARun.qv (n_field_ptr rfl rfl) rfl ?_
      refine ARun.qv (q_load_ptr rfl rfl (.next (.next .here)) rfl) rfl ?_
      refine ARun.qv (n_field_ptr rfl rfl) rfl ?_
      refine ARun.qv (q_load_ptr rfl rfl .here rfl) rfl ?_
      refine ARun.qv (q_max rfl rfl) rfl ?_
      refine ARun.qv (n_field_ptr rfl rfl) rfl ?_
      refine ARun.qv (q_load_ptr rfl rfl (.next (.next .here)) rfl) rfl ?_
      refine ARun.qv (n_field_ptr rfl rfl) rfl ?_
      refine ARun.qv (q_load_ptr rfl rfl .here rfl) rfl ?_
      refine ARun.qv (q_max rfl rfl) rfl ?_
      refine ARun.qv (n_build rfl rfl rfl rfl rfl) rfl ?_
      refine n_store_ptr rfl rfl rfl rfl (.next (.next .here)) rfl rfl ?_
      refine ARun.nil ?_
      refine ATodo.blk ?_
      refine ATodo.region ?_
      refine ARun.qv (q_addw rfl rfl) rfl ?_
      refine ARun.qv (q_move rfl) rfl ?_
      refine ARun.nil ?_
      refine ATodo.stop ?_
      obtain rfl := Option.some.inj h
      refine hJ1 _ _ rfl ?_
      exact ImpX.lessP (by exact ⟨rfl, rfl, rfl, rfl, rfl, True.intro⟩) (.cons (.next .here) (.cons (.next .here) .nil)) (ImpX.here rfl)
    · replace h := iteF hc h
      refine ATodo.exit rfl ?_
      replace h := outL h hA1
      refine ATodo.seq ?_
      refine ATodo.regionT (id := 8) (A := [0, 0, 1, 7]) (H0 := [(b1, .cells [I n10, I n11])]) (HH := fun β => [(b1, .cells [I n10, I n11]), (b2, .cells [I n12, I n13])]) 3 mixed rfl (by kernel_rfl) (by kernel_rfl) [⟨none, some 2, [0], fun _ => (b1, .cells [I n10, I n11]), none⟩, ⟨some 2, none, [], fun _ => (b1, .cells [I n10, I n11]), none⟩] [] rfl (by kernel_rfl) rfl (.cons .here .nil) (fun _ => rfl) ?_
      refine AT.rd (Rs := [(b1, .cells [I n10, I n11])]) (fun _ => rfl) rfl (fun _ => rfl) (fun _ => rfl) (q_load_ptr_all rfl rfl .here rfl) rfl ?_
      refine AT.am 1 rfl rfl ?_
      refine AM.qv (q_load_ptr_all rfl rfl .here rfl) rfl ?_
      refine AM.nil ?_
      refine AT.run0 (Ti := [(b1, .cells [I n10, I n11])]) (Pi := [(b1, .cells [I n10, I n11])]) (fun _ => rfl) (fun _ => rfl) (fun _ => rfl) rfl rfl ?_ ?_
      · refine n_store_ptr rfl rfl rfl rfl .here rfl rfl ?_
        exact ARun.nil ⟨_, rfl⟩
      refine AT.nilN (fun _ => rfl) (fun β => ?_)
      refine n_store_ptr rfl rfl rfl rfl (.next .here) rfl rfl ?_
      refine ARun.nil ?_
      refine ATodo.ret ?_
      obtain rfl := Option.some.inj h
      exact ImpX.here ⟨_, .cons (.all _ _ _ _ _ _ rfl .here TUnder.h TInfo.h rfl rfl) (.cons (.all _ _ _ _ _ _ rfl (.next .here) TUnder.h TInfo.h rfl rfl) .nil), rfl⟩

set_option maxHeartbeats 4000000 in
theorem place_Box_c {p0x0 : FenceS} {r : Spot × Spot × Int} (h : place_Box p0x0 = some r) : Pu Try.prog 33 [.agg [.str p0x0.Key, .list 2 (p0x0.Corners.map Spot.av)]] (.tup [.agg [I r.1.X, I r.1.Y], .agg [I r.2.1.X, I r.2.1.Y], I r.2.2]) := by
  unfold place_Box at h
  refine ACall.bodyN Try.func33 rfl Try.ntmps33 Try.results33 rfl rfl ?_
  refine ATodo.seq ?_
  refine ATodo.region ?_
  refine n_box rfl rfl rfl rfl (fun b1 => ?_)
  refine n_alloc rfl rfl rfl rfl (fun b2 => ?_)
  refine n_alloc rfl rfl rfl rfl (fun b3 => ?_)
  refine ARun.qv (q_assign rfl) rfl ?_
  refine ARun.nil ?_
  refine ATodo.seq ?_
  refine ATodo.seq ?_
  refine ATodo.region ?_
  refine ARun.qv (q_load_ptr_all rfl rfl (.next (.next .here)) rfl) rfl ?_
  obtain ⟨v4, e1, h⟩ := bnd h
  refine r_callp rfl (place_CheckFence_c e1) (CoL.refl _) rfl ?_
  refine ARun.qv (q_assign rfl) rfl ?_
  refine ARun.nil ?_
  refine ATodo.seq ?_
  refine ATodo.region ?_
  refine ARun.qv (q_move rfl) rfl ?_
  refine ARun.qv (q_neq rfl rfl) rfl ?_
  refine ARun.nil ?_
  refine ATodo.cond_d rfl (fun hc => ?_) (fun hc => ?_)
  · replace h := iteT hc h
    refine ATodo.seq ?_
    refine ATodo.region ?_
    refine ARun.qv (n_build rfl rfl rfl rfl rfl) rfl ?_
    refine ARun.qv (n_build rfl rfl rfl rfl rfl) rfl ?_
    refine ARun.qv (q_move rfl) rfl ?_
    refine n_store_ptr rfl rfl rfl rfl (.next .here) rfl rfl ?_
    refine n_store_ptr rfl rfl rfl rfl .here rfl rfl ?_
    refine ARun.qv (q_assign rfl) rfl ?_
    refine ARun.nil ?_
    refine ATodo.ret ?_
    obtain rfl := Option.some.inj h
    exact ImpX.here ⟨_, .cons (.all _ _ _ _ _ _ rfl (.next .here) TUnder.h TInfo.h rfl rfl) (.cons (.all _ _ _ _ _ _ rfl .here TUnder.h TInfo.h rfl rfl) (.cons (.tmp _ _ rfl) .nil)), rfl⟩
  · replace h := iteF hc h
    refine ATodo.skip ?_
    refine ATodo.seq ?_
    refine ATodo.region ?_
    refine ARun.qv (n_field_ptr rfl rfl) rfl ?_
    refine ARun.qv (q_load_ptr rfl rfl (.next (.next .here)) rfl) rfl ?_
    obtain ⟨v5, e2, h⟩ := bnd h
    refine r_callp rfl (place_box_c e2) (CoL.refl _) rfl ?_
    refine ARun.qv (q_move rfl) rfl ?_
    refine ARun.qv (q_extract rfl rfl) rfl ?_
    refine ARun.qv (q_extract rfl rfl) rfl ?_
    refine n_alloc rfl rfl rfl rfl (fun b6 => ?_)
    refine n_alloc rfl rfl rfl rfl (fun b7 => ?_)
    refine n_store_ptr rfl rfl rfl rfl (.next .here) rfl rfl ?_
    refine n_store_ptr rfl rfl rfl rfl .here rfl rfl ?_
    refine ARun.nil ?_
    refine ATodo.seq ?_
    refine ATodo.regionT (id := 5) (A := [0, 0, 1, 7, 15]) (H0 := [(b2, .cells [I (0 : Int), I (0 : Int)])]) (HH := fun β => [(b2, .cells [I v5.1.X, I v5.1.Y]), (b7, .cells [I v5.2.X, I v5.2.Y]), (b6, .cells [I v5.1.X, I v5.1.Y]), (b3, .cells [I (0 : Int), I (0 : Int)]), (b1, .cells [.str p0x0.Key, .list 2 (p0x0.Corners.map Spot.av)])]) 3 mixed rfl (by kernel_rfl) (by kernel_rfl) [⟨none, some 2, [], fun _ => (b2, .cells [I (0 : Int), I (0 : Int)]), none⟩, ⟨some 2, none, [], fun _ => (b2, .cells [I v5.1.X, I v5.1.Y]), none⟩] [] rfl (by kernel_rfl) rfl (.cons (.next (.next (.next .here))) .nil) (fun _ => rfl) ?_
    refine AT.am 2 rfl rfl ?_
    refine AM.qv (q_load_ptr_all rfl rfl (.next .here) rfl) rfl ?_
    refine AM.qv (q_load_ptr_all rfl rfl .here rfl) rfl ?_
    refine AM.nil ?_
    refine AT.run0 (Ti := [(b2, .cells [I (0 : Int), I (0 : Int)])]) (Pi := [(b2, .cells [I v5.1.X, I v5.1.Y])]) (fun _ => rfl) (fun _ => rfl) (fun _ => rfl) rfl rfl ?_ ?_
    · refine n_store_ptr rfl rfl rfl rfl .here rfl rfl ?_
      exact ARun.nil ⟨_, rfl⟩
    refine AT.nilN (fun _ => rfl) (fun β => ?_)
    refine n_store_ptr rfl rfl rfl rfl (.next (.next (.next .here))) rfl rfl ?_
    refine ARun.qv (q_assign rfl) rfl ?_
    refine ARun.nil ?_
    refine ATodo.ret ?_
    obtain rfl := Option.some.inj h
    exact ImpX.here ⟨_, .cons (.all _ _ _ _ _ _ rfl .here TUnder.h TInfo.h rfl rfl) (.cons (.all _ _ _ _ _ _ rfl (.next (.next (.next .here))) TUnder.h TInfo.h rfl rfl) (.cons (.tmp _ _ rfl) .nil)), rfl⟩

set_option maxHeartbeats 4000000 in
theorem Q_only_c {p0x0 : Str} {p1x0 : Str} {r : Bool} (h : Q_only p0x0 p1x0 = some r) : Pu Try.prog 82 [.str p0x0, .str p1x0] (.bool r) := by
  unfold Q_only at h
  refine ACall.bodyN Try.func82 rfl Try.ntmps82 Try.results82 rfl rfl ?_
  refine ATodo.seq ?_
  refine ATodo.region ?_
  refine ARun.qv (q_assign rfl) rfl ?_
  refine ARun.nil ?_
  refine ATodo.seq ?_
  refine ATodo.seq ?_
  refine ATodo.region ?_
  refine ARun.qv (q_move rfl) rfl ?_
  refine ARun.qv (q_len_str rfl) rfl ?_
  refine ARun.qv (q_move rfl) rfl ?_
  refine ARun.nil ?_
  refine ATodo.block ?_
  refine ATodo.loopI (fun x : Int => Q_only_b1 p0x0 p1x0 x) (fun x σ' => σ' = ⟨18, [(0, .str p0x0), (1, .str p1x0), (7, I (p0x0.length : Int)), (8, I x)], []⟩) h ?_ ?_
  · exact ImpX.lessP (by exact ⟨rfl, rfl, rfl, rfl, True.intro⟩) (.nil) (ImpX.here rfl)
  · intro n2 z1 σ' J1 hmk h hJ1 hA1
    obtain rfl := hmk
    replace h : Q_only_b1 p0x0 p1x0 n2 = some z1 := h
    unfold Q_only_b1 at h
    refine ATodo.seq ?_
    refine ATodo.region ?_
    refine ARun.qv (q_lss rfl rfl) rfl ?_
    refine ARun.nil ?_
    refine ATodo.seq ?_
    refine ATodo.cond_d rfl (fun hc => ?_) (fun hc => ?_)
    · replace h := iteT hc h
      refine ATodo.skip ?_
      refine ATodo.seq ?_
      refine ATodo.block ?_
      refine ATodo.seq ?_
      refine ATodo.region ?_
      refine ARun.qv (q_move rfl) rfl ?_
      refine ARun.qv (q_assign rfl) rfl ?_
      refine ARun.nil ?_
      refine ATodo.seq ?_
      refine ATodo.region ?_
      refine ARun.qv (q_move rfl) rfl ?_
      refine ARun.qv (q_move rfl) rfl ?_
      refine ARun.qv (q_move rfl) rfl ?_
      obtain ⟨c3, e1, h⟩ := bnd h
      refine ARun.qv (t_index_str rfl rfl e1) rfl ?_
      refine r_callp rfl (strings_IndexByte_c rfl) (CoL.refl _) rfl ?_
      refine ARun.qv (q_lss rfl rfl) rfl ?_
      refine ARun.nil ?_
      refine ATodo.cond_d rfl (fun hc => ?_) (fun hc => ?_)
      · replace h := iteT hc h
        refine ATodo.seq ?_
        refine ATodo.region ?_
        refine ARun.qv (q_assign rfl) rfl ?_
        refine ARun.nil ?_
        refine ATodo.ret ?_
        replace h := outL h hA1
        obtain rfl := Option.some.inj h
        exact ImpX.here ⟨_, .cons (.tmp _ _ rfl) .nil, rfl⟩
      · replace h := iteF hc h
        refine ATodo.skip ?_
        refine ATodo.blk ?_
        refine ATodo.region ?_
        refine ARun.qv (q_addw rfl rfl) rfl ?_
        refine ARun.qv (q_move rfl) rfl ?_
        refine ARun.nil ?_
        refine ATodo.stop ?_
        obtain rfl := Option.some.inj h
        refine hJ1 _ _ rfl ?_
        exact ImpX.lessP (by exact ⟨rfl, rfl, rfl, rfl, True.intro⟩) (.nil) (ImpX.here rfl)
    · replace h := iteF hc h
      refine ATodo.exit rfl ?_
      replace h := outL h hA1
      refine ATodo.seq ?_
      refine ATodo.region ?_
      refine ARun.qv (q_assign rfl) rfl ?_
      refine ARun.nil ?_
      refine ATodo.ret ?_
      obtain rfl := Option.some.inj h
      exact ImpX.here ⟨_, .cons (.tmp _ _ rfl) .nil, rfl⟩

set_option maxHeartbeats 4000000 in
theorem Q_Key_c {p0x0 : Str} {r : Bool} (h : Q_Key p0x0 = some r) : Pu Try.prog 25 [.str p0x0] (.bool r) := by
  unfold Q_Key at h
  refine ACall.bodyN Try.func25 rfl Try.ntmps25 Try.results25 rfl rfl ?_
  refine ATodo.seq ?_
  refine ATodo.region ?_
  refine ARun.qv (q_assign rfl) rfl ?_
  refine ARun.nil ?_
  refine ATodo.seq ?_
  refine ATodo.cut (fun σ' => ∃ (c1 : Bool), Q_Key_j1 c1 = some r ∧ σ' = ⟨15, [(2, .bool c1)], []⟩) ?_ ?_
  · refine ATodo.region ?_
    refine ARun.qv (q_move rfl) rfl ?_
    refine ARun.qv (q_len_str rfl) rfl ?_
    refine r_callp rfl (Q_in_c rfl) (CoL.refl _) rfl ?_
    refine ARun.qv (q_move rfl) rfl ?_
    refine ARun.guard rfl rfl rfl (fun hc => ?_) (fun hc => ?_)
    · replace h := iteT hc h
      refine ARun.qv (q_move rfl) rfl ?_
      refine ARun.guard_yes rfl rfl rfl ?_
      obtain ⟨l2, e1, h⟩ := bnd h
      refine ARun.qv (t_slice_str rfl .none (.some _ _ _ rfl) rfl rfl e1) rfl ?_
      refine ARun.guard_yes rfl rfl rfl ?_
      obtain ⟨v3, e2, h⟩ := bnd h
      refine r_callp rfl (Q_only_c e2) (CoL.refl _) rfl ?_
      refine ARun.qv (q_pick_t rfl rfl) rfl ?_
      refine ARun.qv (q_move rfl) rfl ?_
      refine ARun.guard rfl rfl rfl (fun hc => ?_) (fun hc => ?_)
      · replace h := iteT hc h
        refine ARun.qv (q_move rfl) rfl ?_
        refine ARun.guard_yes rfl rfl rfl ?_
        obtain ⟨v4, e3, h⟩ := bnd h
        refine r_callp rfl (Q_only_c e3) (CoL.refl _) rfl ?_
        refine ARun.qv (q_pick_t rfl rfl) rfl ?_
        refine ARun.qv (q_assign rfl) rfl ?_
        refine ARun.nil ?_
        refine ATodo.stop ?_
        exact ImpX.lessP (by exact ⟨rfl, True.intro⟩) (.nil) (ImpX.here ⟨v4, h, rfl⟩)
      · replace h := iteFb hc h
        refine ARun.guard_no rfl rfl rfl rfl ?_
        refine ARun.qv (q_pick_f rfl rfl) rfl ?_
        refine ARun.qv (q_assign rfl) rfl ?_
        refine ARun.nil ?_
        refine ATodo.stop ?_
        exact ImpX.lessP (by exact ⟨rfl, True.intro⟩) (.nil) (ImpX.here ⟨false, h, rfl⟩)
    · replace h := iteFb hc h
      refine ARun.guard_no rfl rfl rfl rfl ?_
      refine ARun.guard_no rfl rfl rfl rfl ?_
      refine ARun.qv (q_pick_f rfl rfl) rfl ?_
      refine ARun.qv (q_move rfl) rfl ?_
      refine ARun.guard_no rfl rfl rfl rfl ?_
      refine ARun.guard_no rfl rfl rfl rfl ?_
      refine ARun.qv (q_pick_f rfl rfl) rfl ?_
      refine ARun.qv (q_assign rfl) rfl ?_
      refine ARun.nil ?_
      refine ATodo.stop ?_
      exact ImpX.lessP (by exact ⟨rfl, True.intro⟩) (.nil) (ImpX.here ⟨false, h, rfl⟩)
  · rintro σ' ⟨c1, h, rfl⟩
    unfold Q_Key_j1 at h
    refine ATodo.ret ?_
    obtain rfl := Option.some.inj h
    exact ImpX.here ⟨_, .cons (.tmp _ _ rfl) .nil, rfl⟩

set_option maxHeartbeats 4000000 in
theorem Q_FenceFault_c {p0x0 : FenceS} {r : Int} (h : Q_FenceFault p0x0 = some r) : Pu Try.prog 34 [.agg [.str p0x0.Key, .list 2 (p0x0.Corners.map Spot.av)]] (I r) := by
  unfold Q_FenceFault at h
  refine ACall.bodyN Try.func34 rfl Try.ntmps34 Try.results34 rfl rfl ?_
  refine ATodo.seq ?_
  refine ATodo.region ?_
  refine n_box rfl rfl rfl rfl (fun b1 => ?_)
  refine ARun.qv (q_assign rfl) rfl ?_
  refine ARun.nil ?_
  refine ATodo.seq ?_
  refine ATodo.seq ?_
  refine ATodo.region ?_
  refine ARun.qv (n_field_ptr rfl rfl) rfl ?_
  refine ARun.qv (q_load_ptr rfl rfl .here rfl) rfl ?_
  obtain ⟨v2, e1, h⟩ := bnd h
  refine r_callp rfl (Q_Key_c e1) (CoL.refl _) rfl ?_
  refine ARun.qv (q_not rfl) rfl ?_
  refine ARun.nil ?_
  refine ATodo.cond rfl (fun hc => ?_) (fun hc => ?_)
  · replace h := iteT hc h
    refine ATodo.seq ?_
    refine ATodo.region ?_
    refine ARun.qv (q_assign rfl) rfl ?_
    refine ARun.nil ?_
    refine ATodo.ret ?_
    obtain rfl := Option.some.inj h
    exact ImpX.here ⟨_, .cons (.tmp _ _ rfl) .nil, rfl⟩
  · replace h := iteFb hc h
    refine ATodo.skip ?_
    refine ATodo.seq ?_
    refine ATodo.region ?_
    refine ARun.qv (n_field_ptr rfl rfl) rfl ?_
    refine ARun.qv (q_load_ptr rfl rfl .here rfl) rfl ?_
    obtain ⟨v3, e2, h⟩ := bnd h
    refine r_callp rfl (Q_CornersFault_c e2) (CoL.refl _) rfl ?_
    refine ARun.qv (q_assign rfl) rfl ?_
    refine ARun.nil ?_
    refine ATodo.ret ?_
    obtain rfl := Option.some.inj h
    exact ImpX.here ⟨_, .cons (.tmp _ _ rfl) .nil, rfl⟩

set_option maxHeartbeats 4000000 in
theorem L_errs_c {p0x0 : List Int} {r : Int} (h : L_errs p0x0 = some r) : Pu Try.prog 14 [.list 1 (p0x0.map I)] (I r) := by
  unfold L_errs at h
  refine ACall.bodyN Try.func14 rfl Try.ntmps14 Try.results14 rfl rfl ?_
  refine ATodo.seq ?_
  refine ATodo.region ?_
  refine ARun.qv (q_assign rfl) rfl ?_
  refine ARun.nil ?_
  refine ATodo.seq ?_
  refine ATodo.seq ?_
  refine ATodo.region ?_
  refine ARun.qv (q_move rfl) rfl ?_
  refine ARun.qv (t_len rfl) rfl ?_
  refine ARun.qv (q_move rfl) rfl ?_
  refine ARun.nil ?_
  refine ATodo.block ?_
  refine ATodo.loopI (fun x : Int => L_errs_b1 p0x0 x) (fun x σ' => σ' = ⟨15, [(5, .list 1 (p0x0.map I)), (6, I (p0x0.length : Int)), (7, I x)], []⟩) h ?_ ?_
  · exact ImpX.lessP (by exact ⟨rfl, rfl, rfl, True.intro⟩) (.nil) (ImpX.here rfl)
  · intro n2 z1 σ' J1 hmk h hJ1 hA1
    obtain rfl := hmk
    replace h : L_errs_b1 p0x0 n2 = some z1 := h
    unfold L_errs_b1 at h
    refine ATodo.seq ?_
    refine ATodo.region ?_
    refine ARun.qv (q_lss rfl rfl) rfl ?_
    refine ARun.nil ?_
    refine ATodo.seq ?_
    refine ATodo.cond_d rfl (fun hc => ?_) (fun hc => ?_)
    · replace h := iteT hc h
      refine ATodo.skip ?_
      refine ATodo.seq ?_
      refine ATodo.block ?_
      refine ATodo.seq ?_
      refine ATodo.region ?_
      obtain ⟨v3, e1, h⟩ := bnd h
      refine ARun.qv (t_index rfl rfl rfl e1 rfl rfl) rfl ?_
      refine ARun.qv (q_load_rptr rfl rfl rfl) rfl ?_
      refine ARun.qv (q_assign rfl) rfl ?_
      refine ARun.nil ?_
      refine ATodo.seq ?_
      refine ATodo.region ?_
      refine ARun.qv (q_move rfl) rfl ?_
      refine ARun.qv (q_neq rfl rfl) rfl ?_
      refine ARun.nil ?_
      refine ATodo.cond_d rfl (fun hc => ?_) (fun hc => ?_)
      · replace h := iteT hc h
        refine ATodo.seq ?_
        refine ATodo.region ?_
        refine ARun.qv (q_move rfl) rfl ?_
        refine ARun.qv (q_assign rfl) rfl ?_
        refine ARun.nil ?_
        refine ATodo.ret ?_
        replace h := outL h hA1
        obtain rfl := Option.some.inj h
        exact ImpX.here ⟨_, .cons (.tmp _ _ rfl) .nil, rfl⟩
      · replace h := iteF hc h
        refine ATodo.skip ?_
        refine ATodo.blk ?_
        refine ATodo.region ?_
        refine ARun.qv (q_addw rfl rfl) rfl ?_
        refine ARun.qv (q_move rfl) rfl ?_
        refine ARun.nil ?_
        refine ATodo.stop ?_
        obtain rfl := Option.some.inj h
        refine hJ1 _ _ rfl ?_
        exact ImpX.lessP (by exact ⟨rfl, rfl, rfl, True.intro⟩) (.nil) (ImpX.here rfl)
    · replace h := iteF hc h
      refine ATodo.exit rfl ?_
      replace h := outL h hA1
      refine ATodo.seq ?_
      refine ATodo.region ?_
      refine ARun.qv (q_assign rfl) rfl ?_
      refine ARun.nil ?_
      refine ATodo.ret ?_
      obtain rfl := Option.some.inj h
      exact ImpX.here ⟨_, .cons (.tmp _ _ rfl) .nil, rfl⟩

set_option maxHeartbeats 4000000 in
theorem place_Cell_c {p0x0 : Spot} {p1x0 : Int} {r : Str × Int} (h : place_Cell p0x0 p1x0 = some r) : Pu Try.prog 100 [.agg [I p0x0.X, I p0x0.Y], I p1x0] (.tup [.str r.1, I r.2]) := by
  unfold place_Cell at h
  refine ACall.bodyN Try.func100 rfl Try.ntmps100 Try.results100 rfl rfl ?_
  refine ATodo.seq ?_
  refine ATodo.region ?_
  refine n_box rfl rfl rfl rfl (fun b1 => ?_)
  refine ARun.qv (q_assign rfl) rfl ?_
  refine ARun.qv (q_assign rfl) rfl ?_
  refine ARun.nil ?_
  refine ATodo.seq ?_
  refine ATodo.seq ?_
  refine ATodo.cut (fun σ' => ∃ (c2 : Bool), place_Cell_j1 p0x0 p1x0 c2 = some r ∧ σ' = ⟨47, [(1, I p1x0), (2, .ptr b1 0), (16, .bool c2)], [(b1, .cells [I p0x0.X, I p0x0.Y])]⟩) ?_ ?_
  · refine ATodo.region ?_
    refine ARun.qv (q_load_ptr_all rfl rfl .here rfl) rfl ?_
    refine r_callp rfl (place_isSpot_c rfl) (CoL.refl _) rfl ?_
    refine ARun.qv (q_not rfl) rfl ?_
    refine ARun.qv (q_move rfl) rfl ?_
    refine ARun.guard rfl rfl rfl (fun hc => ?_) (fun hc => ?_)
    · rw [orFb hc] at h
      refine ARun.qv (q_move rfl) rfl ?_
      refine ARun.guard_yes rfl rfl rfl ?_
      refine r_callp rfl (base_Out_c rfl) (CoL.refl _) rfl ?_
      refine ARun.qv (q_pick_f rfl rfl) rfl ?_
      refine ARun.nil ?_
      refine ATodo.stop ?_
      exact ImpX.lessP (by exact ⟨rfl, rfl, rfl, True.intro⟩) (.cons .here .nil) (ImpX.here ⟨(base_Out p1x0 (0 : Int) (15 : Int)), h, rfl⟩)
    · rw [orTb hc] at h
      refine ARun.guard_no rfl rfl rfl rfl ?_
      refine ARun.qv (q_pick_t rfl rfl) rfl ?_
      refine ARun.nil ?_
      refine ATodo.stop ?_
      exact ImpX.lessP (by exact ⟨rfl, rfl, rfl, True.intro⟩) (.cons .here .nil) (ImpX.here ⟨true, h, rfl⟩)
  · rintro σ' ⟨c2, h, rfl⟩
    unfold place_Cell_j1 at h
    refine ATodo.cond rfl (fun hc => ?_) (fun hc => ?_)
    · replace h := iteT hc h
      refine ATodo.seq ?_
      refine ATodo.region ?_
      refine ARun.qv (q_assign rfl) rfl ?_
      refine ARun.qv (q_assign rfl) rfl ?_
      refine ARun.nil ?_
      refine ATodo.ret ?_
      obtain rfl := Option.some.inj h
      exact ImpX.here ⟨_, .cons (.tmp _ _ rfl) (.cons (.tmp _ _ rfl) .nil), rfl⟩
    · replace h := iteFb hc h
      refine ATodo.skip ?_
      refine ATodo.seq ?_
      refine ATodo.region ?_
      refine ARun.qv (q_assign rfl) rfl ?_
      refine ARun.nil ?_
      refine ATodo.seq ?_
      refine ATodo.regionM (id := 4) (A := [0, 1, 3, 0, 8, 24, 7, 127, 255]) 9 mixed rfl (by kernel_rfl) (by kernel_rfl) ?_
      refine AM.qv (n_field_ptr rfl rfl) rfl ?_
      refine AM.qv (q_load_ptr rfl rfl .here rfl) rfl ?_
      refine AM.qv (q_subw rfl rfl) rfl ?_
      refine AM.qv (n_field_ptr rfl rfl) rfl ?_
      refine AM.qv (q_load_ptr rfl rfl .here rfl) rfl ?_
      refine AM.qv (q_subw rfl rfl) rfl ?_
      refine AM.qv (q_assign rfl) rfl ?_
      refine AM.qv (q_assign rfl) rfl ?_
      refine AM.qv (q_assign rfl) rfl ?_
      refine AM.nil ?_
      refine ARun.nil ?_
      refine ATodo.seq ?_
      refine ATodo.seq ?_
      refine ATodo.region ?_
      refine ARun.qv (q_move rfl) rfl ?_
      refine ARun.qv (q_move rfl) rfl ?_
      refine ARun.nil ?_
      refine ATodo.block ?_
      refine ATodo.loopI (fun x : (List Int) × Int × Int => place_Cell_b1 p0x0 p1x0 x.1 x.2.1 x.2.2) (fun x σ' => ∃ (b7 : Bk), σ' = ⟨47, [(6, .sl 1 b7 0 x.1.length), (7, I (w64 (p0x0.X - (-16384 : Int)))), (8, I (w64 (p0x0.Y - (-16384 : Int)))), (9, I x.2.1), (23, I p1x0), (24, I x.2.2)], [(b7, .arr 1 (x.1.map (AV.int .u8)))]⟩) h ?_ ?_
      · refine ImpX.arr (s := 6) 1 rfl (fun b11 => ?_)
        exact ImpX.lessP (by exact ⟨rfl, rfl, rfl, rfl, rfl, rfl, True.intro⟩) (.cons .here .nil) (ImpX.here ⟨b11, rfl⟩)
      · intro x z1 σ' J1 hmk h hJ1 hA1
        obtain ⟨l8, n9, n10⟩ := x
        obtain ⟨b7, rfl⟩ := hmk
        replace h : place_Cell_b1 p0x0 p1x0 l8 n9 n10 = some z1 := h
        unfold place_Cell_b1 at h
        refine ATodo.seq ?_
        refine ATodo.region ?_
        refine ARun.qv (q_lss rfl rfl) rfl ?_
        refine ARun.nil ?_
        refine ATodo.seq ?_
        refine ATodo.cond_d rfl (fun hc => ?_) (fun hc => ?_)
        · replace h := iteT hc h
          refine ATodo.skip ?_
          refine ATodo.seq ?_
          refine ATodo.block ?_
          refine ATodo.seq ?_
          refine ATodo.region ?_
          refine ARun.qv (q_move rfl) rfl ?_
          refine ARun.qv (t_quo rfl rfl (by decide)) rfl ?_
          refine ARun.qv (q_assign rfl) rfl ?_
          refine ARun.nil ?_
          refine ATodo.regionM (id := 8) (A := [0, 0, 0, 6, 14, 30, 62, 0, 0, 384, 896, 1920, 3968, 8190, 16382, 32767, 65535]) 15 mixed rfl (by kernel_rfl) (by kernel_rfl) ?_
          refine AM.qv (q_move rfl) rfl ?_
          refine AM.qv (q_move rfl) rfl ?_
          refine AM.qv (q_move rfl) rfl ?_
          obtain ⟨n12, e1, h⟩ := bnd h
          refine AM.qv (t_quoS rfl rfl e1) rfl ?_
          refine AM.qv (q_rem rfl rfl (by decide)) rfl ?_
          refine AM.qv (q_conv_int rfl) rfl ?_
          refine AM.qv (q_addw rfl rfl) rfl ?_
          refine AM.qv (q_move rfl) rfl ?_
          refine AM.qv (q_move rfl) rfl ?_
          obtain ⟨n13, e2, h⟩ := bnd h
          refine AM.qv (t_quoS rfl rfl e2) rfl ?_
          refine AM.qv (q_rem rfl rfl (by decide)) rfl ?_
          refine AM.qv (q_conv_int rfl) rfl ?_
          refine AM.qv (q_mulw rfl rfl) rfl ?_
          refine AM.qv (q_addw rfl rfl) rfl ?_
          refine AM.buildSliceL (xs := ([IntKind.u8.wrap ((IntKind.u8.wrap ((48 : Int) + (IntKind.u8.wrap (n12.tmod (2 : Int))))) + (IntKind.u8.wrap ((2 : Int) * (IntKind.u8.wrap (n13.tmod (2 : Int))))))]).map (AV.int .u8)) rfl rfl rfl rfl rfl rfl ?_
          refine AM.nil ?_
          obtain ⟨l14, e3, h⟩ := bnd h
          refine t_append (g := (AV.int .u8)) rfl rfl rfl rfl rfl rfl rfl rfl (.list _) e3 (fun _ => .here) rfl (fun b15 => ?_)
          refine ARun.qv (q_assign rfl) rfl ?_
          refine ARun.nil ?_
          refine ATodo.blk ?_
          refine ATodo.region ?_
          refine ARun.qv (q_addw rfl rfl) rfl ?_
          refine ARun.qv (q_move rfl) rfl ?_
          refine ARun.nil ?_
          refine ATodo.stop ?_
          obtain rfl := Option.some.inj h
          refine hJ1 _ _ rfl ?_
          exact ImpX.lessP (by exact ⟨rfl, rfl, rfl, rfl, rfl, rfl, True.intro⟩) (.cons .here .nil) (ImpX.here ⟨b15, rfl⟩)
        · replace h := iteF hc h
          refine ATodo.exit rfl ?_
          replace h := outL h hA1
          refine ATodo.seq ?_
          refine ATodo.region ?_
          refine ARun.qv (q_move rfl) rfl ?_
          refine ARun.qv (q_conv_bs rfl (CoB.arrT .here)) rfl ?_
          refine ARun.qv (q_assign rfl) rfl ?_
          refine ARun.qv (q_assign rfl) rfl ?_
          refine ARun.nil ?_
          refine ATodo.ret ?_
          obtain rfl := Option.some.inj h
          exact ImpX.here ⟨_, .cons (.tmp _ _ rfl) (.cons (.tmp _ _ rfl) .nil), rfl⟩

set_option maxHeartbeats 4000000 in
theorem L_placed_c {r : Bool} (h : L_placed = some r) : Pu Try.prog 37 [] (.bool r) := by
  unfold L_placed at h
  refine ACall.bodyN Try.func37 rfl Try.ntmps37 Try.results37 rfl rfl ?_
  refine ATodo.seq ?_
  refine ATodo.region ?_
  refine ARun.qv (q_assign rfl) rfl ?_
  refine ARun.nil ?_
  refine ATodo.seq ?_
  refine ATodo.region ?_
  refine ARun.qv (n_build rfl rfl rfl rfl rfl) rfl ?_
  obtain ⟨v1, e1, h⟩ := bnd h
  refine r_callp rfl (place_Cell_c e1) (CoL.refl _) rfl ?_
  refine ARun.qv (q_move rfl) rfl ?_
  refine ARun.qv (q_extract rfl rfl) rfl ?_
  refine ARun.qv (q_extract rfl rfl) rfl ?_
  refine ARun.qv (q_assign rfl) rfl ?_
  refine ARun.qv (q_assign rfl) rfl ?_
  refine ARun.nil ?_
  refine ATodo.seq ?_
  refine ATodo.cut (fun σ' => ∃ (c2 : Bool), L_placed_j1 c2 = some r ∧ σ' = ⟨14, [(0, .bool c2)], []⟩) ?_ ?_
  · refine ATodo.region ?_
    refine ARun.qv (q_move rfl) rfl ?_
    refine ARun.qv (q_eql rfl rfl) rfl ?_
    refine ARun.qv (q_move rfl) rfl ?_
    refine ARun.guard_dt rfl rfl rfl (fun hc => ?_) (fun hc => ?_)
    · rw [andTd hc] at h
      refine ARun.qv (q_move rfl) rfl ?_
      refine ARun.guard_yes rfl rfl rfl ?_
      refine ARun.qv (q_seq rfl rfl) rfl ?_
      refine ARun.qv (q_pick_t rfl rfl) rfl ?_
      refine ARun.qv (q_assign rfl) rfl ?_
      refine ARun.nil ?_
      refine ATodo.stop ?_
      exact ImpX.lessP (by exact ⟨rfl, True.intro⟩) (.nil) (ImpX.here ⟨decide (v1.1 = ([51] : Str)), h, rfl⟩)
    · rw [andFd hc] at h
      refine ARun.guard_no rfl rfl rfl rfl ?_
      refine ARun.qv (q_pick_f rfl rfl) rfl ?_
      refine ARun.qv (q_assign rfl) rfl ?_
      refine ARun.nil ?_
      refine ATodo.stop ?_
      exact ImpX.lessP (by exact ⟨rfl, True.intro⟩) (.nil) (ImpX.here ⟨false, h, rfl⟩)
  · rintro σ' ⟨c2, h, rfl⟩
    unfold L_placed_j1 at h
    refine ATodo.ret ?_
    obtain rfl := Option.some.inj h
    exact ImpX.here ⟨_, .cons (.tmp _ _ rfl) .nil, rfl⟩

set_option maxHeartbeats 4000000 in
theorem slices_Min_int_int_c {p0x0 : List Int} {r : Int} (h : slices_Min_int_int p0x0 = some r) : Pu Try.prog 101 [.list 1 (p0x0.map I)] (I r) := by
  unfold slices_Min_int_int at h
  refine ACall.bodyN Try.func101 rfl Try.ntmps101 Try.results101 rfl rfl ?_
  refine ATodo.seq ?_
  refine ATodo.region ?_
  refine ARun.qv (q_assign rfl) rfl ?_
  refine ARun.nil ?_
  refine ATodo.seq ?_
  refine ATodo.seq ?_
  refine ATodo.region ?_
  refine ARun.qv (q_move rfl) rfl ?_
  refine ARun.qv (t_len rfl) rfl ?_
  refine ARun.qv (q_lss rfl rfl) rfl ?_
  refine ARun.nil ?_
  refine ATodo.cond_d rfl (fun hc => ?_) (fun hc => ?_)
  · replace h := iteT hc h
    refine ATodo.region ?_
    cases h
  · replace h := iteF hc h
    refine ATodo.skip ?_
    refine ATodo.seq ?_
    refine ATodo.region ?_
    refine ARun.qv (q_move rfl) rfl ?_
    obtain ⟨v1, e1, h⟩ := bnd h
    refine ARun.qv (t_index rfl rfl rfl e1 rfl rfl) rfl ?_
    refine ARun.qv (q_load_rptr rfl rfl rfl) rfl ?_
    refine ARun.qv (q_assign rfl) rfl ?_
    refine ARun.nil ?_
    refine ATodo.seq ?_
    refine ATodo.seq ?_
    refine ATodo.region ?_
    refine ARun.qv (q_assign rfl) rfl ?_
    refine ARun.nil ?_
    refine ATodo.block ?_
    refine ATodo.loopI (fun x : Int × Int => slices_Min_int_int_b1 p0x0 x.1 x.2) (fun x σ' => σ' = ⟨25, [(0, .list 1 (p0x0.map I)), (3, I x.1), (4, I x.2)], []⟩) h ?_ ?_
    · exact ImpX.lessP (by exact ⟨rfl, rfl, rfl, True.intro⟩) (.nil) (ImpX.here rfl)
    · intro x z1 σ' J1 hmk h hJ1 hA1
      obtain ⟨n4, n5⟩ := x
      obtain rfl := hmk
      replace h : slices_Min_int_int_b1 p0x0 n4 n5 = some z1 := h
      unfold slices_Min_int_int_b1 at h
      refine ATodo.seq ?_
      refine ATodo.seq ?_
      refine ATodo.region ?_
      refine ARun.qv (q_move rfl) rfl ?_
      refine ARun.qv (q_move rfl) rfl ?_
      refine ARun.qv (t_len rfl) rfl ?_
      refine ARun.qv (q_lss rfl rfl) rfl ?_
      refine ARun.nil ?_
      refine ATodo.cond_d rfl (fun hc => ?_) (fun hc => ?_)
      · replace h := iteT hc h
        refine ATodo.skip ?_
        refine ATodo.seq ?_
        refine ATodo.block ?_
        refine ATodo.region ?_
        refine ARun.qv (q_move rfl) rfl ?_
        refine ARun.qv (q_move rfl) rfl ?_
        refine ARun.qv (q_move rfl) rfl ?_
        obtain ⟨v6, e2, h⟩ := bnd h
        refine ARun.qv (t_index rfl rfl rfl e2 rfl rfl) rfl ?_
        refine ARun.qv (q_load_rptr rfl rfl rfl) rfl ?_
        refine ARun.qv (q_min rfl rfl) rfl ?_
        refine ARun.qv (q_assign rfl) rfl ?_
        refine ARun.nil ?_
        refine ATodo.blk ?_
        refine ATodo.region ?_
        refine ARun.qv (q_move rfl) rfl ?_
        refine ARun.qv (q_addw rfl rfl) rfl ?_
        refine ARun.qv (q_assign rfl) rfl ?_
        refine ARun.nil ?_
        refine ATodo.stop ?_
        obtain rfl := Option.some.inj h
        refine hJ1 _ _ rfl ?_
        exact ImpX.lessP (by exact ⟨rfl, rfl, rfl, True.intro⟩) (.nil) (ImpX.here rfl)
      · replace h := iteF hc h
        refine ATodo.exit rfl ?_
        replace h := outL h hA1
        refine ATodo.seq ?_
        refine ATodo.region ?_
        refine ARun.qv (q_move rfl) rfl ?_
        refine ARun.qv (q_assign rfl) rfl ?_
        refine ARun.nil ?_
        refine ATodo.ret ?_
        obtain rfl := Option.some.inj h
        exact ImpX.here ⟨_, .cons (.tmp _ _ rfl) .nil, rfl⟩

set_option maxHeartbeats 4000000 in
theorem slices_Max_int_int_c {p0x0 : List Int} {r : Int} (h : slices_Max_int_int p0x0 = some r) : Pu Try.prog 102 [.list 1 (p0x0.map I)] (I r) := by
  unfold slices_Max_int_int at h
  refine ACall.bodyN Try.func102 rfl Try.ntmps102 Try.results102 rfl rfl ?_
  refine ATodo.seq ?_
  refine ATodo.region ?_
  refine ARun.qv (q_assign rfl) rfl ?_
  refine ARun.nil ?_
  refine ATodo.seq ?_
  refine ATodo.seq ?_
  refine ATodo.region ?_
  refine ARun.qv (q_move rfl) rfl ?_
  refine ARun.qv (t_len rfl) rfl ?_
  refine ARun.qv (q_lss rfl rfl) rfl ?_
  refine ARun.nil ?_
  refine ATodo.cond_d rfl (fun hc => ?_) (fun hc => ?_)
  · replace h := iteT hc h
    refine ATodo.region ?_
    cases h
  · replace h := iteF hc h
    refine ATodo.skip ?_
    refine ATodo.seq ?_
    refine ATodo.region ?_
    refine ARun.qv (q_move rfl) rfl ?_
    obtain ⟨v1, e1, h⟩ := bnd h
    refine ARun.qv (t_index rfl rfl rfl e1 rfl rfl) rfl ?_
    refine ARun.qv (q_load_rptr rfl rfl rfl) rfl ?_
    refine ARun.qv (q_assign rfl) rfl ?_
    refine ARun.nil ?_
    refine ATodo.seq ?_
    refine ATodo.seq ?_
    refine ATodo.region ?_
    refine ARun.qv (q_assign rfl) rfl ?_
    refine ARun.nil ?_
    refine ATodo.block ?_
    refine ATodo.loopI (fun x : Int × Int => slices_Max_int_int_b1 p0x0 x.1 x.2) (fun x σ' => σ' = ⟨25, [(0, .list 1 (p0x0.map I)), (3, I x.1), (4, I x.2)], []⟩) h ?_ ?_
    · exact ImpX.lessP (by exact ⟨rfl, rfl, rfl, True.intro⟩) (.nil) (ImpX.here rfl)
    · intro x z1 σ' J1 hmk h hJ1 hA1
      obtain ⟨n4, n5⟩ := x
      obtain rfl := hmk
      replace h : slices_Max_int_int_b1 p0x0 n4 n5 = some z1 := h
      unfold slices_Max_int_int_b1 at h
      refine ATodo.seq ?_
      refine ATodo.seq ?_
      refine ATodo.region ?_
      refine ARun.qv (q_move rfl) rfl ?_
      refine ARun.qv (q_move rfl) rfl ?_
      refine ARun.qv (t_len rfl) rfl ?_
      refine ARun.qv (q_lss rfl rfl) rfl ?_
      refine ARun.nil ?_
      refine ATodo.cond_d rfl (fun hc => ?_) (fun hc => ?_)
      · replace h := iteT hc h
        refine ATodo.skip ?_
        refine ATodo.seq ?_
        refine ATodo.block ?_
        refine ATodo.region ?_
        refine ARun.qv (q_move rfl) rfl ?_
        refine ARun.qv (q_move rfl) rfl ?_
        refine ARun.qv (q_move rfl) rfl ?_
        obtain ⟨v6, e2, h⟩ := bnd h
        refine ARun.qv (t_index rfl rfl rfl e2 rfl rfl) rfl ?_
        refine ARun.qv (q_load_rptr rfl rfl rfl) rfl ?_
        refine ARun.qv (q_max rfl rfl) rfl ?_
        refine ARun.qv (q_assign rfl) rfl ?_
        refine ARun.nil ?_
        refine ATodo.blk ?_
        refine ATodo.region ?_
        refine ARun.qv (q_move rfl) rfl ?_
        refine ARun.qv (q_addw rfl rfl) rfl ?_
        refine ARun.qv (q_assign rfl) rfl ?_
        refine ARun.nil ?_
        refine ATodo.stop ?_
        obtain rfl := Option.some.inj h
        refine hJ1 _ _ rfl ?_
        exact ImpX.lessP (by exact ⟨rfl, rfl, rfl, True.intro⟩) (.nil) (ImpX.here rfl)
      · replace h := iteF hc h
        refine ATodo.exit rfl ?_
        replace h := outL h hA1
        refine ATodo.seq ?_
        refine ATodo.region ?_
        refine ARun.qv (q_move rfl) rfl ?_
        refine ARun.qv (q_assign rfl) rfl ?_
        refine ARun.nil ?_
        refine ATodo.ret ?_
        obtain rfl := Option.some.inj h
        exact ImpX.here ⟨_, .cons (.tmp _ _ rfl) .nil, rfl⟩

set_option maxHeartbeats 4000000 in
theorem Q_BoxOf_c {p0x0 : List Spot} {r : Spot × Spot} (h : Q_BoxOf p0x0 = some r) : Pu Try.prog 38 [.list 2 (p0x0.map Spot.av)] (.tup [.agg [I r.1.X, I r.1.Y], .agg [I r.2.X, I r.2.Y]]) := by
  unfold Q_BoxOf at h
  refine ACall.bodyN Try.func38 rfl Try.ntmps38 Try.results38 rfl rfl ?_
  refine ATodo.seq ?_
  refine ATodo.region ?_
  refine n_alloc rfl rfl rfl rfl (fun b1 => ?_)
  refine n_alloc rfl rfl rfl rfl (fun b2 => ?_)
  refine ARun.nil ?_
  refine ATodo.seq ?_
  refine ATodo.region ?_
  refine ARun.qv (q_assign rfl) rfl ?_
  refine ARun.qv (q_assign rfl) rfl ?_
  refine ARun.nil ?_
  refine ATodo.seq ?_
  refine ATodo.seq ?_
  refine ATodo.region ?_
  refine ARun.qv (q_move rfl) rfl ?_
  refine ARun.qv (t_len rfl) rfl ?_
  refine ARun.qv (q_move rfl) rfl ?_
  refine ARun.nil ?_
  refine ATodo.block ?_
  refine ATodo.loopI (fun x : (List Int) × (List Int) × Int => Q_BoxOf_b1 p0x0 x.1 x.2.1 x.2.2) (fun x σ' => ∃ (b8 : Bk) (b10 : Bk), σ' = ⟨35, [(2, .ptr b1 0), (3, .ptr b2 0), (4, .sl 1 b8 0 x.1.length), (5, .sl 1 b10 0 x.2.1.length), (8, .list 2 (p0x0.map Spot.av)), (9, I (p0x0.length : Int)), (10, I x.2.2)], [(b1, .cells [I (0 : Int), I (0 : Int)]), (b2, .cells [I (0 : Int), I (0 : Int)]), (b8, .arr 1 (x.1.map I)), (b10, .arr 1 (x.2.1.map I))]⟩) h ?_ ?_
  · refine ImpX.arr (s := 4) 1 rfl (fun b13 => ?_)
    refine ImpX.arr (s := 5) 1 rfl (fun b14 => ?_)
    exact ImpX.lessP (by exact ⟨rfl, rfl, rfl, rfl, rfl, rfl, rfl, True.intro⟩) (.cons (.next (.next (.next .here))) (.cons (.next (.next .here)) (.cons (.next .here) (.cons .here .nil)))) (ImpX.here ⟨b13, b14, rfl⟩)
  · intro x z1 σ' J1 hmk h hJ1 hA1
    obtain ⟨l9, l11, n12⟩ := x
    obtain ⟨b8, b10, rfl⟩ := hmk
    replace h : Q_BoxOf_b1 p0x0 l9 l11 n12 = some z1 := h
    unfold Q_BoxOf_b1 at h
    refine ATodo.seq ?_
    refine ATodo.region ?_
    refine ARun.qv (q_lss rfl rfl) rfl ?_
    refine ARun.nil ?_
    refine ATodo.seq ?_
    refine ATodo.cond_d rfl (fun hc => ?_) (fun hc => ?_)
    · replace h := iteT hc h
      refine ATodo.skip ?_
      refine ATodo.seq ?_
      refine ATodo.block ?_
      refine ATodo.seq ?_
      refine ATodo.region ?_
      obtain ⟨v15, e1, h⟩ := bnd h
      refine ARun.qv (t_index rfl rfl rfl e1 rfl rfl) rfl ?_
      refine ARun.qv (q_load_rptr_agg rfl rfl rfl) rfl ?_
      refine n_alloc rfl rfl rfl rfl (fun b16 => ?_)
      refine n_store_ptr rfl rfl rfl rfl .here rfl rfl ?_
      refine ARun.nil ?_
      obtain ⟨l17, e2, h⟩ := bnd h
      refine ATodo.regionT (id := 5) (A := [0, 0, 2, 6, 15, 0, 0, 64, 192, 511, 1023, 2047]) (H0 := [(b8, .arr 1 (l9.map I))]) (HH := fun β => [((β 4), .arr 1 (l17.map I)), (b16, .cells [I v15.X, I v15.Y]), (b1, .cells [I (0 : Int), I (0 : Int)]), (b2, .cells [I (0 : Int), I (0 : Int)]), (b10, .arr 1 (l11.map I))]) 9 mixed rfl (by kernel_rfl) (by kernel_rfl) [⟨none, some 4, [], fun _ => (b8, .arr 1 (l9.map I)), none⟩, ⟨some 4, none, [], fun b => (b, .arr 1 (l17.map I)), none⟩] [4] rfl (by kernel_rfl) rfl (.cons (.next (.next (.next .here))) .nil) (fun _ => rfl) ?_
      refine AT.am 4 rfl rfl ?_
      refine AM.qv (q_move rfl) rfl ?_
      refine AM.qv (n_field_ptr rfl rfl) rfl ?_
      refine AM.qv (q_load_ptr rfl rfl .here rfl) rfl ?_
      refine AM.buildSliceL (xs := ([v15.X] : List Int).map I) rfl rfl rfl rfl rfl rfl ?_
      refine AM.nil ?_
      refine AT.runD (V := fun b => .sl 1 b 0 l17.length) (Ti := [(b8, .arr 1 (l9.map I))]) (Pi := fun b => [(b, .arr 1 (l17.map I))]) (fun _ => rfl) (fun _ => rfl) (fun _ _ => rfl) rfl (fun _ => rfl) rfl rfl rfl ?_ ?_
      · refine t_append (g := I) rfl rfl rfl rfl rfl rfl rfl rfl (.list _) e2 (fun _ => .here) rfl (fun b18 => ?_)
        exact ARun.nil ⟨b18, _, rfl, rfl⟩
      refine AT.am 4 rfl rfl ?_
      refine AM.qv (q_move rfl) rfl ?_
      refine AM.qv (n_field_ptr rfl rfl) rfl ?_
      refine AM.qv (q_load_ptr rfl rfl .here rfl) rfl ?_
      refine AM.buildSliceL (xs := ([v15.Y] : List Int).map I) rfl rfl rfl rfl rfl rfl ?_
      refine AM.nil ?_
      refine AT.nilN (fun _ => rfl) (fun β => ?_)
      generalize β 4 = b18
      clear β
      obtain ⟨l19, e3, h⟩ := bnd h
      refine t_append (g := I) rfl rfl rfl rfl rfl rfl rfl rfl (.list _) e3 (fun _ => (.next (.next (.next (.next .here))))) rfl (fun b20 => ?_)
      refine ARun.qv (q_assign rfl) rfl ?_
      refine ARun.qv (q_assign rfl) rfl ?_
      refine ARun.nil ?_
      refine ATodo.blk ?_
      refine ATodo.region ?_
      refine ARun.qv (q_addw rfl rfl) rfl ?_
      refine ARun.qv (q_move rfl) rfl ?_
      refine ARun.nil ?_
      refine ATodo.stop ?_
      obtain rfl := Option.some.inj h
      refine hJ1 _ _ rfl ?_
      exact ImpX.lessP (by exact ⟨rfl, rfl, rfl, rfl, rfl, rfl, rfl, True.intro⟩) (.cons (.next (.next .here)) (.cons (.next (.next .here)) (.cons .here (.cons (.next .here) .nil)))) (ImpX.here ⟨b18, b20, rfl⟩)
    · replace h := iteF hc h
      refine ATodo.exit rfl ?_
      replace h := outL h hA1
      unfold Q_BoxOf_k1 at h
      refine ATodo.seq ?_
      refine ATodo.region ?_
      refine ARun.qv (q_move rfl) rfl ?_
      obtain ⟨v21, e4, h⟩ := bnd h
      refine r_callpB rfl (slices_Min_int_int_c e4) (.cons (CoB.arrT (.next (.next .here))) .nil) rfl rfl ?_
      refine ARun.qv (q_move rfl) rfl ?_
      obtain ⟨v22, e5, h⟩ := bnd h
      refine r_callpB rfl (slices_Min_int_int_c e5) (.cons (CoB.arrT (.next (.next (.next .here)))) .nil) rfl rfl ?_
      refine ARun.qv (n_build rfl rfl rfl rfl rfl) rfl ?_
      refine ARun.qv (q_move rfl) rfl ?_
      obtain ⟨v23, e6, h⟩ := bnd h
      refine r_callpB rfl (slices_Max_int_int_c e6) (.cons (CoB.arrT (.next (.next .here))) .nil) rfl rfl ?_
      refine ARun.qv (q_move rfl) rfl ?_
      obtain ⟨v24, e7, h⟩ := bnd h
      refine r_callpB rfl (slices_Max_int_int_c e7) (.cons (CoB.arrT (.next (.next (.next .here)))) .nil) rfl rfl ?_
      refine ARun.qv (n_build rfl rfl rfl rfl rfl) rfl ?_
      refine n_store_ptr rfl rfl rfl rfl .here rfl rfl ?_
      refine n_store_ptr rfl rfl rfl rfl (.next .here) rfl rfl ?_
      refine ARun.nil ?_
      refine ATodo.ret ?_
      obtain rfl := Option.some.inj h
      exact ImpX.here ⟨_, .cons (.all _ _ _ _ _ _ rfl .here TUnder.h TInfo.h rfl rfl) (.cons (.all _ _ _ _ _ _ rfl (.next .here) TUnder.h TInfo.h rfl rfl) .nil), rfl⟩

set_option maxHeartbeats 4000000 in
theorem Q_WhereOf_c {p0x0 : List Spot} {p1x0 : Spot} {r : Int} (h : Q_WhereOf p0x0 p1x0 = some r) : Pu Try.prog 39 [.list 2 (p0x0.map Spot.av), .agg [I p1x0.X, I p1x0.Y]] (I r) := by
  unfold Q_WhereOf at h
  refine ACall.bodyN Try.func39 rfl Try.ntmps39 Try.results39 rfl rfl ?_
  refine ATodo.seq ?_
  refine ATodo.region ?_
  refine n_box rfl rfl rfl rfl (fun b1 => ?_)
  refine ARun.qv (q_assign rfl) rfl ?_
  refine ARun.nil ?_
  refine ATodo.seq ?_
  refine ATodo.region ?_
  refine ARun.qv (q_assign rfl) rfl ?_
  refine ARun.nil ?_
  refine ATodo.seq ?_
  refine ATodo.seq ?_
  refine ATodo.region ?_
  refine ARun.qv (q_move rfl) rfl ?_
  refine ARun.qv (t_len rfl) rfl ?_
  refine ARun.qv (q_move rfl) rfl ?_
  refine ARun.nil ?_
  refine ATodo.block ?_
  refine ATodo.loopI (fun x : Int × Int => Q_WhereOf_b1 p0x0 p1x0 x.1 x.2) (fun x σ' => σ' = ⟨71, [(0, .list 2 (p0x0.map Spot.av)), (3, .ptr b1 0), (5, I x.1), (10, I (p0x0.length : Int)), (11, I x.2)], [(b1, .cells [I p1x0.X, I p1x0.Y])]⟩) h ?_ ?_
  · exact ImpX.lessP (by exact ⟨rfl, rfl, rfl, rfl, rfl, True.intro⟩) (.cons .here .nil) (ImpX.here rfl)
  · intro x z1 σ' J1 hmk h hJ1 hA1
    obtain ⟨n4, n5⟩ := x
    obtain rfl := hmk
    replace h : Q_WhereOf_b1 p0x0 p1x0 n4 n5 = some z1 := h
    unfold Q_WhereOf_b1 at h
    refine ATodo.seq ?_
    refine ATodo.region ?_
    refine ARun.qv (q_lss rfl rfl) rfl ?_
    refine ARun.nil ?_
    refine ATodo.seq ?_
    refine ATodo.cond_d rfl (fun hc => ?_) (fun hc => ?_)
    · replace h := iteT hc h
      refine ATodo.skip ?_
      refine ATodo.seq ?_
      refine ATodo.block ?_
      refine ATodo.seq ?_
      refine ATodo.region ?_
      refine ARun.qv (q_move rfl) rfl ?_
      refine ARun.qv (q_assign rfl) rfl ?_
      refine ARun.nil ?_
      refine ATodo.seq ?_
      refine ATodo.region ?_
      refine ARun.qv (q_move rfl) rfl ?_
      refine ARun.qv (q_move rfl) rfl ?_
      obtain ⟨v6, e1, h⟩ := bnd h
      refine r_callp rfl (Q_edge_c e1) (CoL.refl _) rfl ?_
      refine ARun.qv (q_move rfl) rfl ?_
      refine ARun.qv (q_extract rfl rfl) rfl ?_
      refine ARun.qv (q_extract rfl rfl) rfl ?_
      refine n_alloc rfl rfl rfl rfl (fun b7 => ?_)
      refine n_alloc rfl rfl rfl rfl (fun b8 => ?_)
      refine n_store_ptr rfl rfl rfl rfl (.next .here) rfl rfl ?_
      refine n_store_ptr rfl rfl rfl rfl .here rfl rfl ?_
      refine ARun.nil ?_
      refine ATodo.seq ?_
      refine ATodo.seq ?_
      refine ATodo.region ?_
      refine ARun.qv (q_load_ptr_all rfl rfl (.next .here) rfl) rfl ?_
      refine ARun.qv (q_load_ptr_all rfl rfl .here rfl) rfl ?_
      refine ARun.qv (q_load_ptr_all rfl rfl (.next (.next .here)) rfl) rfl ?_
      refine r_callp rfl (Q_onWay_c rfl) (CoL.refl _) rfl ?_
      refine ARun.nil ?_
      refine ATodo.cond rfl (fun hc => ?_) (fun hc => ?_)
      · replace h := iteT hc h
        refine ATodo.seq ?_
        refine ATodo.region ?_
        refine ARun.qv (q_assign rfl) rfl ?_
        refine ARun.nil ?_
        refine ATodo.ret ?_
        replace h := outL h hA1
        obtain rfl := Option.some.inj h
        exact ImpX.here ⟨_, .cons (.tmp _ _ rfl) .nil, rfl⟩
      · replace h := iteFb hc h
        refine ATodo.skip ?_
        refine ATodo.block ?_
        refine ATodo.seq ?_
        refine ATodo.cut (fun σ' => ∃ (c9 : Bool), Q_WhereOf_j1 p1x0 n4 n5 v6 c9 = some z1 ∧ σ' = ⟨71, [(0, .list 2 (p0x0.map Spot.av)), (3, .ptr b1 0), (5, I n4), (7, .ptr b7 0), (8, .ptr b8 0), (10, I (p0x0.length : Int)), (11, I n5), (24, .bool c9)], [(b1, .cells [I p1x0.X, I p1x0.Y]), (b7, .cells [I v6.1.X, I v6.1.Y]), (b8, .cells [I v6.2.X, I v6.2.Y])]⟩) ?_ ?_
        · refine ATodo.region ?_
          refine ARun.qv (n_field_ptr rfl rfl) rfl ?_
          refine ARun.qv (q_load_ptr rfl rfl (.next .here) rfl) rfl ?_
          refine ARun.qv (n_field_ptr rfl rfl) rfl ?_
          refine ARun.qv (q_load_ptr rfl rfl (.next (.next .here)) rfl) rfl ?_
          refine ARun.qv (q_leq rfl rfl) rfl ?_
          refine ARun.qv (q_move rfl) rfl ?_
          refine ARun.guard_dt rfl rfl rfl (fun hc => ?_) (fun hc => ?_)
          · rw [andTd hc] at h
            refine ARun.qv (n_field_ptr rfl rfl) rfl ?_
            refine ARun.guard_yes rfl rfl rfl ?_
            refine ARun.qv (q_load_ptr rfl rfl .here rfl) rfl ?_
            refine ARun.guard_yes rfl rfl rfl ?_
            refine ARun.qv (n_field_ptr rfl rfl) rfl ?_
            refine ARun.guard_yes rfl rfl rfl ?_
            refine ARun.qv (q_load_ptr rfl rfl (.next (.next .here)) rfl) rfl ?_
            refine ARun.guard_yes rfl rfl rfl ?_
            refine ARun.qv (q_gtr rfl rfl) rfl ?_
            refine ARun.qv (q_pick_t rfl rfl) rfl ?_
            refine ARun.qv (q_move rfl) rfl ?_
            refine ARun.guard_dt rfl rfl rfl (fun hc => ?_) (fun hc => ?_)
            · rw [andTd hc] at h
              refine ARun.qv (q_load_ptr_all rfl rfl (.next .here) rfl) rfl ?_
              refine ARun.guard_yes rfl rfl rfl ?_
              refine ARun.qv (q_load_ptr_all rfl rfl .here rfl) rfl ?_
              refine ARun.guard_yes rfl rfl rfl ?_
              refine ARun.qv (q_load_ptr_all rfl rfl (.next (.next .here)) rfl) rfl ?_
              refine ARun.guard_yes rfl rfl rfl ?_
              refine r_callp rfl (Q_side_c rfl) (CoL.refl _) rfl ?_
              refine ARun.guard_yes rfl rfl rfl ?_
              refine ARun.qv (q_gtr rfl rfl) rfl ?_
              refine ARun.qv (q_pick_t rfl rfl) rfl ?_
              refine ARun.qv (q_assign rfl) rfl ?_
              refine ARun.nil ?_
              refine ATodo.stop ?_
              exact ImpX.lessP (by exact ⟨rfl, rfl, rfl, rfl, rfl, rfl, rfl, rfl, True.intro⟩) (.cons (.next (.next .here)) (.cons (.next .here) (.cons .here .nil))) (ImpX.here ⟨decide ((0 : Int) < (Q_side v6.1 v6.2 p1x0)), h, rfl⟩)
            · rw [andFd hc] at h
              refine ARun.guard_no rfl rfl rfl rfl ?_
              refine ARun.guard_no rfl rfl rfl rfl ?_
              refine ARun.guard_no rfl rfl rfl rfl ?_
              refine ARun.guard_no rfl rfl rfl rfl ?_
              refine ARun.qv (q_pick_f rfl rfl) rfl ?_
              refine ARun.qv (q_assign rfl) rfl ?_
              refine ARun.nil ?_
              refine ATodo.stop ?_
              exact ImpX.lessP (by exact ⟨rfl, rfl, rfl, rfl, rfl, rfl, rfl, rfl, True.intro⟩) (.cons (.next (.next .here)) (.cons (.next .here) (.cons .here .nil))) (ImpX.here ⟨false, h, rfl⟩)
          · rw [andFd hc] at h
            refine ARun.guard_no rfl rfl rfl rfl ?_
            refine ARun.guard_no rfl rfl rfl rfl ?_
            refine ARun.guard_no rfl rfl rfl rfl ?_
            refine ARun.guard_no rfl rfl rfl rfl ?_
            refine ARun.qv (q_pick_f rfl rfl) rfl ?_
            refine ARun.qv (q_move rfl) rfl ?_
            refine ARun.guard_no rfl rfl rfl rfl ?_
            refine ARun.guard_no rfl rfl rfl rfl ?_
            refine ARun.guard_no rfl rfl rfl rfl ?_
            refine ARun.guard_no rfl rfl rfl rfl ?_
            refine ARun.guard_no rfl rfl rfl rfl ?_
            refine ARun.qv (q_pick_f rfl rfl) rfl ?_
            refine ARun.qv (q_assign rfl) rfl ?_
            refine ARun.nil ?_
            refine ATodo.stop ?_
            exact ImpX.lessP (by exact ⟨rfl, rfl, rfl, rfl, rfl, rfl, rfl, rfl, True.intro⟩) (.cons (.next (.next .here)) (.cons (.next .here) (.cons .here .nil))) (ImpX.here ⟨false, h, rfl⟩)
        · rintro σ' ⟨c9, h, rfl⟩
          unfold Q_WhereOf_j1 at h
          refine ATodo.cut (fun σ' => ∃ (n10 : Int), Q_WhereOf_j2 n5 n10 = some z1 ∧ σ' = ⟨71, [(0, .list 2 (p0x0.map Spot.av)), (3, .ptr b1 0), (5, I n10), (10, I (p0x0.length : Int)), (11, I n5)], [(b1, .cells [I p1x0.X, I p1x0.Y])]⟩) ?_ ?_
          · refine ATodo.cond rfl (fun hc => ?_) (fun hc => ?_)
            · replace h := iteT hc h
              refine ATodo.region ?_
              refine ARun.qv (q_move rfl) rfl ?_
              refine ARun.qv (q_addw rfl rfl) rfl ?_
              refine ARun.qv (q_assign rfl) rfl ?_
              refine ARun.nil ?_
              refine ATodo.stop ?_
              exact ImpX.lessP (by exact ⟨rfl, rfl, rfl, rfl, rfl, True.intro⟩) (.cons .here .nil) (ImpX.here ⟨w64 (n4 + (1 : Int)), h, rfl⟩)
            · replace h := iteFb hc h
              refine ATodo.seq ?_
              refine ATodo.cut (fun σ' => ∃ (c11 : Bool), Q_WhereOf_j3 n4 n5 c11 = some z1 ∧ σ' = ⟨71, [(0, .list 2 (p0x0.map Spot.av)), (3, .ptr b1 0), (5, I n4), (10, I (p0x0.length : Int)), (11, I n5), (46, .bool c11)], [(b1, .cells [I p1x0.X, I p1x0.Y])]⟩) ?_ ?_
              · refine ATodo.region ?_
                refine ARun.qv (n_field_ptr rfl rfl) rfl ?_
                refine ARun.qv (q_load_ptr rfl rfl (.next .here) rfl) rfl ?_
                refine ARun.qv (n_field_ptr rfl rfl) rfl ?_
                refine ARun.qv (q_load_ptr rfl rfl .here rfl) rfl ?_
                refine ARun.qv (q_gtr rfl rfl) rfl ?_
                refine ARun.qv (q_move rfl) rfl ?_
                refine ARun.guard_dt rfl rfl rfl (fun hc => ?_) (fun hc => ?_)
                · rw [andTd hc] at h
                  refine ARun.qv (n_field_ptr rfl rfl) rfl ?_
                  refine ARun.guard_yes rfl rfl rfl ?_
                  refine ARun.qv (q_load_ptr rfl rfl (.next (.next .here)) rfl) rfl ?_
                  refine ARun.guard_yes rfl rfl rfl ?_
                  refine ARun.qv (n_field_ptr rfl rfl) rfl ?_
                  refine ARun.guard_yes rfl rfl rfl ?_
                  refine ARun.qv (q_load_ptr rfl rfl .here rfl) rfl ?_
                  refine ARun.guard_yes rfl rfl rfl ?_
                  refine ARun.qv (q_leq rfl rfl) rfl ?_
                  refine ARun.qv (q_pick_t rfl rfl) rfl ?_
                  refine ARun.qv (q_move rfl) rfl ?_
                  refine ARun.guard_dt rfl rfl rfl (fun hc => ?_) (fun hc => ?_)
                  · rw [andTd hc] at h
                    refine ARun.qv (q_load_ptr_all rfl rfl (.next .here) rfl) rfl ?_
                    refine ARun.guard_yes rfl rfl rfl ?_
                    refine ARun.qv (q_load_ptr_all rfl rfl (.next (.next .here)) rfl) rfl ?_
                    refine ARun.guard_yes rfl rfl rfl ?_
                    refine ARun.qv (q_load_ptr_all rfl rfl .here rfl) rfl ?_
                    refine ARun.guard_yes rfl rfl rfl ?_
                    refine r_callp rfl (Q_side_c rfl) (CoL.refl _) rfl ?_
                    refine ARun.guard_yes rfl rfl rfl ?_
                    refine ARun.qv (q_lss rfl rfl) rfl ?_
                    refine ARun.qv (q_pick_t rfl rfl) rfl ?_
                    refine ARun.qv (q_assign rfl) rfl ?_
                    refine ARun.nil ?_
                    refine ATodo.stop ?_
                    exact ImpX.lessP (by exact ⟨rfl, rfl, rfl, rfl, rfl, rfl, True.intro⟩) (.cons .here .nil) (ImpX.here ⟨decide ((Q_side v6.1 v6.2 p1x0) < (0 : Int)), h, rfl⟩)
                  · rw [andFd hc] at h
                    refine ARun.guard_no rfl rfl rfl rfl ?_
                    refine ARun.guard_no rfl rfl rfl rfl ?_
                    refine ARun.guard_no rfl rfl rfl rfl ?_
                    refine ARun.guard_no rfl rfl rfl rfl ?_
                    refine ARun.qv (q_pick_f rfl rfl) rfl ?_
                    refine ARun.qv (q_assign rfl) rfl ?_
                    refine ARun.nil ?_
                    refine ATodo.stop ?_
                    exact ImpX.lessP (by exact ⟨rfl, rfl, rfl, rfl, rfl, rfl, True.intro⟩) (.cons .here .nil) (ImpX.here ⟨false, h, rfl⟩)
                · rw [andFd hc] at h
                  refine ARun.guard_no rfl rfl rfl rfl ?_
                  refine ARun.guard_no rfl rfl rfl rfl ?_
                  refine ARun.guard_no rfl rfl rfl rfl ?_
                  refine ARun.guard_no rfl rfl rfl rfl ?_
                  refine ARun.qv (q_pick_f rfl rfl) rfl ?_
                  refine ARun.qv (q_move rfl) rfl ?_
                  refine ARun.guard_no rfl rfl rfl rfl ?_
                  refine ARun.guard_no rfl rfl rfl rfl ?_
                  refine ARun.guard_no rfl rfl rfl rfl ?_
                  refine ARun.guard_no rfl rfl rfl rfl ?_
                  refine ARun.guard_no rfl rfl rfl rfl ?_
                  refine ARun.qv (q_pick_f rfl rfl) rfl ?_
                  refine ARun.qv (q_assign rfl) rfl ?_
                  refine ARun.nil ?_
                  refine ATodo.stop ?_
                  exact ImpX.lessP (by exact ⟨rfl, rfl, rfl, rfl, rfl, rfl, True.intro⟩) (.cons .here .nil) (ImpX.here ⟨false, h, rfl⟩)
              · rintro σ' ⟨c11, h, rfl⟩
                unfold Q_WhereOf_j3 at h
                refine ATodo.cut (fun σ' => ∃ (n12 : Int), Q_WhereOf_j4 n5 n12 = some z1 ∧ σ' = ⟨71, [(0, .list 2 (p0x0.map Spot.av)), (3, .ptr b1 0), (5, I n12), (10, I (p0x0.length : Int)), (11, I n5)], [(b1, .cells [I p1x0.X, I p1x0.Y])]⟩) ?_ ?_
                · refine ATodo.cond rfl (fun hc => ?_) (fun hc => ?_)
                  · replace h := iteT hc h
                    refine ATodo.region ?_
                    refine ARun.qv (q_move rfl) rfl ?_
                    refine ARun.qv (q_subw rfl rfl) rfl ?_
                    refine ARun.qv (q_assign rfl) rfl ?_
                    refine ARun.nil ?_
                    refine ATodo.stop ?_
                    exact ImpX.lessP (by exact ⟨rfl, rfl, rfl, rfl, rfl, True.intro⟩) (.cons .here .nil) (ImpX.here ⟨w64 (n4 - (1 : Int)), h, rfl⟩)
                  · replace h := iteFb hc h
                    refine ATodo.skip ?_
                    refine ATodo.stop ?_
                    exact ImpX.lessP (by exact ⟨rfl, rfl, rfl, rfl, rfl, True.intro⟩) (.cons .here .nil) (ImpX.here ⟨n4, h, rfl⟩)
                · rintro σ' ⟨n12, h, rfl⟩
                  unfold Q_WhereOf_j4 at h
                  refine ATodo.stop ?_
                  exact ImpX.lessP (by exact ⟨rfl, rfl, rfl, rfl, rfl, True.intro⟩) (.cons .here .nil) (ImpX.here ⟨n12, h, rfl⟩)
          · rintro σ' ⟨n10, h, rfl⟩
            unfold Q_WhereOf_j2 at h
            refine ATodo.blk ?_
            refine ATodo.blk ?_
            refine ATodo.region ?_
            refine ARun.qv (q_addw rfl rfl) rfl ?_
            refine ARun.qv (q_move rfl) rfl ?_
            refine ARun.nil ?_
            refine ATodo.stop ?_
            obtain rfl := Option.some.inj h
            refine hJ1 _ _ rfl ?_
            exact ImpX.lessP (by exact ⟨rfl, rfl, rfl, rfl, rfl, True.intro⟩) (.cons .here .nil) (ImpX.here rfl)
    · replace h := iteF hc h
      refine ATodo.exit rfl ?_
      replace h := outL h hA1
      unfold Q_WhereOf_k5 at h
      refine ATodo.seq ?_
      refine ATodo.seq ?_
      refine ATodo.region ?_
      refine ARun.qv (q_move rfl) rfl ?_
      refine ARun.qv (q_neq rfl rfl) rfl ?_
      refine ARun.nil ?_
      refine ATodo.cond_d rfl (fun hc => ?_) (fun hc => ?_)
      · replace h := iteT hc h
        refine ATodo.seq ?_
        refine ATodo.region ?_
        refine ARun.qv (q_assign rfl) rfl ?_
        refine ARun.nil ?_
        refine ATodo.ret ?_
        obtain rfl := Option.some.inj h
        exact ImpX.here ⟨_, .cons (.tmp _ _ rfl) .nil, rfl⟩
      · replace h := iteF hc h
        refine ATodo.skip ?_
        refine ATodo.seq ?_
        refine ATodo.region ?_
        refine ARun.qv (q_assign rfl) rfl ?_
        refine ARun.nil ?_
        refine ATodo.ret ?_
        obtain rfl := Option.some.inj h
        exact ImpX.here ⟨_, .cons (.tmp _ _ rfl) .nil, rfl⟩

set_option maxHeartbeats 4000000 in
theorem Q_Area2Of_c {p0x0 : FenceS} {r : Int} (h : Q_Area2Of p0x0 = some r) : Pu Try.prog 40 [.agg [.str p0x0.Key, .list 2 (p0x0.Corners.map Spot.av)]] (I r) := by
  unfold Q_Area2Of at h
  refine ACall.bodyN Try.func40 rfl Try.ntmps40 Try.results40 rfl rfl ?_
  refine ATodo.seq ?_
  refine ATodo.region ?_
  refine n_box rfl rfl rfl rfl (fun b1 => ?_)
  refine ARun.qv (q_assign rfl) rfl ?_
  refine ARun.nil ?_
  refine ATodo.seq ?_
  refine ATodo.region ?_
  refine ARun.qv (q_assign rfl) rfl ?_
  refine ARun.nil ?_
  refine ATodo.seq ?_
  refine ATodo.seq ?_
  refine ATodo.region ?_
  refine ARun.qv (q_assign rfl) rfl ?_
  refine ARun.nil ?_
  refine ATodo.block ?_
  refine ATodo.loopI (fun x : Int × Int => Q_Area2Of_b1 p0x0 x.1 x.2) (fun x σ' => σ' = ⟨41, [(1, .ptr b1 0), (3, I x.1), (4, I x.2)], [(b1, .cells [.str p0x0.Key, .list 2 (p0x0.Corners.map Spot.av)])]⟩) h ?_ ?_
  · exact ImpX.lessP (by exact ⟨rfl, rfl, rfl, True.intro⟩) (.cons .here .nil) (ImpX.here rfl)
  · intro x z1 σ' J1 hmk h hJ1 hA1
    obtain ⟨n4, n5⟩ := x
    obtain rfl := hmk
    replace h : Q_Area2Of_b1 p0x0 n4 n5 = some z1 := h
    unfold Q_Area2Of_b1 at h
    refine ATodo.seq ?_
    refine ATodo.seq ?_
    refine ATodo.region ?_
    refine ARun.qv (q_move rfl) rfl ?_
    refine ARun.qv (q_addw rfl rfl) rfl ?_
    refine ARun.qv (n_field_ptr rfl rfl) rfl ?_
    refine ARun.qv (q_load_ptr rfl rfl .here rfl) rfl ?_
    refine ARun.qv (t_len rfl) rfl ?_
    refine ARun.qv (q_lss rfl rfl) rfl ?_
    refine ARun.nil ?_
    refine ATodo.cond_d rfl (fun hc => ?_) (fun hc => ?_)
    · replace h := iteT hc h
      refine ATodo.skip ?_
      refine ATodo.seq ?_
      refine ATodo.block ?_
      refine ATodo.regionM (id := 5) (A := [0, 0, 2, 0, 14, 30, 0, 64, 192, 448, 1022, 0, 2048, 0, 8192, 30720, 63488, 0, 131072, 393216, 917504, 2097150, 4194302, 8388607, 16777215]) 25 mixed rfl (by kernel_rfl) (by kernel_rfl) ?_
      refine AM.qv (q_move rfl) rfl ?_
      refine AM.qv (n_field_ptr rfl rfl) rfl ?_
      refine AM.qv (q_load_ptr rfl rfl .here rfl) rfl ?_
      refine AM.qv (q_move rfl) rfl ?_
      obtain ⟨v6, e1, h⟩ := bnd h
      refine AM.qv (t_index rfl rfl rfl e1 rfl rfl) rfl ?_
      refine AM.qv (q_load_rptr_agg rfl rfl rfl) rfl ?_
      refine AM.qv (n_field_ptr rfl rfl) rfl ?_
      refine AM.qv (q_load_ptr rfl rfl .here rfl) rfl ?_
      obtain ⟨v7, e2, h⟩ := bnd h
      refine AM.qv (t_index rfl rfl rfl e2 rfl rfl) rfl ?_
      refine AM.qv (q_load_rptr_agg rfl rfl rfl) rfl ?_
      refine AM.callp rfl (Q_minus_c rfl) (CoL.refl _) rfl ?_
      refine AM.qv (n_field_ptr rfl rfl) rfl ?_
      refine AM.qv (q_load_ptr rfl rfl .here rfl) rfl ?_
      refine AM.qv (q_move rfl) rfl ?_
      refine AM.qv (q_addw rfl rfl) rfl ?_
      obtain ⟨v8, e3, h⟩ := bnd h
      refine AM.qv (t_index rfl rfl rfl e3 rfl rfl) rfl ?_
      refine AM.qv (q_load_rptr_agg rfl rfl rfl) rfl ?_
      refine AM.qv (n_field_ptr rfl rfl) rfl ?_
      refine AM.qv (q_load_ptr rfl rfl .here rfl) rfl ?_
      obtain ⟨v9, e4, h⟩ := bnd h
      refine AM.qv (t_index rfl rfl rfl e4 rfl rfl) rfl ?_
      refine AM.qv (q_load_rptr_agg rfl rfl rfl) rfl ?_
      refine AM.callp rfl (Q_minus_c rfl) (CoL.refl _) rfl ?_
      refine AM.callp rfl (Q_cross_c rfl) (CoL.refl _) rfl ?_
      refine AM.qv (q_addw rfl rfl) rfl ?_
      refine AM.qv (q_assign rfl) rfl ?_
      refine AM.nil ?_
      refine ARun.nil ?_
      refine ATodo.blk ?_
      refine ATodo.region ?_
      refine ARun.qv (q_move rfl) rfl ?_
      refine ARun.qv (q_addw rfl rfl) rfl ?_
      refine ARun.qv (q_assign rfl) rfl ?_
      refine ARun.nil ?_
      refine ATodo.stop ?_
      obtain rfl := Option.some.inj h
      refine hJ1 _ _ rfl ?_
      exact ImpX.lessP (by exact ⟨rfl, rfl, rfl, True.intro⟩) (.cons .here .nil) (ImpX.here rfl)
    · replace h := iteF hc h
      refine ATodo.exit rfl ?_
      replace h := outL h hA1
      refine ATodo.seq ?_
      refine ATodo.region ?_
      refine ARun.qv (q_move rfl) rfl ?_
      refine ARun.qv (q_move rfl) rfl ?_
      refine ARun.qv (t_negw rfl) rfl ?_
      refine ARun.qv (q_max rfl rfl) rfl ?_
      refine ARun.qv (q_assign rfl) rfl ?_
      refine ARun.nil ?_
      refine ATodo.ret ?_
      obtain rfl := Option.some.inj h
      exact ImpX.here ⟨_, .cons (.tmp _ _ rfl) .nil, rfl⟩

set_option maxHeartbeats 4000000 in
theorem L_FencesTell_c {p0x0 : List Int} {r : Bool} (h : L_FencesTell p0x0 = some r) : Pu Try.prog 5 [.list 1 (p0x0.map I)] (.bool r) := by
  unfold L_FencesTell at h
  refine ACall.bodyN Try.func5 rfl Try.ntmps5 Try.results5 rfl rfl ?_
  refine ATodo.seq ?_
  refine ATodo.region ?_
  refine ARun.qv (q_assign rfl) rfl ?_
  refine ARun.nil ?_
  refine ATodo.seq ?_
  refine ATodo.region ?_
  refine ARun.qv (q_move rfl) rfl ?_
  refine ARun.qv (n_build rfl rfl rfl rfl rfl) rfl ?_
  refine n_box rfl rfl rfl rfl (fun b1 => ?_)
  refine ARun.qv (q_assign rfl) rfl ?_
  refine ARun.nil ?_
  refine ATodo.seq ?_
  refine ATodo.region ?_
  refine ARun.qv (q_move rfl) rfl ?_
  obtain ⟨v2, e1, h⟩ := bnd h
  refine t_call0 rfl (Stream_Fence_c e1) (CoL.refl _) (.cons .here .nil) rfl rfl ?_
  refine ARun.qv (q_move rfl) rfl ?_
  obtain ⟨v3, e2, h⟩ := bnd h
  refine t_call0 rfl (Stream_Spot_c e2) (CoL.refl _) (.cons .here .nil) rfl rfl ?_
  refine n_alloc rfl rfl rfl rfl (fun b4 => ?_)
  refine n_alloc rfl rfl rfl rfl (fun b5 => ?_)
  refine n_store_ptr rfl rfl rfl rfl (.next .here) rfl rfl ?_
  refine n_store_ptr rfl rfl rfl rfl .here rfl rfl ?_
  refine ARun.nil ?_
  refine ATodo.seq ?_
  refine ATodo.region ?_
  refine ARun.qv (q_load_ptr_all rfl rfl (.next .here) rfl) rfl ?_
  obtain ⟨v6, e3, h⟩ := bnd h
  refine r_callp rfl (place_Area2x_c e3) (CoL.refl _) rfl ?_
  refine ARun.qv (q_move rfl) rfl ?_
  refine ARun.qv (q_extract rfl rfl) rfl ?_
  refine ARun.qv (q_extract rfl rfl) rfl ?_
  refine ARun.qv (q_assign rfl) rfl ?_
  refine ARun.qv (q_assign rfl) rfl ?_
  refine ARun.nil ?_
  refine ATodo.seq ?_
  refine ATodo.region ?_
  refine ARun.qv (q_load_ptr_all rfl rfl (.next .here) rfl) rfl ?_
  refine ARun.qv (q_load_ptr_all rfl rfl .here rfl) rfl ?_
  obtain ⟨v7, e4, h⟩ := bnd h
  refine r_callp rfl (place_Where_c e4) (CoL.refl _) rfl ?_
  refine ARun.qv (q_move rfl) rfl ?_
  refine ARun.qv (q_extract rfl rfl) rfl ?_
  refine ARun.qv (q_extract rfl rfl) rfl ?_
  refine ARun.qv (q_assign rfl) rfl ?_
  refine ARun.qv (q_assign rfl) rfl ?_
  refine ARun.nil ?_
  refine ATodo.seq ?_
  refine ATodo.region ?_
  refine ARun.qv (q_load_ptr_all rfl rfl (.next .here) rfl) rfl ?_
  obtain ⟨v8, e5, h⟩ := bnd h
  refine r_callp rfl (place_Box_c e5) (CoL.refl _) rfl ?_
  refine ARun.qv (q_move rfl) rfl ?_
  refine ARun.qv (q_extract rfl rfl) rfl ?_
  refine ARun.qv (q_extract rfl rfl) rfl ?_
  refine ARun.qv (q_extract rfl rfl) rfl ?_
  refine n_alloc rfl rfl rfl rfl (fun b9 => ?_)
  refine n_alloc rfl rfl rfl rfl (fun b10 => ?_)
  refine n_store_ptr rfl rfl rfl rfl (.next .here) rfl rfl ?_
  refine n_store_ptr rfl rfl rfl rfl .here rfl rfl ?_
  refine ARun.qv (q_assign rfl) rfl ?_
  refine ARun.nil ?_
  refine ATodo.seq ?_
  refine ATodo.region ?_
  refine ARun.qv (q_load_ptr_all rfl rfl (.next (.next (.next .here))) rfl) rfl ?_
  obtain ⟨v11, e6, h⟩ := bnd h
  refine r_callp rfl (Q_FenceFault_c e6) (CoL.refl _) rfl ?_
  refine ARun.qv (q_assign rfl) rfl ?_
  refine ARun.nil ?_
  refine ATodo.seq ?_
  refine ATodo.seq ?_
  refine ATodo.cut (fun σ' => ∃ (c12 : Bool), L_FencesTell_j1 v2 v3 v6 v7 v8 v11 c12 = some r ∧ σ' = ⟨128, [(4, .ptr b4 0), (5, .ptr b5 0), (6, I v6.1), (8, I v7.1), (9, I v7.2), (10, .ptr b9 0), (11, .ptr b10 0), (13, I v11), (57, .bool c12)], [(b4, .cells [.str v2.1.Key, .list 2 (v2.1.Corners.map Spot.av)]), (b5, .cells [I v3.1.X, I v3.1.Y]), (b9, .cells [I v8.1.X, I v8.1.Y]), (b10, .cells [I v8.2.1.X, I v8.2.1.Y])]⟩) ?_ ?_
  · refine ATodo.region ?_
    refine ARun.qv (q_load_ptr_all rfl rfl (.next (.next (.next .here))) rfl) rfl ?_
    obtain ⟨v13, e7, h⟩ := bnd h
    refine r_callp rfl (place_CheckFence_c e7) (CoL.refl _) rfl ?_
    refine ARun.qv (q_move rfl) rfl ?_
    refine ARun.qv (q_neq rfl rfl) rfl ?_
    refine ARun.qv (q_move rfl) rfl ?_
    refine ARun.guard_df rfl rfl rfl (fun hc => ?_) (fun hc => ?_)
    · rw [orFd hc] at h
      refine ARun.qv (q_move rfl) rfl ?_
      refine ARun.guard_yes rfl rfl rfl ?_
      refine ARun.qv (q_move rfl) rfl ?_
      refine ARun.guard_yes rfl rfl rfl ?_
      refine ARun.qv (q_neq rfl rfl) rfl ?_
      refine ARun.qv (q_pick_f rfl rfl) rfl ?_
      refine ARun.qv (q_move rfl) rfl ?_
      refine ARun.guard_df rfl rfl rfl (fun hc => ?_) (fun hc => ?_)
      · rw [orFd hc] at h
        refine ARun.qv (q_move rfl) rfl ?_
        refine ARun.guard_yes rfl rfl rfl ?_
        refine ARun.qv (q_move rfl) rfl ?_
        refine ARun.guard_yes rfl rfl rfl ?_
        refine ARun.qv (q_neq rfl rfl) rfl ?_
        refine ARun.qv (q_pick_f rfl rfl) rfl ?_
        refine ARun.nil ?_
        refine ATodo.stop ?_
        exact ImpX.lessP (by exact ⟨rfl, rfl, rfl, rfl, rfl, rfl, rfl, rfl, rfl, True.intro⟩) (.cons (.next (.next (.next .here))) (.cons (.next (.next .here)) (.cons (.next .here) (.cons .here .nil)))) (ImpX.here ⟨decide (v8.2.2 ≠ v11), h, rfl⟩)
      · rw [orTd hc] at h
        refine ARun.guard_no rfl rfl rfl rfl ?_
        refine ARun.guard_no rfl rfl rfl rfl ?_
        refine ARun.qv (q_pick_t rfl rfl) rfl ?_
        refine ARun.nil ?_
        refine ATodo.stop ?_
        exact ImpX.lessP (by exact ⟨rfl, rfl, rfl, rfl, rfl, rfl, rfl, rfl, rfl, True.intro⟩) (.cons (.next (.next (.next .here))) (.cons (.next (.next .here)) (.cons (.next .here) (.cons .here .nil)))) (ImpX.here ⟨true, h, rfl⟩)
    · rw [orTd hc] at h
      refine ARun.guard_no rfl rfl rfl rfl ?_
      refine ARun.guard_no rfl rfl rfl rfl ?_
      refine ARun.qv (q_pick_t rfl rfl) rfl ?_
      refine ARun.qv (q_move rfl) rfl ?_
      refine ARun.guard_no rfl rfl rfl rfl ?_
      refine ARun.guard_no rfl rfl rfl rfl ?_
      refine ARun.guard_no rfl rfl rfl rfl ?_
      refine ARun.qv (q_pick_t rfl rfl) rfl ?_
      refine ARun.nil ?_
      refine ATodo.stop ?_
      exact ImpX.lessP (by exact ⟨rfl, rfl, rfl, rfl, rfl, rfl, rfl, rfl, rfl, True.intro⟩) (.cons (.next (.next (.next .here))) (.cons (.next (.next .here)) (.cons (.next .here) (.cons .here .nil)))) (ImpX.here ⟨true, h, rfl⟩)
  · rintro σ' ⟨c12, h, rfl⟩
    unfold L_FencesTell_j1 at h
    refine ATodo.cond rfl (fun hc => ?_) (fun hc => ?_)
    · replace h := iteT hc h
      refine ATodo.seq ?_
      refine ATodo.region ?_
      refine ARun.qv (q_assign rfl) rfl ?_
      refine ARun.nil ?_
      refine ATodo.ret ?_
      obtain rfl := Option.some.inj h
      exact ImpX.here ⟨_, .cons (.tmp _ _ rfl) .nil, rfl⟩
    · replace h := iteFb hc h
      refine ATodo.skip ?_
      refine ATodo.seq ?_
      refine ATodo.region ?_
      refine ARun.qv (q_move rfl) rfl ?_
      refine ARun.qv (q_load_ptr_all rfl rfl (.next .here) rfl) rfl ?_
      refine r_callp rfl (Q_SpotFault_c rfl) (CoL.refl _) rfl ?_
      refine n_buildSliceL (xs := ([v11, (Q_SpotFault v3.1)] : List Int).map I) rfl rfl rfl rfl rfl rfl ?_
      obtain ⟨v14, e8, h⟩ := bnd h
      refine r_callp rfl (L_errs_c e8) (CoL.refl _) rfl ?_
      refine ARun.qv (q_assign rfl) rfl ?_
      refine ARun.nil ?_
      refine ATodo.seq ?_
      refine ATodo.seq ?_
      refine ATodo.region ?_
      refine ARun.qv (q_move rfl) rfl ?_
      refine ARun.qv (q_neq rfl rfl) rfl ?_
      refine ARun.nil ?_
      refine ATodo.cond_d rfl (fun hc => ?_) (fun hc => ?_)
      · replace h := iteT hc h
        refine ATodo.seq ?_
        refine ATodo.cut (fun σ' => ∃ (c15 : Bool), L_FencesTell_j2 c15 = some r ∧ σ' = ⟨128, [(2, .bool c15)], []⟩) ?_ ?_
        · refine ATodo.region ?_
          refine ARun.qv (q_move rfl) rfl ?_
          refine ARun.qv (q_move rfl) rfl ?_
          refine ARun.qv (q_eql rfl rfl) rfl ?_
          refine ARun.qv (q_move rfl) rfl ?_
          refine ARun.guard_dt rfl rfl rfl (fun hc => ?_) (fun hc => ?_)
          · replace h := iteT hc h
            refine ARun.qv (q_move rfl) rfl ?_
            refine ARun.guard_yes rfl rfl rfl ?_
            refine ARun.qv (q_eql rfl rfl) rfl ?_
            refine ARun.qv (q_pick_t rfl rfl) rfl ?_
            refine ARun.qv (q_move rfl) rfl ?_
            refine ARun.guard_dt rfl rfl rfl (fun hc => ?_) (fun hc => ?_)
            · replace h := iteT hc h
              refine ARun.qv (q_move rfl) rfl ?_
              refine ARun.guard_yes rfl rfl rfl ?_
              refine ARun.qv (q_eql rfl rfl) rfl ?_
              refine ARun.qv (q_pick_t rfl rfl) rfl ?_
              refine ARun.qv (q_move rfl) rfl ?_
              refine ARun.guard_dt rfl rfl rfl (fun hc => ?_) (fun hc => ?_)
              · replace h := iteT hc h
                refine ARun.qv (q_load_ptr_all rfl rfl (.next (.next .here)) rfl) rfl ?_
                refine ARun.guard_yes rfl rfl rfl ?_
                refine ARun.qv (n_build rfl rfl rfl rfl rfl) rfl ?_
                refine ARun.guard_yes rfl rfl rfl ?_
                refine ARun.qv (t_teq (g := Spot.av) (X := v8.1) (Y := (⟨(0 : Int), (0 : Int)⟩ : Spot)) rfl rfl rfl rfl rfl) rfl ?_
                refine ARun.qv (q_pick_t rfl rfl) rfl ?_
                refine ARun.qv (q_move rfl) rfl ?_
                refine ARun.guard_dt rfl rfl rfl (fun hc => ?_) (fun hc => ?_)
                · replace h := iteT hc h
                  refine ARun.qv (q_load_ptr_all rfl rfl (.next (.next (.next .here))) rfl) rfl ?_
                  refine ARun.guard_yes rfl rfl rfl ?_
                  refine ARun.qv (n_build rfl rfl rfl rfl rfl) rfl ?_
                  refine ARun.guard_yes rfl rfl rfl ?_
                  refine ARun.qv (t_teq (g := Spot.av) (X := v8.2.1) (Y := (⟨(0 : Int), (0 : Int)⟩ : Spot)) rfl rfl rfl rfl rfl) rfl ?_
                  refine ARun.qv (q_pick_t rfl rfl) rfl ?_
                  refine ARun.qv (q_move rfl) rfl ?_
                  refine ARun.guard_dt rfl rfl rfl (fun hc => ?_) (fun hc => ?_)
                  · replace h := iteT hc h
                    obtain ⟨v16, e9, h⟩ := bnd h
                    refine r_callp rfl (L_placed_c e9) (CoL.refl _) rfl ?_
                    refine ARun.qv (q_pick_t rfl rfl) rfl ?_
                    refine ARun.qv (q_assign rfl) rfl ?_
                    refine ARun.nil ?_
                    refine ATodo.stop ?_
                    exact ImpX.lessP (by exact ⟨rfl, True.intro⟩) (.nil) (ImpX.here ⟨v16, h, rfl⟩)
                  · replace h := iteF hc h
                    refine ARun.qv (q_pick_f rfl rfl) rfl ?_
                    refine ARun.qv (q_assign rfl) rfl ?_
                    refine ARun.nil ?_
                    refine ATodo.stop ?_
                    exact ImpX.lessP (by exact ⟨rfl, True.intro⟩) (.nil) (ImpX.here ⟨false, h, rfl⟩)
                · replace h := iteF hc h
                  refine ARun.guard_no rfl rfl rfl rfl ?_
                  refine ARun.guard_no rfl rfl rfl rfl ?_
                  refine ARun.qv (q_pick_f rfl rfl) rfl ?_
                  refine ARun.qv (q_move rfl) rfl ?_
                  refine ARun.guard_no rfl rfl rfl rfl ?_
                  refine ARun.qv (q_pick_f rfl rfl) rfl ?_
                  refine ARun.qv (q_assign rfl) rfl ?_
                  refine ARun.nil ?_
                  refine ATodo.stop ?_
                  exact ImpX.lessP (by exact ⟨rfl, True.intro⟩) (.nil) (ImpX.here ⟨false, h, rfl⟩)
              · replace h := iteF hc h
                refine ARun.guard_no rfl rfl rfl rfl ?_
                refine ARun.guard_no rfl rfl rfl rfl ?_
                refine ARun.qv (q_pick_f rfl rfl) rfl ?_
                refine ARun.qv (q_move rfl) rfl ?_
                refine ARun.guard_no rfl rfl rfl rfl ?_
                refine ARun.guard_no rfl rfl rfl rfl ?_
                refine ARun.guard_no rfl rfl rfl rfl ?_
                refine ARun.qv (q_pick_f rfl rfl) rfl ?_
                refine ARun.qv (q_move rfl) rfl ?_
                refine ARun.guard_no rfl rfl rfl rfl ?_
                refine ARun.qv (q_pick_f rfl rfl) rfl ?_
                refine ARun.qv (q_assign rfl) rfl ?_
                refine ARun.nil ?_
                refine ATodo.stop ?_
                exact ImpX.lessP (by exact ⟨rfl, True.intro⟩) (.nil) (ImpX.here ⟨false, h, rfl⟩)
            · replace h := iteF hc h
              refine ARun.guard_no rfl rfl rfl rfl ?_
              refine ARun.qv (q_pick_f rfl rfl) rfl ?_
              refine ARun.qv (q_move rfl) rfl ?_
              refine ARun.guard_no rfl rfl rfl rfl ?_
              refine ARun.guard_no rfl rfl rfl rfl ?_
              refine ARun.guard_no rfl rfl rfl rfl ?_
              refine ARun.qv (q_pick_f rfl rfl) rfl ?_
              refine ARun.qv (q_move rfl) rfl ?_
              refine ARun.guard_no rfl rfl rfl rfl ?_
              refine ARun.guard_no rfl rfl rfl rfl ?_
              refine ARun.guard_no rfl rfl rfl rfl ?_
              refine ARun.qv (q_pick_f rfl rfl) rfl ?_
              refine ARun.qv (q_move rfl) rfl ?_
              refine ARun.guard_no rfl rfl rfl rfl ?_
              refine ARun.qv (q_pick_f rfl rfl) rfl ?_
              refine ARun.qv (q_assign rfl) rfl ?_
              refine ARun.nil ?_
              refine ATodo.stop ?_
              exact ImpX.lessP (by exact ⟨rfl, True.intro⟩) (.nil) (ImpX.here ⟨false, h, rfl⟩)
          · replace h := iteF hc h
            refine ARun.guard_no rfl rfl rfl rfl ?_
            refine ARun.qv (q_pick_f rfl rfl) rfl ?_
            refine ARun.qv (q_move rfl) rfl ?_
            refine ARun.guard_no rfl rfl rfl rfl ?_
            refine ARun.guard_no rfl rfl rfl rfl ?_
            refine ARun.qv (q_pick_f rfl rfl) rfl ?_
            refine ARun.qv (q_move rfl) rfl ?_
            refine ARun.guard_no rfl rfl rfl rfl ?_
            refine ARun.guard_no rfl rfl rfl rfl ?_
            refine ARun.guard_no rfl rfl rfl rfl ?_
            refine ARun.qv (q_pick_f rfl rfl) rfl ?_
            refine ARun.qv (q_move rfl) rfl ?_
            refine ARun.guard_no rfl rfl rfl rfl ?_
            refine ARun.guard_no rfl rfl rfl rfl ?_
            refine ARun.guard_no rfl rfl rfl rfl ?_
            refine ARun.qv (q_pick_f rfl rfl) rfl ?_
            refine ARun.qv (q_move rfl) rfl ?_
            refine ARun.guard_no rfl rfl rfl rfl ?_
            refine ARun.qv (q_pick_f rfl rfl) rfl ?_
            refine ARun.qv (q_assign rfl) rfl ?_
            refine ARun.nil ?_
            refine ATodo.stop ?_
            exact ImpX.lessP (by exact ⟨rfl, True.intro⟩) (.nil) (ImpX.here ⟨false, h, rfl⟩)
        · rintro σ' ⟨c15, h, rfl⟩
          unfold L_FencesTell_j2 at h
          refine ATodo.ret ?_
          obtain rfl := Option.some.inj h
          exact ImpX.here ⟨_, .cons (.tmp _ _ rfl) .nil, rfl⟩
      · replace h := iteF hc h
        refine ATodo.skip ?_
        refine ATodo.seq ?_
        refine ATodo.region ?_
        refine ARun.qv (n_field_ptr rfl rfl) rfl ?_
        refine ARun.qv (q_load_ptr rfl rfl .here rfl) rfl ?_
        obtain ⟨v17, e10, h⟩ := bnd h
        refine r_callp rfl (Q_BoxOf_c e10) (CoL.refl _) rfl ?_
        refine ARun.qv (q_move rfl) rfl ?_
        refine ARun.qv (q_extract rfl rfl) rfl ?_
        refine ARun.qv (q_extract rfl rfl) rfl ?_
        refine n_alloc rfl rfl rfl rfl (fun b18 => ?_)
        refine n_alloc rfl rfl rfl rfl (fun b19 => ?_)
        refine n_store_ptr rfl rfl rfl rfl (.next .here) rfl rfl ?_
        refine n_store_ptr rfl rfl rfl rfl .here rfl rfl ?_
        refine ARun.nil ?_
        refine ATodo.seq ?_
        refine ATodo.region ?_
        refine ARun.qv (q_assign rfl) rfl ?_
        refine ARun.nil ?_
        refine ATodo.seq ?_
        refine ATodo.seq ?_
        refine ATodo.region ?_
        refine ARun.qv (q_move rfl) rfl ?_
        refine ARun.qv (q_eql rfl rfl) rfl ?_
        refine ARun.nil ?_
        refine ATodo.cut (fun σ' => ∃ (n20 : Int), L_FencesTell_j3 v2 v6 v7 v8 v14 v17 n20 = some r ∧ σ' = ⟨128, [(4, .ptr b4 0), (6, I v6.1), (8, I v7.1), (9, I v7.2), (10, .ptr b9 0), (11, .ptr b10 0), (14, I v14), (15, .ptr b18 0), (16, .ptr b19 0), (17, I n20)], [(b4, .cells [.str v2.1.Key, .list 2 (v2.1.Corners.map Spot.av)]), (b9, .cells [I v8.1.X, I v8.1.Y]), (b10, .cells [I v8.2.1.X, I v8.2.1.Y]), (b18, .cells [I v17.1.X, I v17.1.Y]), (b19, .cells [I v17.2.X, I v17.2.Y])]⟩) ?_ ?_
        · refine ATodo.cond_d rfl (fun hc => ?_) (fun hc => ?_)
          · replace h := iteT hc h
            refine ATodo.region ?_
            refine ARun.qv (n_field_ptr rfl rfl) rfl ?_
            refine ARun.qv (q_load_ptr rfl rfl (.next (.next .here)) rfl) rfl ?_
            refine ARun.qv (q_load_ptr_all rfl rfl (.next (.next (.next .here))) rfl) rfl ?_
            obtain ⟨v21, e11, h⟩ := bnd h
            refine r_callp rfl (Q_WhereOf_c e11) (CoL.refl _) rfl ?_
            refine ARun.qv (q_assign rfl) rfl ?_
            refine ARun.nil ?_
            refine ATodo.stop ?_
            exact ImpX.lessP (by exact ⟨rfl, rfl, rfl, rfl, rfl, rfl, rfl, rfl, rfl, rfl, True.intro⟩) (.cons (.next (.next .here)) (.cons (.next (.next (.next .here))) (.cons (.next (.next (.next .here))) (.cons (.next .here) (.cons .here .nil))))) (ImpX.here ⟨v21, h, rfl⟩)
          · replace h := iteF hc h
            refine ATodo.skip ?_
            refine ATodo.stop ?_
            exact ImpX.lessP (by exact ⟨rfl, rfl, rfl, rfl, rfl, rfl, rfl, rfl, rfl, rfl, True.intro⟩) (.cons (.next (.next .here)) (.cons (.next (.next (.next .here))) (.cons (.next (.next (.next .here))) (.cons (.next .here) (.cons .here .nil))))) (ImpX.here ⟨(0 : Int), h, rfl⟩)
        · rintro σ' ⟨n20, h, rfl⟩
          unfold L_FencesTell_j3 at h
          refine ATodo.seq ?_
          refine ATodo.cut (fun σ' => ∃ (c22 : Bool), L_FencesTell_j4 c22 = some r ∧ σ' = ⟨128, [(2, .bool c22)], []⟩) ?_ ?_
          · refine ATodo.region ?_
            refine ARun.qv (q_move rfl) rfl ?_
            refine ARun.qv (q_load_ptr_all rfl rfl .here rfl) rfl ?_
            obtain ⟨v23, e12, h⟩ := bnd h
            refine r_callp rfl (Q_Area2Of_c e12) (CoL.refl _) rfl ?_
            refine ARun.qv (q_eql rfl rfl) rfl ?_
            refine ARun.qv (q_move rfl) rfl ?_
            refine ARun.guard_dt rfl rfl rfl (fun hc => ?_) (fun hc => ?_)
            · replace h := iteT hc h
              refine ARun.qv (q_move rfl) rfl ?_
              refine ARun.guard_yes rfl rfl rfl ?_
              refine ARun.qv (q_move rfl) rfl ?_
              refine ARun.guard_yes rfl rfl rfl ?_
              refine ARun.qv (q_eql rfl rfl) rfl ?_
              refine ARun.qv (q_pick_t rfl rfl) rfl ?_
              refine ARun.qv (q_move rfl) rfl ?_
              refine ARun.guard_dt rfl rfl rfl (fun hc => ?_) (fun hc => ?_)
              · replace h := iteT hc h
                refine ARun.qv (q_move rfl) rfl ?_
                refine ARun.guard_yes rfl rfl rfl ?_
                refine ARun.qv (q_move rfl) rfl ?_
                refine ARun.guard_yes rfl rfl rfl ?_
                refine ARun.qv (q_eql rfl rfl) rfl ?_
                refine ARun.qv (q_pick_t rfl rfl) rfl ?_
                refine ARun.qv (q_move rfl) rfl ?_
                refine ARun.guard_dt rfl rfl rfl (fun hc => ?_) (fun hc => ?_)
                · replace h := iteT hc h
                  refine ARun.qv (q_load_ptr_all rfl rfl (.next .here) rfl) rfl ?_
                  refine ARun.guard_yes rfl rfl rfl ?_
                  refine ARun.qv (q_load_ptr_all rfl rfl (.next (.next (.next .here))) rfl) rfl ?_
                  refine ARun.guard_yes rfl rfl rfl ?_
                  refine ARun.qv (t_teq (g := Spot.av) (X := v8.1) (Y := v17.1) rfl rfl rfl rfl rfl) rfl ?_
                  refine ARun.qv (q_pick_t rfl rfl) rfl ?_
                  refine ARun.qv (q_move rfl) rfl ?_
                  refine ARun.guard_dt rfl rfl rfl (fun hc => ?_) (fun hc => ?_)
                  · replace h := iteT hc h
                    refine ARun.qv (q_load_ptr_all rfl rfl (.next (.next .here)) rfl) rfl ?_
                    refine ARun.guard_yes rfl rfl rfl ?_
                    refine ARun.qv (q_load_ptr_all rfl rfl (.next (.next (.next (.next .here)))) rfl) rfl ?_
                    refine ARun.guard_yes rfl rfl rfl ?_
                    refine ARun.qv (t_teq (g := Spot.av) (X := v8.2.1) (Y := v17.2) rfl rfl rfl rfl rfl) rfl ?_
                    refine ARun.qv (q_pick_t rfl rfl) rfl ?_
                    refine ARun.qv (q_move rfl) rfl ?_
                    refine ARun.guard_dt rfl rfl rfl (fun hc => ?_) (fun hc => ?_)
                    · replace h := iteT hc h
                      obtain ⟨v24, e13, h⟩ := bnd h
                      refine r_callp rfl (L_placed_c e13) (CoL.refl _) rfl ?_
                      refine ARun.qv (q_pick_t rfl rfl) rfl ?_
                      refine ARun.qv (q_assign rfl) rfl ?_
                      refine ARun.nil ?_
                      refine ATodo.stop ?_
                      exact ImpX.lessP (by exact ⟨rfl, True.intro⟩) (.nil) (ImpX.here ⟨v24, h, rfl⟩)
                    · replace h := iteF hc h
                      refine ARun.qv (q_pick_f rfl rfl) rfl ?_
                      refine ARun.qv (q_assign rfl) rfl ?_
                      refine ARun.nil ?_
                      refine ATodo.stop ?_
                      exact ImpX.lessP (by exact ⟨rfl, True.intro⟩) (.nil) (ImpX.here ⟨false, h, rfl⟩)
                  · replace h := iteF hc h
                    refine ARun.guard_no rfl rfl rfl rfl ?_
                    refine ARun.guard_no rfl rfl rfl rfl ?_
                    refine ARun.qv (q_pick_f rfl rfl) rfl ?_
                    refine ARun.qv (q_move rfl) rfl ?_
                    refine ARun.guard_no rfl rfl rfl rfl ?_
                    refine ARun.qv (q_pick_f rfl rfl) rfl ?_
                    refine ARun.qv (q_assign rfl) rfl ?_
                    refine ARun.nil ?_
                    refine ATodo.stop ?_
                    exact ImpX.lessP (by exact ⟨rfl, True.intro⟩) (.nil) (ImpX.here ⟨false, h, rfl⟩)
                · replace h := iteF hc h
                  refine ARun.guard_no rfl rfl rfl rfl ?_
                  refine ARun.guard_no rfl rfl rfl rfl ?_
                  refine ARun.qv (q_pick_f rfl rfl) rfl ?_
                  refine ARun.qv (q_move rfl) rfl ?_
                  refine ARun.guard_no rfl rfl rfl rfl ?_
                  refine ARun.guard_no rfl rfl rfl rfl ?_
                  refine ARun.guard_no rfl rfl rfl rfl ?_
                  refine ARun.qv (q_pick_f rfl rfl) rfl ?_
                  refine ARun.qv (q_move rfl) rfl ?_
                  refine ARun.guard_no rfl rfl rfl rfl ?_
                  refine ARun.qv (q_pick_f rfl rfl) rfl ?_
                  refine ARun.qv (q_assign rfl) rfl ?_
                  refine ARun.nil ?_
                  refine ATodo.stop ?_
                  exact ImpX.lessP (by exact ⟨rfl, True.intro⟩) (.nil) (ImpX.here ⟨false, h, rfl⟩)
              · replace h := iteF hc h
                refine ARun.guard_no rfl rfl rfl rfl ?_
                refine ARun.guard_no rfl rfl rfl rfl ?_
                refine ARun.qv (q_pick_f rfl rfl) rfl ?_
                refine ARun.qv (q_move rfl) rfl ?_
                refine ARun.guard_no rfl rfl rfl rfl ?_
                refine ARun.guard_no rfl rfl rfl rfl ?_
                refine ARun.guard_no rfl rfl rfl rfl ?_
                refine ARun.qv (q_pick_f rfl rfl) rfl ?_
                refine ARun.qv (q_move rfl) rfl ?_
                refine ARun.guard_no rfl rfl rfl rfl ?_
                refine ARun.guard_no rfl rfl rfl rfl ?_
                refine ARun.guard_no rfl rfl rfl rfl ?_
                refine ARun.qv (q_pick_f rfl rfl) rfl ?_
                refine ARun.qv (q_move rfl) rfl ?_
                refine ARun.guard_no rfl rfl rfl rfl ?_
                refine ARun.qv (q_pick_f rfl rfl) rfl ?_
                refine ARun.qv (q_assign rfl) rfl ?_
                refine ARun.nil ?_
                refine ATodo.stop ?_
                exact ImpX.lessP (by exact ⟨rfl, True.intro⟩) (.nil) (ImpX.here ⟨false, h, rfl⟩)
            · replace h := iteF hc h
              refine ARun.guard_no rfl rfl rfl rfl ?_
              refine ARun.guard_no rfl rfl rfl rfl ?_
              refine ARun.qv (q_pick_f rfl rfl) rfl ?_
              refine ARun.qv (q_move rfl) rfl ?_
              refine ARun.guard_no rfl rfl rfl rfl ?_
              refine ARun.guard_no rfl rfl rfl rfl ?_
              refine ARun.guard_no rfl rfl rfl rfl ?_
              refine ARun.qv (q_pick_f rfl rfl) rfl ?_
              refine ARun.qv (q_move rfl) rfl ?_
              refine ARun.guard_no rfl rfl rfl rfl ?_
              refine ARun.guard_no rfl rfl rfl rfl ?_
              refine ARun.guard_no rfl rfl rfl rfl ?_
              refine ARun.qv (q_pick_f rfl rfl) rfl ?_
              refine ARun.qv (q_move rfl) rfl ?_
              refine ARun.guard_no rfl rfl rfl rfl ?_
              refine ARun.guard_no rfl rfl rfl rfl ?_
              refine ARun.guard_no rfl rfl rfl rfl ?_
              refine ARun.qv (q_pick_f rfl rfl) rfl ?_
              refine ARun.qv (q_move rfl) rfl ?_
              refine ARun.guard_no rfl rfl rfl rfl ?_
              refine ARun.qv (q_pick_f rfl rfl) rfl ?_
              refine ARun.qv (q_assign rfl) rfl ?_
              refine ARun.nil ?_
              refine ATodo.stop ?_
              exact ImpX.lessP (by exact ⟨rfl, True.intro⟩) (.nil) (ImpX.here ⟨false, h, rfl⟩)
          · rintro σ' ⟨c22, h, rfl⟩
            unfold L_FencesTell_j4 at h
            refine ATodo.ret ?_
            obtain rfl := Option.some.inj h
            exact ImpX.here ⟨_, .cons (.tmp _ _ rfl) .nil, rfl⟩

end Go.Proofs.Ytbcbhhbbejcnnaa
