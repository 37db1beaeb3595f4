/- The code computes the plain functions: proofs written by shal.py. -/
import Derived.Test.YtnnljbpmkcefaaaFixW1
set_option maxRecDepth 100000
set_option linter.unusedVariables false
set_option linter.unusedSimpArgs false
namespace Go.Proofs.Ytnnljbpmkcefaaa
open Go Go.Eng Go.Proofs Go.Beacon
attribute [local irreducible] ARun ATodo AQ QV ACall ImpX AWp AM
set_option maxHeartbeats 4000000 in
theorem place_Merge_c {p0x0 : List Fix} {p1x0 : List Fix} {r : (List Fix) × Int} (h : place_Merge p0x0 p1x0 = some r) : ACall Try.prog 41 [.list 5 (p0x0.map Fix.av), .list 5 (p1x0.map Fix.av)] [] (T1 (fun d_0 => [(d_0, .arr 5 (r.1.map Fix.av))]) (fun d_0 => .tup [.sl 5 d_0 0 r.1.length, I r.2])) := by
  unfold place_Merge at h
  refine ACall.lessH ?_
  refine ACall.bodyN Try.func41 rfl Try.ntmps41 Try.results41 rfl rfl ?_
  refine ATodo.seq ?_
  refine ATodo.region ?_
  refine ARun.qv (q_assign rfl) rfl ?_
  refine ARun.qv (q_assign rfl) rfl ?_
  refine ARun.nil ?_
  refine ATodo.seq ?_
  refine ATodo.seq ?_
  refine ATodo.region ?_
  refine ARun.qv (q_move rfl) rfl ?_
  obtain ⟨v1, e1, h⟩ := bnd h
  refine r_callp rfl (place_CheckFixes_c e1) (CoL.refl _) rfl ?_
  refine ARun.qv (q_move rfl) rfl ?_
  obtain ⟨v2, e2, h⟩ := bnd h
  refine r_callp rfl (place_CheckFixes_c e2) (CoL.refl _) rfl ?_
  refine n_buildSliceL (xs := ([v1, v2] : List Int).map I) rfl rfl rfl rfl rfl rfl ?_
  obtain ⟨v3, e3, h⟩ := bnd h
  refine r_callp rfl (base_First_c e3) (CoL.refl _) rfl ?_
  refine ARun.qv (q_assign rfl) rfl ?_
  refine ARun.nil ?_
  refine ATodo.seq ?_
  refine ATodo.region ?_
  refine ARun.qv (q_move rfl) rfl ?_
  refine ARun.qv (q_neq rfl rfl) rfl ?_
  refine ARun.nil ?_
  refine ATodo.cond_d rfl (fun hc => ?_) (fun hc => ?_)
  · replace h := iteT hc h
    refine ATodo.seq ?_
    refine ATodo.region ?_
    refine ARun.qv (q_move rfl) rfl ?_
    refine ARun.qv (q_assign rfl) rfl ?_
    refine ARun.qv (q_assign rfl) rfl ?_
    refine ARun.nil ?_
    refine ATodo.ret ?_
    obtain rfl := Option.some.inj h
    refine ImpX.arr (s := 4) 5 rfl (fun b4 => ?_)
    exact ImpX.here ⟨_, .cons (.tmp _ _ rfl) (.cons (.tmp _ _ rfl) .nil), _, .cons .here .nil, ⟨b4, rfl, rfl⟩⟩
  · replace h := iteF hc h
    refine ATodo.skip ?_
    refine ATodo.seq ?_
    refine ATodo.region ?_
    refine ARun.qv (q_move rfl) rfl ?_
    refine ARun.qv (q_move rfl) rfl ?_
    refine n_buildSliceL (xs := ([p0x0, p1x0] : List (List Fix)).map (encL 5 Fix.av)) rfl rfl rfl rfl rfl rfl ?_
    obtain ⟨v5, e4, h⟩ := bnd h
    refine t_call1 rfl (slices_Concat_Fix_Fix_c e4) (CoL.refl _) .nil (fun _ => rfl) rfl (fun b6 => ?_)
    refine ARun.qv (q_assign rfl) rfl ?_
    refine ARun.nil ?_
    refine ATodo.seq ?_
    refine ATodo.region ?_
    refine ARun.qv (q_move rfl) rfl ?_
    obtain ⟨v7, e5, h⟩ := bnd h
    refine t_call0 rfl (slices_SortStableFunc_Fix_Fix_c (fun e => place_byDevice_c e) (lenOk_f e5)) (CoL.refl _) (.cons .here .nil) rfl rfl ?_
    refine ARun.ghost (ImpX.eqs (s := 7) (av' := .sl 5 b6 0 v7.length) rfl (congrArg (AV.sl 5 b6 0) (lenOk_l e5)) (ImpX.here ?_))
    refine ARun.ghost (ImpX.eqs (s := 21) (av' := .sl 5 b6 0 v7.length) rfl (congrArg (AV.sl 5 b6 0) (lenOk_l e5)) (ImpX.here ?_))
    refine ARun.ghost (ImpX.eqs (s := 22) (av' := .sl 5 b6 0 v7.length) rfl (congrArg (AV.sl 5 b6 0) (lenOk_l e5)) (ImpX.here ?_))
    refine ARun.nil ?_
    refine ATodo.seq ?_
    refine ATodo.region ?_
    refine ARun.qv (q_move rfl) rfl ?_
    obtain ⟨v8, e6, h⟩ := bnd h
    refine t_call1 rfl (slices_Compact_Fix_Fix_c e6) (CoL.refl _) (.cons .here .nil) (fun _ => rfl) rfl (fun b9 => ?_)
    refine ARun.qv (q_assign rfl) rfl ?_
    refine ARun.nil ?_
    refine ATodo.seq ?_
    refine ATodo.seq ?_
    refine ATodo.region ?_
    refine ARun.qv (q_assign rfl) rfl ?_
    refine ARun.nil ?_
    refine ATodo.block ?_
    refine ATodo.loopI (fun x : Int => place_Merge_b1 v8 x) (fun x σ' => σ' = ⟨47, [(7, .sl 5 b9 0 v8.length), (8, I x)], [(b9, .arr 5 (v8.map Fix.av))]⟩) h ?_ ?_
    · exact ImpX.lessP (by exact ⟨rfl, rfl, True.intro⟩) (.cons .here .nil) (ImpX.here rfl)
    · intro n11 z1 σ' J1 hmk h hJ1 hA1
      obtain rfl := hmk
      replace h : place_Merge_b1 v8 n11 = some z1 := h
      unfold place_Merge_b1 at h
      refine ATodo.seq ?_
      refine ATodo.seq ?_
      refine ATodo.region ?_
      refine ARun.qv (q_move rfl) rfl ?_
      refine ARun.qv (q_move rfl) rfl ?_
      refine ARun.qv (t_len_sl rfl) rfl ?_
      refine ARun.qv (q_lss rfl rfl) rfl ?_
      refine ARun.nil ?_
      refine ATodo.cond_d rfl (fun hc => ?_) (fun hc => ?_)
      · replace h := iteT hc h
        refine ATodo.skip ?_
        refine ATodo.seq ?_
        refine ATodo.block ?_
        refine ATodo.seq ?_
        refine ATodo.regionM (id := 10) (A := [0, 0, 2, 7, 15, 0, 0, 96, 224, 511, 1023]) 11 mixed rfl (by kernel_rfl) (by kernel_rfl) ?_
        refine AM.qv (q_move rfl) rfl ?_
        refine AM.qv (q_move rfl) rfl ?_
        refine AM.qv (q_subw rfl rfl) rfl ?_
        obtain ⟨v12, e7, h⟩ := bnd h
        refine AM.qv (t_index_sl rfl rfl rfl e7) rfl ?_
        refine AM.qv (t_load_aptr_agg (g := Fix.av) rfl rfl (.inl .here) rfl e7 rfl) rfl ?_
        refine AM.qv (q_move rfl) rfl ?_
        refine AM.qv (q_move rfl) rfl ?_
        obtain ⟨v13, e8, h⟩ := bnd h
        refine AM.qv (t_index_sl rfl rfl rfl e8) rfl ?_
        refine AM.qv (t_load_aptr_agg (g := Fix.av) rfl rfl (.inl .here) rfl e8 rfl) rfl ?_
        obtain ⟨v14, e9, h⟩ := bnd h
        refine AM.callp rfl (place_byDevice_c e9) (CoL.refl _) rfl ?_
        refine AM.qv (q_eql rfl rfl) rfl ?_
        refine AM.nil ?_
        refine ARun.nil ?_
        refine ATodo.cond_d rfl (fun hc => ?_) (fun hc => ?_)
        · replace h := iteT hc h
          refine ATodo.seq ?_
          refine ATodo.region ?_
          refine ARun.qv (q_assign rfl) rfl ?_
          refine ARun.qv (q_assign rfl) rfl ?_
          refine ARun.nil ?_
          refine ATodo.ret ?_
          replace h := outL h hA1
          obtain rfl := Option.some.inj h
          refine ImpX.arr (s := 4) 5 rfl (fun b15 => ?_)
          exact ImpX.here ⟨_, .cons (.tmp _ _ rfl) (.cons (.tmp _ _ rfl) .nil), _, .cons .here .nil, ⟨b15, rfl, rfl⟩⟩
        · replace h := iteF hc h
          refine ATodo.skip ?_
          refine ATodo.blk ?_
          refine ATodo.region ?_
          refine ARun.qv (q_move rfl) rfl ?_
          refine ARun.qv (q_addw rfl rfl) rfl ?_
          refine ARun.qv (q_assign rfl) rfl ?_
          refine ARun.nil ?_
          refine ATodo.stop ?_
          obtain rfl := Option.some.inj h
          refine hJ1 _ _ rfl ?_
          exact ImpX.lessP (by exact ⟨rfl, rfl, True.intro⟩) (.cons .here .nil) (ImpX.here rfl)
      · replace h := iteF hc h
        refine ATodo.exit rfl ?_
        replace h := outL h hA1
        unfold place_Merge_k1 at h
        refine ATodo.seq ?_
        refine ATodo.seq ?_
        refine ATodo.region ?_
        refine ARun.qv (q_move rfl) rfl ?_
        refine ARun.qv (t_len_sl rfl) rfl ?_
        refine ARun.qv (q_gtr rfl rfl) rfl ?_
        refine ARun.nil ?_
        refine ATodo.cond_d rfl (fun hc => ?_) (fun hc => ?_)
        · replace h := iteT hc h
          refine ATodo.seq ?_
          refine ATodo.region ?_
          refine ARun.qv (q_assign rfl) rfl ?_
          refine ARun.qv (q_assign rfl) rfl ?_
          refine ARun.nil ?_
          refine ATodo.ret ?_
          obtain rfl := Option.some.inj h
          refine ImpX.arr (s := 4) 5 rfl (fun b16 => ?_)
          exact ImpX.here ⟨_, .cons (.tmp _ _ rfl) (.cons (.tmp _ _ rfl) .nil), _, .cons .here .nil, ⟨b16, rfl, rfl⟩⟩
        · replace h := iteF hc h
          refine ATodo.skip ?_
          refine ATodo.seq ?_
          refine ATodo.region ?_
          refine ARun.qv (q_move rfl) rfl ?_
          refine ARun.qv (q_assign rfl) rfl ?_
          refine ARun.qv (q_assign rfl) rfl ?_
          refine ARun.nil ?_
          refine ATodo.ret ?_
          obtain rfl := Option.some.inj h
          exact ImpX.here ⟨_, .cons (.tmp _ _ rfl) (.cons (.tmp _ _ rfl) .nil), _, .cons .here .nil, ⟨b9, rfl, rfl⟩⟩

set_option maxHeartbeats 4000000 in
theorem place_Of_c {p0x0 : List Fix} {p1x0 : Str} {r : (List Fix) × Int} (h : place_Of p0x0 p1x0 = some r) : ACall Try.prog 42 [.list 5 (p0x0.map Fix.av), .str p1x0] [] (T1 (fun d_0 => [(d_0, .arr 5 (r.1.map Fix.av))]) (fun d_0 => .tup [.sl 5 d_0 0 r.1.length, I r.2])) := by
  unfold place_Of at h
  refine ACall.lessH ?_
  refine ACall.bodyN Try.func42 rfl Try.ntmps42 Try.results42 rfl rfl ?_
  refine ATodo.seq ?_
  refine ATodo.region ?_
  refine ARun.qv (q_assign rfl) rfl ?_
  refine ARun.qv (q_assign rfl) rfl ?_
  refine ARun.nil ?_
  refine ATodo.seq ?_
  refine ATodo.seq ?_
  refine ATodo.region ?_
  refine ARun.qv (q_move rfl) rfl ?_
  obtain ⟨v1, e1, h⟩ := bnd h
  refine r_callp rfl (place_CheckFixes_c e1) (CoL.refl _) rfl ?_
  refine ARun.qv (q_assign rfl) rfl ?_
  refine ARun.nil ?_
  refine ATodo.seq ?_
  refine ATodo.region ?_
  refine ARun.qv (q_move rfl) rfl ?_
  refine ARun.qv (q_neq rfl rfl) rfl ?_
  refine ARun.nil ?_
  refine ATodo.cond_d rfl (fun hc => ?_) (fun hc => ?_)
  · replace h := iteT hc h
    refine ATodo.seq ?_
    refine ATodo.region ?_
    refine ARun.qv (q_move rfl) rfl ?_
    refine ARun.qv (q_assign rfl) rfl ?_
    refine ARun.qv (q_assign rfl) rfl ?_
    refine ARun.nil ?_
    refine ATodo.ret ?_
    obtain rfl := Option.some.inj h
    refine ImpX.arr (s := 4) 5 rfl (fun b2 => ?_)
    exact ImpX.here ⟨_, .cons (.tmp _ _ rfl) (.cons (.tmp _ _ rfl) .nil), _, .cons .here .nil, ⟨b2, rfl, rfl⟩⟩
  · replace h := iteF hc h
    refine ATodo.skip ?_
    refine ATodo.seq ?_
    refine ATodo.seq ?_
    refine ATodo.region ?_
    refine ARun.qv (q_move rfl) rfl ?_
    obtain ⟨v3, e2, h⟩ := bnd h
    refine r_callp rfl (base_Key_c e2) (CoL.refl _) rfl ?_
    refine ARun.qv (q_not rfl) rfl ?_
    refine ARun.nil ?_
    refine ATodo.cond rfl (fun hc => ?_) (fun hc => ?_)
    · replace h := iteT hc h
      refine ATodo.seq ?_
      refine ATodo.region ?_
      refine ARun.qv (q_assign rfl) rfl ?_
      refine ARun.qv (q_assign rfl) rfl ?_
      refine ARun.nil ?_
      refine ATodo.ret ?_
      obtain rfl := Option.some.inj h
      refine ImpX.arr (s := 4) 5 rfl (fun b4 => ?_)
      exact ImpX.here ⟨_, .cons (.tmp _ _ rfl) (.cons (.tmp _ _ rfl) .nil), _, .cons .here .nil, ⟨b4, rfl, rfl⟩⟩
    · replace h := iteFb hc h
      refine ATodo.skip ?_
      refine ATodo.seq ?_
      refine ATodo.region ?_
      refine ARun.qv (q_assign rfl) rfl ?_
      refine ARun.nil ?_
      refine ATodo.seq ?_
      refine ATodo.seq ?_
      refine ATodo.region ?_
      refine ARun.qv (q_move rfl) rfl ?_
      refine ARun.qv (t_len rfl) rfl ?_
      refine ARun.qv (q_move rfl) rfl ?_
      refine ARun.nil ?_
      refine ATodo.block ?_
      refine ATodo.loopI (fun x : (List Fix) × Int => place_Of_b1 p0x0 p1x0 x.1 x.2) (fun x σ' => ∃ (b8 : Bk), σ' = ⟨34, [(1, .str p1x0), (7, .sl 5 b8 0 x.1.length), (18, .list 5 (p0x0.map Fix.av)), (19, I (p0x0.length : Int)), (20, I x.2)], [(b8, .arr 5 (x.1.map Fix.av))]⟩) h ?_ ?_
      · refine ImpX.arr (s := 7) 5 rfl (fun b11 => ?_)
        exact ImpX.lessP (by exact ⟨rfl, rfl, rfl, rfl, rfl, True.intro⟩) (.cons .here .nil) (ImpX.here ⟨b11, rfl⟩)
      · intro x z1 σ' J1 hmk h hJ1 hA1
        obtain ⟨l9, n10⟩ := x
        obtain ⟨b8, rfl⟩ := hmk
        replace h : place_Of_b1 p0x0 p1x0 l9 n10 = some z1 := h
        unfold place_Of_b1 at h
        refine ATodo.seq ?_
        refine ATodo.region ?_
        refine ARun.qv (q_lss rfl rfl) rfl ?_
        refine ARun.nil ?_
        refine ATodo.seq ?_
        refine ATodo.cond_d rfl (fun hc => ?_) (fun hc => ?_)
        · replace h := iteT hc h
          refine ATodo.skip ?_
          refine ATodo.seq ?_
          refine ATodo.block ?_
          refine ATodo.seq ?_
          refine ATodo.region ?_
          obtain ⟨v12, e3, h⟩ := bnd h
          refine ARun.qv (t_index rfl rfl rfl e3 rfl rfl) rfl ?_
          refine ARun.qv (q_load_rptr_agg rfl rfl rfl) rfl ?_
          refine n_alloc rfl rfl rfl rfl (fun b13 => ?_)
          refine n_store_ptr rfl rfl rfl rfl .here rfl rfl ?_
          refine ARun.nil ?_
          refine ATodo.seq ?_
          refine ATodo.region ?_
          refine ARun.qv (n_field_ptr rfl rfl) rfl ?_
          refine ARun.qv (q_load_ptr rfl rfl .here rfl) rfl ?_
          refine ARun.qv (q_move rfl) rfl ?_
          refine ARun.qv (q_seq rfl rfl) rfl ?_
          refine ARun.nil ?_
          refine ATodo.cut (fun σ' => ∃ (b14 : Bk) (l15 : List Fix), place_Of_j1 n10 l15 = some z1 ∧ σ' = ⟨34, [(1, .str p1x0), (7, .sl 5 b14 0 l15.length), (18, .list 5 (p0x0.map Fix.av)), (19, I (p0x0.length : Int)), (20, I n10)], [(b14, .arr 5 (l15.map Fix.av))]⟩) ?_ ?_
          · refine ATodo.cond_d rfl (fun hc => ?_) (fun hc => ?_)
            · replace h := iteT hc h
              refine ATodo.region ?_
              refine ARun.qv (q_move rfl) rfl ?_
              refine ARun.qv (q_load_ptr_all rfl rfl .here rfl) rfl ?_
              refine n_buildSliceL (xs := ([v12] : List Fix).map Fix.av) rfl rfl rfl rfl rfl rfl ?_
              obtain ⟨l16, e4, h⟩ := bnd h
              refine t_append (g := Fix.av) rfl rfl rfl rfl rfl rfl rfl rfl (.list _) e4 (fun _ => (.next .here)) rfl (fun b17 => ?_)
              refine ARun.qv (q_assign rfl) rfl ?_
              refine ARun.nil ?_
              refine ATodo.stop ?_
              exact ImpX.lessP (by exact ⟨rfl, rfl, rfl, rfl, rfl, True.intro⟩) (.cons (.next .here) .nil) (ImpX.here ⟨b17, l16, h, rfl⟩)
            · replace h := iteF hc h
              refine ATodo.skip ?_
              refine ATodo.stop ?_
              exact ImpX.lessP (by exact ⟨rfl, rfl, rfl, rfl, rfl, True.intro⟩) (.cons (.next .here) .nil) (ImpX.here ⟨b8, l9, h, rfl⟩)
          · rintro σ' ⟨b14, l15, h, rfl⟩
            unfold place_Of_j1 at h
            refine ATodo.blk ?_
            refine ATodo.region ?_
            refine ARun.qv (q_addw rfl rfl) rfl ?_
            refine ARun.qv (q_move rfl) rfl ?_
            refine ARun.nil ?_
            refine ATodo.stop ?_
            obtain rfl := Option.some.inj h
            refine hJ1 _ _ rfl ?_
            exact ImpX.lessP (by exact ⟨rfl, rfl, rfl, rfl, rfl, True.intro⟩) (.cons .here .nil) (ImpX.here ⟨b14, rfl⟩)
        · replace h := iteF hc h
          refine ATodo.exit rfl ?_
          replace h := outL h hA1
          refine ATodo.seq ?_
          refine ATodo.region ?_
          refine ARun.qv (q_move rfl) rfl ?_
          refine ARun.qv (q_assign rfl) rfl ?_
          refine ARun.qv (q_assign rfl) rfl ?_
          refine ARun.nil ?_
          refine ATodo.ret ?_
          obtain rfl := Option.some.inj h
          exact ImpX.here ⟨_, .cons (.tmp _ _ rfl) (.cons (.tmp _ _ rfl) .nil), _, .cons .here .nil, ⟨b8, rfl, rfl⟩⟩

set_option maxHeartbeats 4000000 in
theorem Q_in_c {p0x0 : Int} {p1x0 : Int} {p2x0 : Int} {r : Bool} (h : Q_in p0x0 p1x0 p2x0 = r) : Pu Try.prog 98 [I p0x0, I p1x0, I p2x0] (.bool r) := by
  unfold Q_in at h
  refine ACall.bodyN Try.func98 rfl Try.ntmps98 Try.results98 rfl rfl ?_
  refine ATodo.seq ?_
  refine ATodo.region ?_
  refine ARun.qv (q_assign rfl) rfl ?_
  refine ARun.nil ?_
  refine ATodo.seq ?_
  refine ATodo.cut (fun σ' => ∃ (c1 : Bool), Q_in_j1 c1 = r ∧ σ' = ⟨15, [(6, .bool c1)], []⟩) ?_ ?_
  · refine ATodo.region ?_
    refine ARun.qv (q_move rfl) rfl ?_
    refine ARun.qv (q_move rfl) rfl ?_
    refine ARun.qv (q_leq rfl rfl) rfl ?_
    refine ARun.qv (q_move rfl) rfl ?_
    refine ARun.guard_dt rfl rfl rfl (fun hc => ?_) (fun hc => ?_)
    · rw [andTd hc] at h
      refine ARun.qv (q_move rfl) rfl ?_
      refine ARun.guard_yes rfl rfl rfl ?_
      refine ARun.qv (q_move rfl) rfl ?_
      refine ARun.guard_yes rfl rfl rfl ?_
      refine ARun.qv (q_leq rfl rfl) rfl ?_
      refine ARun.qv (q_pick_t rfl rfl) rfl ?_
      refine ARun.qv (q_assign rfl) rfl ?_
      refine ARun.nil ?_
      refine ATodo.stop ?_
      exact ImpX.lessP (by exact ⟨rfl, True.intro⟩) (.nil) (ImpX.here ⟨decide (p0x0 ≤ p2x0), h, rfl⟩)
    · rw [andFd hc] at h
      refine ARun.guard_no rfl rfl rfl rfl ?_
      refine ARun.guard_no rfl rfl rfl rfl ?_
      refine ARun.qv (q_pick_f rfl rfl) rfl ?_
      refine ARun.qv (q_assign rfl) rfl ?_
      refine ARun.nil ?_
      refine ATodo.stop ?_
      exact ImpX.lessP (by exact ⟨rfl, True.intro⟩) (.nil) (ImpX.here ⟨false, h, rfl⟩)
  · rintro σ' ⟨c1, h, rfl⟩
    unfold Q_in_j1 at h
    refine ATodo.ret ?_
    obtain rfl := h
    exact ImpX.here ⟨_, .cons (.tmp _ _ rfl) .nil, rfl⟩

set_option maxHeartbeats 4000000 in
theorem Q_only_c {p0x0 : Str} {p1x0 : Str} {r : Bool} (h : Q_only p0x0 p1x0 = some r) : Pu Try.prog 129 [.str p0x0, .str p1x0] (.bool r) := by
  unfold Q_only at h
  refine ACall.bodyN Try.func129 rfl Try.ntmps129 Try.results129 rfl rfl ?_
  refine ATodo.seq ?_
  refine ATodo.region ?_
  refine ARun.qv (q_assign rfl) rfl ?_
  refine ARun.nil ?_
  refine ATodo.seq ?_
  refine ATodo.seq ?_
  refine ATodo.region ?_
  refine ARun.qv (q_move rfl) rfl ?_
  refine ARun.qv (q_len_str rfl) rfl ?_
  refine ARun.qv (q_move rfl) rfl ?_
  refine ARun.nil ?_
  refine ATodo.block ?_
  refine ATodo.loopI (fun x : Int => Q_only_b1 p0x0 p1x0 x) (fun x σ' => σ' = ⟨18, [(0, .str p0x0), (1, .str p1x0), (7, I (p0x0.length : Int)), (8, I x)], []⟩) h ?_ ?_
  · exact ImpX.lessP (by exact ⟨rfl, rfl, rfl, rfl, True.intro⟩) (.nil) (ImpX.here rfl)
  · intro n2 z1 σ' J1 hmk h hJ1 hA1
    obtain rfl := hmk
    replace h : Q_only_b1 p0x0 p1x0 n2 = some z1 := h
    unfold Q_only_b1 at h
    refine ATodo.seq ?_
    refine ATodo.region ?_
    refine ARun.qv (q_lss rfl rfl) rfl ?_
    refine ARun.nil ?_
    refine ATodo.seq ?_
    refine ATodo.cond_d rfl (fun hc => ?_) (fun hc => ?_)
    · replace h := iteT hc h
      refine ATodo.skip ?_
      refine ATodo.seq ?_
      refine ATodo.block ?_
      refine ATodo.seq ?_
      refine ATodo.region ?_
      refine ARun.qv (q_move rfl) rfl ?_
      refine ARun.qv (q_assign rfl) rfl ?_
      refine ARun.nil ?_
      refine ATodo.seq ?_
      refine ATodo.region ?_
      refine ARun.qv (q_move rfl) rfl ?_
      refine ARun.qv (q_move rfl) rfl ?_
      refine ARun.qv (q_move rfl) rfl ?_
      obtain ⟨c3, e1, h⟩ := bnd h
      refine ARun.qv (t_index_str rfl rfl e1) rfl ?_
      refine r_callp rfl (strings_IndexByte_c rfl) (CoL.refl _) rfl ?_
      refine ARun.qv (q_lss rfl rfl) rfl ?_
      refine ARun.nil ?_
      refine ATodo.cond_d rfl (fun hc => ?_) (fun hc => ?_)
      · replace h := iteT hc h
        refine ATodo.seq ?_
        refine ATodo.region ?_
        refine ARun.qv (q_assign rfl) rfl ?_
        refine ARun.nil ?_
        refine ATodo.ret ?_
        replace h := outL h hA1
        obtain rfl := Option.some.inj h
        exact ImpX.here ⟨_, .cons (.tmp _ _ rfl) .nil, rfl⟩
      · replace h := iteF hc h
        refine ATodo.skip ?_
        refine ATodo.blk ?_
        refine ATodo.region ?_
        refine ARun.qv (q_addw rfl rfl) rfl ?_
        refine ARun.qv (q_move rfl) rfl ?_
        refine ARun.nil ?_
        refine ATodo.stop ?_
        obtain rfl := Option.some.inj h
        refine hJ1 _ _ rfl ?_
        exact ImpX.lessP (by exact ⟨rfl, rfl, rfl, rfl, True.intro⟩) (.nil) (ImpX.here rfl)
    · replace h := iteF hc h
      refine ATodo.exit rfl ?_
      replace h := outL h hA1
      refine ATodo.seq ?_
      refine ATodo.region ?_
      refine ARun.qv (q_assign rfl) rfl ?_
      refine ARun.nil ?_
      refine ATodo.ret ?_
      obtain rfl := Option.some.inj h
      exact ImpX.here ⟨_, .cons (.tmp _ _ rfl) .nil, rfl⟩

set_option maxHeartbeats 4000000 in
theorem Q_Key_c {p0x0 : Str} {r : Bool} (h : Q_Key p0x0 = some r) : Pu Try.prog 44 [.str p0x0] (.bool r) := by
  unfold Q_Key at h
  refine ACall.bodyN Try.func44 rfl Try.ntmps44 Try.results44 rfl rfl ?_
  refine ATodo.seq ?_
  refine ATodo.region ?_
  refine ARun.qv (q_assign rfl) rfl ?_
  refine ARun.nil ?_
  refine ATodo.seq ?_
  refine ATodo.cut (fun σ' => ∃ (c1 : Bool), Q_Key_j1 c1 = some r ∧ σ' = ⟨15, [(2, .bool c1)], []⟩) ?_ ?_
  · refine ATodo.region ?_
    refine ARun.qv (q_move rfl) rfl ?_
    refine ARun.qv (q_len_str rfl) rfl ?_
    refine r_callp rfl (Q_in_c rfl) (CoL.refl _) rfl ?_
    refine ARun.qv (q_move rfl) rfl ?_
    refine ARun.guard rfl rfl rfl (fun hc => ?_) (fun hc => ?_)
    · replace h := iteT hc h
      refine ARun.qv (q_move rfl) rfl ?_
      refine ARun.guard_yes rfl rfl rfl ?_
      obtain ⟨l2, e1, h⟩ := bnd h
      refine ARun.qv (t_slice_str rfl .none (.some _ _ _ rfl) rfl rfl e1) rfl ?_
      refine ARun.guard_yes rfl rfl rfl ?_
      obtain ⟨v3, e2, h⟩ := bnd h
      refine r_callp rfl (Q_only_c e2) (CoL.refl _) rfl ?_
      refine ARun.qv (q_pick_t rfl rfl) rfl ?_
      refine ARun.qv (q_move rfl) rfl ?_
      refine ARun.guard rfl rfl rfl (fun hc => ?_) (fun hc => ?_)
      · replace h := iteT hc h
        refine ARun.qv (q_move rfl) rfl ?_
        refine ARun.guard_yes rfl rfl rfl ?_
        obtain ⟨v4, e3, h⟩ := bnd h
        refine r_callp rfl (Q_only_c e3) (CoL.refl _) rfl ?_
        refine ARun.qv (q_pick_t rfl rfl) rfl ?_
        refine ARun.qv (q_assign rfl) rfl ?_
        refine ARun.nil ?_
        refine ATodo.stop ?_
        exact ImpX.lessP (by exact ⟨rfl, True.intro⟩) (.nil) (ImpX.here ⟨v4, h, rfl⟩)
      · replace h := iteFb hc h
        refine ARun.guard_no rfl rfl rfl rfl ?_
        refine ARun.qv (q_pick_f rfl rfl) rfl ?_
        refine ARun.qv (q_assign rfl) rfl ?_
        refine ARun.nil ?_
        refine ATodo.stop ?_
        exact ImpX.lessP (by exact ⟨rfl, True.intro⟩) (.nil) (ImpX.here ⟨false, h, rfl⟩)
    · replace h := iteFb hc h
      refine ARun.guard_no rfl rfl rfl rfl ?_
      refine ARun.guard_no rfl rfl rfl rfl ?_
      refine ARun.qv (q_pick_f rfl rfl) rfl ?_
      refine ARun.qv (q_move rfl) rfl ?_
      refine ARun.guard_no rfl rfl rfl rfl ?_
      refine ARun.guard_no rfl rfl rfl rfl ?_
      refine ARun.qv (q_pick_f rfl rfl) rfl ?_
      refine ARun.qv (q_assign rfl) rfl ?_
      refine ARun.nil ?_
      refine ATodo.stop ?_
      exact ImpX.lessP (by exact ⟨rfl, True.intro⟩) (.nil) (ImpX.here ⟨false, h, rfl⟩)
  · rintro σ' ⟨c1, h, rfl⟩
    unfold Q_Key_j1 at h
    refine ATodo.ret ?_
    obtain rfl := Option.some.inj h
    exact ImpX.here ⟨_, .cons (.tmp _ _ rfl) .nil, rfl⟩

set_option maxHeartbeats 4000000 in
theorem Q_Moment_c {p0x0 : Int} {r : Bool} (h : Q_Moment p0x0 = r) : Pu Try.prog 99 [I p0x0] (.bool r) := by
  unfold Q_Moment at h
  refine ACall.bodyN Try.func99 rfl Try.ntmps99 Try.results99 rfl rfl ?_
  refine ATodo.seq ?_
  refine ATodo.region ?_
  refine ARun.qv (q_assign rfl) rfl ?_
  refine ARun.nil ?_
  refine ATodo.seq ?_
  refine ATodo.region ?_
  refine ARun.qv (q_move rfl) rfl ?_
  refine r_callp rfl (Q_in_c rfl) (CoL.refl _) rfl ?_
  refine ARun.qv (q_assign rfl) rfl ?_
  refine ARun.nil ?_
  refine ATodo.ret ?_
  obtain rfl := h
  exact ImpX.here ⟨_, .cons (.tmp _ _ rfl) .nil, rfl⟩

set_option maxHeartbeats 4000000 in
theorem Q_spotOf_c {p0x0 : Fix} {r : Spot} (h : Q_spotOf p0x0 = r) : Pu Try.prog 100 [.agg [.str p0x0.Device, I p0x0.At, I p0x0.X, I p0x0.Y, I p0x0.Error]] (.agg [I r.X, I r.Y]) := by
  unfold Q_spotOf at h
  refine ACall.bodyN Try.func100 rfl Try.ntmps100 Try.results100 rfl rfl ?_
  refine ATodo.seq ?_
  refine ATodo.region ?_
  refine n_box rfl rfl rfl rfl (fun b1 => ?_)
  refine n_alloc rfl rfl rfl rfl (fun b2 => ?_)
  refine ARun.nil ?_
  refine ATodo.seq ?_
  refine ATodo.region ?_
  refine ARun.qv (n_field_ptr rfl rfl) rfl ?_
  refine ARun.qv (q_load_ptr rfl rfl (.next .here) rfl) rfl ?_
  refine ARun.qv (n_field_ptr rfl rfl) rfl ?_
  refine ARun.qv (q_load_ptr rfl rfl (.next .here) rfl) rfl ?_
  refine ARun.qv (n_build rfl rfl rfl rfl rfl) rfl ?_
  refine n_store_ptr rfl rfl rfl rfl .here rfl rfl ?_
  refine ARun.nil ?_
  refine ATodo.ret ?_
  obtain rfl := h
  exact ImpX.here ⟨_, .cons (.all _ _ _ _ _ _ rfl .here TUnder.h TInfo.h rfl rfl) .nil, rfl⟩

set_option maxHeartbeats 4000000 in
theorem Q_SpotFault_c {p0x0 : Spot} {r : Int} (h : Q_SpotFault p0x0 = r) : Pu Try.prog 20 [.agg [I p0x0.X, I p0x0.Y]] (I r) := by
  unfold Q_SpotFault at h
  refine ACall.bodyN Try.func20 rfl Try.ntmps20 Try.results20 rfl rfl ?_
  refine ATodo.seq ?_
  refine ATodo.region ?_
  refine n_box rfl rfl rfl rfl (fun b1 => ?_)
  refine ARun.qv (q_assign rfl) rfl ?_
  refine ARun.nil ?_
  refine ATodo.seq ?_
  refine ATodo.seq ?_
  refine ATodo.cut (fun σ' => ∃ (c2 : Bool), Q_SpotFault_j1 c2 = r ∧ σ' = ⟨13, [(12, .bool c2)], []⟩) ?_ ?_
  · refine ATodo.region ?_
    refine ARun.qv (n_field_ptr rfl rfl) rfl ?_
    refine ARun.qv (q_load_ptr rfl rfl .here rfl) rfl ?_
    refine r_callp rfl (Q_in_c rfl) (CoL.refl _) rfl ?_
    refine ARun.qv (q_not rfl) rfl ?_
    refine ARun.qv (q_move rfl) rfl ?_
    refine ARun.guard rfl rfl rfl (fun hc => ?_) (fun hc => ?_)
    · rw [orFb hc] at h
      refine ARun.qv (n_field_ptr rfl rfl) rfl ?_
      refine ARun.guard_yes rfl rfl rfl ?_
      refine ARun.qv (q_load_ptr rfl rfl .here rfl) rfl ?_
      refine ARun.guard_yes rfl rfl rfl ?_
      refine r_callp rfl (Q_in_c rfl) (CoL.refl _) rfl ?_
      refine ARun.guard_yes rfl rfl rfl ?_
      refine ARun.qv (q_not rfl) rfl ?_
      refine ARun.qv (q_pick_f rfl rfl) rfl ?_
      refine ARun.nil ?_
      refine ATodo.stop ?_
      exact ImpX.lessP (by exact ⟨rfl, True.intro⟩) (.nil) (ImpX.here ⟨!(Q_in p0x0.Y (-10000 : Int) (10000 : Int)), h, rfl⟩)
    · rw [orTb hc] at h
      refine ARun.guard_no rfl rfl rfl rfl ?_
      refine ARun.guard_no rfl rfl rfl rfl ?_
      refine ARun.guard_no rfl rfl rfl rfl ?_
      refine ARun.qv (q_pick_t rfl rfl) rfl ?_
      refine ARun.nil ?_
      refine ATodo.stop ?_
      exact ImpX.lessP (by exact ⟨rfl, True.intro⟩) (.nil) (ImpX.here ⟨true, h, rfl⟩)
  · rintro σ' ⟨c2, h, rfl⟩
    unfold Q_SpotFault_j1 at h
    refine ATodo.cond rfl (fun hc => ?_) (fun hc => ?_)
    · replace h := iteT hc h
      refine ATodo.seq ?_
      refine ATodo.region ?_
      refine ARun.qv (q_assign rfl) rfl ?_
      refine ARun.nil ?_
      refine ATodo.ret ?_
      obtain rfl := h
      exact ImpX.here ⟨_, .cons (.tmp _ _ rfl) .nil, rfl⟩
    · replace h := iteFb hc h
      refine ATodo.skip ?_
      refine ATodo.seq ?_
      refine ATodo.region ?_
      refine ARun.qv (q_assign rfl) rfl ?_
      refine ARun.nil ?_
      refine ATodo.ret ?_
      obtain rfl := h
      exact ImpX.here ⟨_, .cons (.tmp _ _ rfl) .nil, rfl⟩

set_option maxHeartbeats 4000000 in
theorem Q_FixesFault_c {p0x0 : List Fix} {r : Int} (h : Q_FixesFault p0x0 = some r) : Pu Try.prog 21 [.list 5 (p0x0.map Fix.av)] (I r) := by
  unfold Q_FixesFault at h
  refine ACall.bodyN Try.func21 rfl Try.ntmps21 Try.results21 rfl rfl ?_
  refine ATodo.seq ?_
  refine ATodo.region ?_
  refine ARun.qv (q_assign rfl) rfl ?_
  refine ARun.nil ?_
  refine ATodo.seq ?_
  refine ATodo.seq ?_
  refine ATodo.region ?_
  refine ARun.qv (q_move rfl) rfl ?_
  refine ARun.qv (t_len rfl) rfl ?_
  refine ARun.qv (q_gtr rfl rfl) rfl ?_
  refine ARun.nil ?_
  refine ATodo.cond_d rfl (fun hc => ?_) (fun hc => ?_)
  · replace h := iteT hc h
    refine ATodo.seq ?_
    refine ATodo.region ?_
    refine ARun.qv (q_assign rfl) rfl ?_
    refine ARun.nil ?_
    refine ATodo.ret ?_
    obtain rfl := Option.some.inj h
    exact ImpX.here ⟨_, .cons (.tmp _ _ rfl) .nil, rfl⟩
  · replace h := iteF hc h
    refine ATodo.skip ?_
    refine ATodo.seq ?_
    refine ATodo.seq ?_
    refine ATodo.region ?_
    refine ARun.qv (q_move rfl) rfl ?_
    refine ARun.qv (t_len rfl) rfl ?_
    refine ARun.qv (q_move rfl) rfl ?_
    refine ARun.nil ?_
    refine ATodo.block ?_
    refine ATodo.loopI (fun x : Int => Q_FixesFault_b1 p0x0 x) (fun x σ' => σ' = ⟨51, [(0, .list 5 (p0x0.map Fix.av)), (8, .list 5 (p0x0.map Fix.av)), (9, I (p0x0.length : Int)), (10, I x)], []⟩) h ?_ ?_
    · exact ImpX.lessP (by exact ⟨rfl, rfl, rfl, rfl, True.intro⟩) (.nil) (ImpX.here rfl)
    · intro n2 z1 σ' J1 hmk h hJ1 hA1
      obtain rfl := hmk
      replace h : Q_FixesFault_b1 p0x0 n2 = some z1 := h
      unfold Q_FixesFault_b1 at h
      refine ATodo.seq ?_
      refine ATodo.region ?_
      refine ARun.qv (q_lss rfl rfl) rfl ?_
      refine ARun.nil ?_
      refine ATodo.seq ?_
      refine ATodo.cond_d rfl (fun hc => ?_) (fun hc => ?_)
      · replace h := iteT hc h
        refine ATodo.skip ?_
        refine ATodo.seq ?_
        refine ATodo.block ?_
        refine ATodo.seq ?_
        refine ATodo.region ?_
        refine ARun.qv (q_move rfl) rfl ?_
        obtain ⟨v3, e1, h⟩ := bnd h
        refine ARun.qv (t_index rfl rfl rfl e1 rfl rfl) rfl ?_
        refine ARun.qv (q_load_rptr_agg rfl rfl rfl) rfl ?_
        refine n_alloc rfl rfl rfl rfl (fun b4 => ?_)
        refine ARun.qv (q_assign rfl) rfl ?_
        refine n_store_ptr rfl rfl rfl rfl .here rfl rfl ?_
        refine ARun.nil ?_
        refine ATodo.block ?_
        refine ATodo.seq ?_
        refine ATodo.region ?_
        refine ARun.qv (n_field_ptr rfl rfl) rfl ?_
        refine ARun.qv (q_load_ptr rfl rfl .here rfl) rfl ?_
        obtain ⟨v5, e2, h⟩ := bnd h
        refine r_callp rfl (Q_Key_c e2) (CoL.refl _) rfl ?_
        refine ARun.qv (q_not rfl) rfl ?_
        refine ARun.qv (q_assign rfl) rfl ?_
        refine ARun.nil ?_
        refine ATodo.cond rfl (fun hc => ?_) (fun hc => ?_)
        · replace h := iteT hc h
          refine ATodo.seq ?_
          refine ATodo.region ?_
          refine ARun.qv (q_assign rfl) rfl ?_
          refine ARun.nil ?_
          refine ATodo.ret ?_
          replace h := outL h hA1
          obtain rfl := Option.some.inj h
          exact ImpX.here ⟨_, .cons (.tmp _ _ rfl) .nil, rfl⟩
        · replace h := iteFb hc h
          refine ATodo.seq ?_
          refine ATodo.cut (fun σ' => ∃ (c6 : Bool), Q_FixesFault_j1 p0x0 n2 v3 c6 = some z1 ∧ σ' = ⟨51, [(0, .list 5 (p0x0.map Fix.av)), (3, I n2), (4, .ptr b4 0), (8, .list 5 (p0x0.map Fix.av)), (9, I (p0x0.length : Int)), (10, I n2), (20, .bool c6)], [(b4, .cells [.str v3.Device, I v3.At, I v3.X, I v3.Y, I v3.Error])]⟩) ?_ ?_
          · refine ATodo.region ?_
            refine ARun.qv (n_field_ptr rfl rfl) rfl ?_
            refine ARun.qv (q_load_ptr rfl rfl .here rfl) rfl ?_
            refine r_callp rfl (Q_Moment_c rfl) (CoL.refl _) rfl ?_
            refine ARun.qv (q_not rfl) rfl ?_
            refine ARun.qv (q_move rfl) rfl ?_
            refine ARun.guard rfl rfl rfl (fun hc => ?_) (fun hc => ?_)
            · rw [orFb hc] at h
              refine ARun.qv (q_load_ptr_all rfl rfl .here rfl) rfl ?_
              refine ARun.guard_yes rfl rfl rfl ?_
              refine r_callp rfl (Q_spotOf_c rfl) (CoL.refl _) rfl ?_
              refine ARun.guard_yes rfl rfl rfl ?_
              refine r_callp rfl (Q_SpotFault_c rfl) (CoL.refl _) rfl ?_
              refine ARun.guard_yes rfl rfl rfl ?_
              refine ARun.qv (q_neq rfl rfl) rfl ?_
              refine ARun.qv (q_pick_f rfl rfl) rfl ?_
              refine ARun.qv (q_move rfl) rfl ?_
              refine ARun.guard_df rfl rfl rfl (fun hc => ?_) (fun hc => ?_)
              · rw [orFd hc] at h
                refine ARun.qv (n_field_ptr rfl rfl) rfl ?_
                refine ARun.guard_yes rfl rfl rfl ?_
                refine ARun.qv (q_load_ptr rfl rfl .here rfl) rfl ?_
                refine ARun.guard_yes rfl rfl rfl ?_
                refine r_callp rfl (Q_in_c rfl) (CoL.refl _) rfl ?_
                refine ARun.guard_yes rfl rfl rfl ?_
                refine ARun.qv (q_not rfl) rfl ?_
                refine ARun.qv (q_pick_f rfl rfl) rfl ?_
                refine ARun.qv (q_assign rfl) rfl ?_
                refine ARun.nil ?_
                refine ATodo.stop ?_
                exact ImpX.lessP (by exact ⟨rfl, rfl, rfl, rfl, rfl, rfl, rfl, True.intro⟩) (.cons .here .nil) (ImpX.here ⟨!(Q_in v3.Error (0 : Int) (10000 : Int)), h, rfl⟩)
              · rw [orTd hc] at h
                refine ARun.guard_no rfl rfl rfl rfl ?_
                refine ARun.guard_no rfl rfl rfl rfl ?_
                refine ARun.guard_no rfl rfl rfl rfl ?_
                refine ARun.qv (q_pick_t rfl rfl) rfl ?_
                refine ARun.qv (q_assign rfl) rfl ?_
                refine ARun.nil ?_
                refine ATodo.stop ?_
                exact ImpX.lessP (by exact ⟨rfl, rfl, rfl, rfl, rfl, rfl, rfl, True.intro⟩) (.cons .here .nil) (ImpX.here ⟨true, h, rfl⟩)
            · rw [orTb hc] at h
              refine ARun.guard_no rfl rfl rfl rfl ?_
              refine ARun.guard_no rfl rfl rfl rfl ?_
              refine ARun.guard_no rfl rfl rfl rfl ?_
              refine ARun.qv (q_pick_t rfl rfl) rfl ?_
              refine ARun.qv (q_move rfl) rfl ?_
              refine ARun.guard_no rfl rfl rfl rfl ?_
              refine ARun.guard_no rfl rfl rfl rfl ?_
              refine ARun.guard_no rfl rfl rfl rfl ?_
              refine ARun.guard_no rfl rfl rfl rfl ?_
              refine ARun.qv (q_pick_t rfl rfl) rfl ?_
              refine ARun.qv (q_assign rfl) rfl ?_
              refine ARun.nil ?_
              refine ATodo.stop ?_
              exact ImpX.lessP (by exact ⟨rfl, rfl, rfl, rfl, rfl, rfl, rfl, True.intro⟩) (.cons .here .nil) (ImpX.here ⟨true, h, rfl⟩)
          · rintro σ' ⟨c6, h, rfl⟩
            unfold Q_FixesFault_j1 at h
            refine ATodo.cond rfl (fun hc => ?_) (fun hc => ?_)
            · replace h := iteT hc h
              refine ATodo.seq ?_
              refine ATodo.region ?_
              refine ARun.qv (q_assign rfl) rfl ?_
              refine ARun.nil ?_
              refine ATodo.ret ?_
              replace h := outL h hA1
              obtain rfl := Option.some.inj h
              exact ImpX.here ⟨_, .cons (.tmp _ _ rfl) .nil, rfl⟩
            · replace h := iteFb hc h
              refine ATodo.seq ?_
              refine ATodo.cut (fun σ' => ∃ (c7 : Bool), Q_FixesFault_j2 n2 c7 = some z1 ∧ σ' = ⟨51, [(0, .list 5 (p0x0.map Fix.av)), (8, .list 5 (p0x0.map Fix.av)), (9, I (p0x0.length : Int)), (10, I n2), (37, .bool c7)], []⟩) ?_ ?_
              · refine ATodo.regionM (id := 10) (A := [0, 1, 3, 7, 7, 23, 63, 127, 7, 511, 1023, 2047, 4095]) 13 mixed rfl (by kernel_rfl) (by kernel_rfl) ?_
                refine AM.qv (q_move rfl) rfl ?_
                refine AM.qv (q_gtr rfl rfl) rfl ?_
                refine AM.qv (q_move rfl) rfl ?_
                refine AM.guard_dt rfl rfl rfl (fun hc => ?_) (fun hc => ?_)
                · replace h := iteT hc h
                  refine AM.qv (q_move rfl) rfl ?_
                  refine AM.guard_yes rfl rfl rfl ?_
                  refine AM.qv (q_move rfl) rfl ?_
                  refine AM.guard_yes rfl rfl rfl ?_
                  refine AM.qv (q_subw rfl rfl) rfl ?_
                  refine AM.guard_yes rfl rfl rfl ?_
                  obtain ⟨v8, e3, h⟩ := bnd h
                  refine AM.qv (t_index rfl rfl rfl e3 rfl rfl) rfl ?_
                  refine AM.guard_yes rfl rfl rfl ?_
                  refine AM.qv (q_load_rptr_agg rfl rfl rfl) rfl ?_
                  refine AM.guard_yes rfl rfl rfl ?_
                  refine AM.qv (q_load_ptr_all rfl rfl .here rfl) rfl ?_
                  refine AM.guard_yes rfl rfl rfl ?_
                  refine AM.callp rfl (Q_FixOrder_c rfl) (CoL.refl _) rfl ?_
                  refine AM.guard_yes rfl rfl rfl ?_
                  refine AM.qv (q_geq rfl rfl) rfl ?_
                  refine AM.qv (q_pick_t rfl rfl) rfl ?_
                  refine AM.qv (q_assign rfl) rfl ?_
                  refine AM.nil ?_
                  refine ARun.nil ?_
                  refine ATodo.stop ?_
                  exact ImpX.lessP (by exact ⟨rfl, rfl, rfl, rfl, rfl, True.intro⟩) (.nil) (ImpX.here ⟨decide ((0 : Int) ≤ (Q_FixOrder v8 v3)), h, rfl⟩)
                · replace h := iteF hc h
                  refine AM.guard_no rfl rfl rfl rfl ?_
                  refine AM.guard_no rfl rfl rfl rfl ?_
                  refine AM.guard_no rfl rfl rfl rfl ?_
                  refine AM.guard_no rfl rfl rfl rfl ?_
                  refine AM.guard_no rfl rfl rfl rfl ?_
                  refine AM.guard_no rfl rfl rfl rfl ?_
                  refine AM.guard_no rfl rfl rfl rfl ?_
                  refine AM.qv (q_pick_f rfl rfl) rfl ?_
                  refine AM.qv (q_assign rfl) rfl ?_
                  refine AM.nil ?_
                  refine ARun.nil ?_
                  refine ATodo.stop ?_
                  exact ImpX.lessP (by exact ⟨rfl, rfl, rfl, rfl, rfl, True.intro⟩) (.nil) (ImpX.here ⟨false, h, rfl⟩)
              · rintro σ' ⟨c7, h, rfl⟩
                unfold Q_FixesFault_j2 at h
                refine ATodo.cond rfl (fun hc => ?_) (fun hc => ?_)
                · replace h := iteT hc h
                  refine ATodo.seq ?_
                  refine ATodo.region ?_
                  refine ARun.qv (q_assign rfl) rfl ?_
                  refine ARun.nil ?_
                  refine ATodo.ret ?_
                  replace h := outL h hA1
                  obtain rfl := Option.some.inj h
                  exact ImpX.here ⟨_, .cons (.tmp _ _ rfl) .nil, rfl⟩
                · replace h := iteFb hc h
                  refine ATodo.skip ?_
                  refine ATodo.blk ?_
                  refine ATodo.blk ?_
                  refine ATodo.region ?_
                  refine ARun.qv (q_addw rfl rfl) rfl ?_
                  refine ARun.qv (q_move rfl) rfl ?_
                  refine ARun.nil ?_
                  refine ATodo.stop ?_
                  obtain rfl := Option.some.inj h
                  refine hJ1 _ _ rfl ?_
                  exact ImpX.lessP (by exact ⟨rfl, rfl, rfl, rfl, True.intro⟩) (.nil) (ImpX.here rfl)
      · replace h := iteF hc h
        refine ATodo.exit rfl ?_
        replace h := outL h hA1
        refine ATodo.seq ?_
        refine ATodo.region ?_
        refine ARun.qv (q_assign rfl) rfl ?_
        refine ARun.nil ?_
        refine ATodo.ret ?_
        obtain rfl := Option.some.inj h
        exact ImpX.here ⟨_, .cons (.tmp _ _ rfl) .nil, rfl⟩

set_option maxHeartbeats 4000000 in
theorem L_when_c {p0x0 : Bool} {p1x0 : Int} {r : Int} (h : L_when p0x0 p1x0 = r) : Pu Try.prog 30 [.bool p0x0, I p1x0] (I r) := by
  unfold L_when at h
  refine ACall.bodyN Try.func30 rfl Try.ntmps30 Try.results30 rfl rfl ?_
  refine ATodo.seq ?_
  refine ATodo.region ?_
  refine ARun.qv (q_assign rfl) rfl ?_
  refine ARun.nil ?_
  refine ATodo.seq ?_
  refine ATodo.seq ?_
  refine ATodo.region ?_
  refine ARun.qv (q_move rfl) rfl ?_
  refine ARun.nil ?_
  refine ATodo.cond rfl (fun hc => ?_) (fun hc => ?_)
  · replace h := iteT hc h
    refine ATodo.seq ?_
    refine ATodo.region ?_
    refine ARun.qv (q_move rfl) rfl ?_
    refine ARun.qv (q_assign rfl) rfl ?_
    refine ARun.nil ?_
    refine ATodo.ret ?_
    obtain rfl := h
    exact ImpX.here ⟨_, .cons (.tmp _ _ rfl) .nil, rfl⟩
  · replace h := iteFb hc h
    refine ATodo.skip ?_
    refine ATodo.seq ?_
    refine ATodo.region ?_
    refine ARun.qv (q_assign rfl) rfl ?_
    refine ARun.nil ?_
    refine ATodo.ret ?_
    obtain rfl := h
    exact ImpX.here ⟨_, .cons (.tmp _ _ rfl) .nil, rfl⟩

set_option maxHeartbeats 4000000 in
theorem L_errs_c {p0x0 : List Int} {r : Int} (h : L_errs p0x0 = some r) : Pu Try.prog 19 [.list 1 (p0x0.map I)] (I r) := by
  unfold L_errs at h
  refine ACall.bodyN Try.func19 rfl Try.ntmps19 Try.results19 rfl rfl ?_
  refine ATodo.seq ?_
  refine ATodo.region ?_
  refine ARun.qv (q_assign rfl) rfl ?_
  refine ARun.nil ?_
  refine ATodo.seq ?_
  refine ATodo.seq ?_
  refine ATodo.region ?_
  refine ARun.qv (q_move rfl) rfl ?_
  refine ARun.qv (t_len rfl) rfl ?_
  refine ARun.qv (q_move rfl) rfl ?_
  refine ARun.nil ?_
  refine ATodo.block ?_
  refine ATodo.loopI (fun x : Int => L_errs_b1 p0x0 x) (fun x σ' => σ' = ⟨15, [(5, .list 1 (p0x0.map I)), (6, I (p0x0.length : Int)), (7, I x)], []⟩) h ?_ ?_
  · exact ImpX.lessP (by exact ⟨rfl, rfl, rfl, True.intro⟩) (.nil) (ImpX.here rfl)
  · intro n2 z1 σ' J1 hmk h hJ1 hA1
    obtain rfl := hmk
    replace h : L_errs_b1 p0x0 n2 = some z1 := h
    unfold L_errs_b1 at h
    refine ATodo.seq ?_
    refine ATodo.region ?_
    refine ARun.qv (q_lss rfl rfl) rfl ?_
    refine ARun.nil ?_
    refine ATodo.seq ?_
    refine ATodo.cond_d rfl (fun hc => ?_) (fun hc => ?_)
    · replace h := iteT hc h
      refine ATodo.skip ?_
      refine ATodo.seq ?_
      refine ATodo.block ?_
      refine ATodo.seq ?_
      refine ATodo.region ?_
      obtain ⟨v3, e1, h⟩ := bnd h
      refine ARun.qv (t_index rfl rfl rfl e1 rfl rfl) rfl ?_
      refine ARun.qv (q_load_rptr rfl rfl rfl) rfl ?_
      refine ARun.qv (q_assign rfl) rfl ?_
      refine ARun.nil ?_
      refine ATodo.seq ?_
      refine ATodo.region ?_
      refine ARun.qv (q_move rfl) rfl ?_
      refine ARun.qv (q_neq rfl rfl) rfl ?_
      refine ARun.nil ?_
      refine ATodo.cond_d rfl (fun hc => ?_) (fun hc => ?_)
      · replace h := iteT hc h
        refine ATodo.seq ?_
        refine ATodo.region ?_
        refine ARun.qv (q_move rfl) rfl ?_
        refine ARun.qv (q_assign rfl) rfl ?_
        refine ARun.nil ?_
        refine ATodo.ret ?_
        replace h := outL h hA1
        obtain rfl := Option.some.inj h
        exact ImpX.here ⟨_, .cons (.tmp _ _ rfl) .nil, rfl⟩
      · replace h := iteF hc h
        refine ATodo.skip ?_
        refine ATodo.blk ?_
        refine ATodo.region ?_
        refine ARun.qv (q_addw rfl rfl) rfl ?_
        refine ARun.qv (q_move rfl) rfl ?_
        refine ARun.nil ?_
        refine ATodo.stop ?_
        obtain rfl := Option.some.inj h
        refine hJ1 _ _ rfl ?_
        exact ImpX.lessP (by exact ⟨rfl, rfl, rfl, True.intro⟩) (.nil) (ImpX.here rfl)
    · replace h := iteF hc h
      refine ATodo.exit rfl ?_
      replace h := outL h hA1
      refine ATodo.seq ?_
      refine ATodo.region ?_
      refine ARun.qv (q_assign rfl) rfl ?_
      refine ARun.nil ?_
      refine ATodo.ret ?_
      obtain rfl := Option.some.inj h
      exact ImpX.here ⟨_, .cons (.tmp _ _ rfl) .nil, rfl⟩

set_option maxHeartbeats 4000000 in
theorem Q_FixesOf_c {p0x0 : List Fix} {p1x0 : List Fix} {r : (List Fix) × Int} (h : Q_FixesOf p0x0 p1x0 = some r) : ACall Try.prog 45 [.list 5 (p0x0.map Fix.av), .list 5 (p1x0.map Fix.av)] [] (T1 (fun d_0 => [(d_0, .arr 5 (r.1.map Fix.av))]) (fun d_0 => .tup [.sl 5 d_0 0 r.1.length, I r.2])) := by
  unfold Q_FixesOf at h
  refine ACall.lessH ?_
  refine ACall.bodyN Try.func45 rfl Try.ntmps45 Try.results45 rfl rfl ?_
  refine ATodo.seq ?_
  refine ATodo.region ?_
  refine ARun.qv (q_assign rfl) rfl ?_
  refine ARun.qv (q_assign rfl) rfl ?_
  refine ARun.nil ?_
  refine ATodo.seq ?_
  refine ATodo.region ?_
  refine ARun.qv (q_move rfl) rfl ?_
  refine ARun.qv (q_move rfl) rfl ?_
  refine n_buildSliceL (xs := ([p0x0, p1x0] : List (List Fix)).map (encL 5 Fix.av)) rfl rfl rfl rfl rfl rfl ?_
  obtain ⟨v1, e1, h⟩ := bnd h
  refine t_call1 rfl (slices_Concat_Fix_Fix_c e1) (CoL.refl _) .nil (fun _ => rfl) rfl (fun b2 => ?_)
  refine ARun.qv (q_assign rfl) rfl ?_
  refine ARun.nil ?_
  refine ATodo.seq ?_
  refine ATodo.region ?_
  refine ARun.qv (q_move rfl) rfl ?_
  obtain ⟨v3, e2, h⟩ := bnd h
  refine t_call0 rfl (slices_SortStableFunc_Fix_Fix_c (fun e => Q_FixOrder_c (Option.some.inj e)) (lenOk_f e2)) (CoL.refl _) (.cons .here .nil) rfl rfl ?_
  refine ARun.ghost (ImpX.eqs (s := 6) (av' := .sl 5 b2 0 v3.length) rfl (congrArg (AV.sl 5 b2 0) (lenOk_l e2)) (ImpX.here ?_))
  refine ARun.ghost (ImpX.eqs (s := 11) (av' := .sl 5 b2 0 v3.length) rfl (congrArg (AV.sl 5 b2 0) (lenOk_l e2)) (ImpX.here ?_))
  refine ARun.ghost (ImpX.eqs (s := 12) (av' := .sl 5 b2 0 v3.length) rfl (congrArg (AV.sl 5 b2 0) (lenOk_l e2)) (ImpX.here ?_))
  refine ARun.nil ?_
  refine ATodo.seq ?_
  refine ATodo.region ?_
  refine ARun.qv (q_move rfl) rfl ?_
  obtain ⟨v4, e3, h⟩ := bnd h
  refine t_call1 rfl (slices_Compact_Fix_Fix_c e3) (CoL.refl _) (.cons .here .nil) (fun _ => rfl) rfl (fun b5 => ?_)
  refine ARun.qv (q_assign rfl) rfl ?_
  refine ARun.nil ?_
  refine ATodo.seq ?_
  refine ATodo.seq ?_
  refine ATodo.region ?_
  refine ARun.qv (q_move rfl) rfl ?_
  refine ARun.qv (t_len_sl rfl) rfl ?_
  refine ARun.qv (q_move rfl) rfl ?_
  refine ARun.nil ?_
  refine ATodo.block ?_
  refine ATodo.loopI (fun x : Int => Q_FixesOf_b1 v4 x) (fun x σ' => σ' = ⟨41, [(6, .sl 5 b5 0 v4.length), (17, I (v4.length : Int)), (18, I x)], [(b5, .arr 5 (v4.map Fix.av))]⟩) h ?_ ?_
  · exact ImpX.lessP (by exact ⟨rfl, rfl, rfl, True.intro⟩) (.cons .here .nil) (ImpX.here rfl)
  · intro n7 z1 σ' J1 hmk h hJ1 hA1
    obtain rfl := hmk
    replace h : Q_FixesOf_b1 v4 n7 = some z1 := h
    unfold Q_FixesOf_b1 at h
    refine ATodo.seq ?_
    refine ATodo.region ?_
    refine ARun.qv (q_lss rfl rfl) rfl ?_
    refine ARun.nil ?_
    refine ATodo.seq ?_
    refine ATodo.cond_d rfl (fun hc => ?_) (fun hc => ?_)
    · replace h := iteT hc h
      refine ATodo.skip ?_
      refine ATodo.seq ?_
      refine ATodo.block ?_
      refine ATodo.seq ?_
      refine ATodo.region ?_
      refine ARun.qv (q_move rfl) rfl ?_
      refine ARun.qv (q_assign rfl) rfl ?_
      refine ARun.nil ?_
      refine ATodo.seq ?_
      refine ATodo.cut (fun σ' => ∃ (c8 : Bool), Q_FixesOf_j1 n7 c8 = some z1 ∧ σ' = ⟨41, [(6, .sl 5 b5 0 v4.length), (17, I (v4.length : Int)), (18, I n7), (35, .bool c8)], [(b5, .arr 5 (v4.map Fix.av))]⟩) ?_ ?_
      · refine ATodo.regionM (id := 7) (A := [0, 1, 3, 7, 7, 23, 63, 127, 7, 7, 775, 1799, 4095, 8191, 16383]) 15 mixed rfl (by kernel_rfl) (by kernel_rfl) ?_
        refine AM.qv (q_move rfl) rfl ?_
        refine AM.qv (q_gtr rfl rfl) rfl ?_
        refine AM.qv (q_move rfl) rfl ?_
        refine AM.guard_dt rfl rfl rfl (fun hc => ?_) (fun hc => ?_)
        · replace h := iteT hc h
          refine AM.qv (q_move rfl) rfl ?_
          refine AM.guard_yes rfl rfl rfl ?_
          refine AM.qv (q_move rfl) rfl ?_
          refine AM.guard_yes rfl rfl rfl ?_
          refine AM.qv (q_subw rfl rfl) rfl ?_
          refine AM.guard_yes rfl rfl rfl ?_
          obtain ⟨v9, e4, h⟩ := bnd h
          refine AM.qv (t_index_sl rfl rfl rfl e4) rfl ?_
          refine AM.guard_yes rfl rfl rfl ?_
          refine AM.qv (t_load_aptr_agg (g := Fix.av) rfl rfl (.inl .here) rfl e4 rfl) rfl ?_
          refine AM.guard_yes rfl rfl rfl ?_
          refine AM.qv (q_move rfl) rfl ?_
          refine AM.guard_yes rfl rfl rfl ?_
          refine AM.qv (q_move rfl) rfl ?_
          refine AM.guard_yes rfl rfl rfl ?_
          obtain ⟨v10, e5, h⟩ := bnd h
          refine AM.qv (t_index_sl rfl rfl rfl e5) rfl ?_
          refine AM.guard_yes rfl rfl rfl ?_
          refine AM.qv (t_load_aptr_agg (g := Fix.av) rfl rfl (.inl .here) rfl e5 rfl) rfl ?_
          refine AM.guard_yes rfl rfl rfl ?_
          refine AM.callp rfl (Q_FixOrder_c rfl) (CoL.refl _) rfl ?_
          refine AM.guard_yes rfl rfl rfl ?_
          refine AM.qv (q_eql rfl rfl) rfl ?_
          refine AM.qv (q_pick_t rfl rfl) rfl ?_
          refine AM.nil ?_
          refine ARun.nil ?_
          refine ATodo.stop ?_
          exact ImpX.lessP (by exact ⟨rfl, rfl, rfl, rfl, True.intro⟩) (.cons .here .nil) (ImpX.here ⟨decide ((Q_FixOrder v9 v10) = (0 : Int)), h, rfl⟩)
        · replace h := iteF hc h
          refine AM.guard_no rfl rfl rfl rfl ?_
          refine AM.guard_no rfl rfl rfl rfl ?_
          refine AM.guard_no rfl rfl rfl rfl ?_
          refine AM.guard_no rfl rfl rfl rfl ?_
          refine AM.guard_no rfl rfl rfl rfl ?_
          refine AM.guard_no rfl rfl rfl rfl ?_
          refine AM.guard_no rfl rfl rfl rfl ?_
          refine AM.guard_no rfl rfl rfl rfl ?_
          refine AM.guard_no rfl rfl rfl rfl ?_
          refine AM.guard_no rfl rfl rfl rfl ?_
          refine AM.qv (q_pick_f rfl rfl) rfl ?_
          refine AM.nil ?_
          refine ARun.nil ?_
          refine ATodo.stop ?_
          exact ImpX.lessP (by exact ⟨rfl, rfl, rfl, rfl, True.intro⟩) (.cons .here .nil) (ImpX.here ⟨false, h, rfl⟩)
      · rintro σ' ⟨c8, h, rfl⟩
        unfold Q_FixesOf_j1 at h
        refine ATodo.cond rfl (fun hc => ?_) (fun hc => ?_)
        · replace h := iteT hc h
          refine ATodo.seq ?_
          refine ATodo.region ?_
          refine ARun.qv (q_assign rfl) rfl ?_
          refine ARun.qv (q_assign rfl) rfl ?_
          refine ARun.nil ?_
          refine ATodo.ret ?_
          replace h := outL h hA1
          obtain rfl := Option.some.inj h
          refine ImpX.arr (s := 4) 5 rfl (fun b11 => ?_)
          exact ImpX.here ⟨_, .cons (.tmp _ _ rfl) (.cons (.tmp _ _ rfl) .nil), _, .cons .here .nil, ⟨b11, rfl, rfl⟩⟩
        · replace h := iteFb hc h
          refine ATodo.skip ?_
          refine ATodo.blk ?_
          refine ATodo.region ?_
          refine ARun.qv (q_addw rfl rfl) rfl ?_
          refine ARun.qv (q_move rfl) rfl ?_
          refine ARun.nil ?_
          refine ATodo.stop ?_
          obtain rfl := Option.some.inj h
          refine hJ1 _ _ rfl ?_
          exact ImpX.lessP (by exact ⟨rfl, rfl, rfl, True.intro⟩) (.cons .here .nil) (ImpX.here rfl)
    · replace h := iteF hc h
      refine ATodo.exit rfl ?_
      replace h := outL h hA1
      unfold Q_FixesOf_k2 at h
      refine ATodo.seq ?_
      refine ATodo.seq ?_
      refine ATodo.region ?_
      refine ARun.qv (q_move rfl) rfl ?_
      refine ARun.qv (t_len_sl rfl) rfl ?_
      refine ARun.qv (q_gtr rfl rfl) rfl ?_
      refine ARun.nil ?_
      refine ATodo.cond_d rfl (fun hc => ?_) (fun hc => ?_)
      · replace h := iteT hc h
        refine ATodo.seq ?_
        refine ATodo.region ?_
        refine ARun.qv (q_assign rfl) rfl ?_
        refine ARun.qv (q_assign rfl) rfl ?_
        refine ARun.nil ?_
        refine ATodo.ret ?_
        obtain rfl := Option.some.inj h
        refine ImpX.arr (s := 4) 5 rfl (fun b12 => ?_)
        exact ImpX.here ⟨_, .cons (.tmp _ _ rfl) (.cons (.tmp _ _ rfl) .nil), _, .cons .here .nil, ⟨b12, rfl, rfl⟩⟩
      · replace h := iteF hc h
        refine ATodo.skip ?_
        refine ATodo.seq ?_
        refine ATodo.region ?_
        refine ARun.qv (q_move rfl) rfl ?_
        refine ARun.qv (q_assign rfl) rfl ?_
        refine ARun.qv (q_assign rfl) rfl ?_
        refine ARun.nil ?_
        refine ATodo.ret ?_
        obtain rfl := Option.some.inj h
        exact ImpX.here ⟨_, .cons (.tmp _ _ rfl) (.cons (.tmp _ _ rfl) .nil), _, .cons .here .nil, ⟨b5, rfl, rfl⟩⟩

set_option maxHeartbeats 4000000 in
theorem L_FixesMerge_1x_c {p0x0 : Fix} {p1x0 : Str} {r : Bool} (h : L_FixesMerge_1x p0x0 p1x0 = r) : Pu Try.prog 47 [.agg [.str p0x0.Device, I p0x0.At, I p0x0.X, I p0x0.Y, I p0x0.Error], .rptr [.str p1x0]] (.bool r) := by
  unfold L_FixesMerge_1x at h
  refine ACall.bodyN Try.func47 rfl Try.ntmps47 Try.results47 rfl rfl ?_
  refine ATodo.seq ?_
  refine ATodo.region ?_
  refine n_box rfl rfl rfl rfl (fun b1 => ?_)
  refine ARun.qv (q_assign rfl) rfl ?_
  refine ARun.nil ?_
  refine ATodo.seq ?_
  refine ATodo.region ?_
  refine ARun.qv (n_field_ptr rfl rfl) rfl ?_
  refine ARun.qv (q_load_ptr rfl rfl .here rfl) rfl ?_
  refine ARun.qv (q_load_rptr rfl rfl rfl) rfl ?_
  refine ARun.qv (q_sne rfl rfl) rfl ?_
  refine ARun.qv (q_assign rfl) rfl ?_
  refine ARun.nil ?_
  refine ATodo.ret ?_
  obtain rfl := h
  exact ImpX.here ⟨_, .cons (.tmp _ _ rfl) .nil, rfl⟩

set_option maxHeartbeats 4000000 in
theorem slices_IndexFunc_Fix_Fix_c {p0x0 : List Fix} {fnb : Fix → Option Bool} {fnb_F : FuncId} [IsFn Try.prog fnb_F] {fnb_C : List AV} (fnb_h : ∀ {y0 : _} {u : Bool}, fnb y0 = some u → Pu Try.prog fnb_F (.agg [.str y0.Device, I y0.At, I y0.X, I y0.Y, I y0.Error] ::  fnb_C) (.bool u)) {r : Int} (h : slices_IndexFunc_Fix_Fix p0x0 fnb = some r) : Pu Try.prog 115 [.list 5 (p0x0.map Fix.av), .func (.func fnb_F) fnb_C] (I r) := by
  unfold slices_IndexFunc_Fix_Fix at h
  refine ACall.bodyN Try.func115 rfl Try.ntmps115 Try.results115 rfl rfl ?_
  refine ATodo.seq ?_
  refine ATodo.region ?_
  refine ARun.qv (q_assign rfl) rfl ?_
  refine ARun.nil ?_
  refine ATodo.seq ?_
  refine ATodo.seq ?_
  refine ATodo.region ?_
  refine ARun.qv (q_move rfl) rfl ?_
  refine ARun.qv (t_len rfl) rfl ?_
  refine ARun.qv (q_move rfl) rfl ?_
  refine ARun.nil ?_
  refine ATodo.block ?_
  refine ATodo.loopI (fun x : Int => slices_IndexFunc_Fix_Fix_b1 p0x0 fnb x) (fun x σ' => σ' = ⟨19, [(0, .list 5 (p0x0.map Fix.av)), (1, .func (.func fnb_F) fnb_C), (7, I (p0x0.length : Int)), (8, I x)], []⟩) h ?_ ?_
  · exact ImpX.lessP (by exact ⟨rfl, rfl, rfl, rfl, True.intro⟩) (.nil) (ImpX.here rfl)
  · intro n2 z1 σ' J1 hmk h hJ1 hA1
    obtain rfl := hmk
    replace h : slices_IndexFunc_Fix_Fix_b1 p0x0 fnb n2 = some z1 := h
    unfold slices_IndexFunc_Fix_Fix_b1 at h
    refine ATodo.seq ?_
    refine ATodo.region ?_
    refine ARun.qv (q_lss rfl rfl) rfl ?_
    refine ARun.nil ?_
    refine ATodo.seq ?_
    refine ATodo.cond_d rfl (fun hc => ?_) (fun hc => ?_)
    · replace h := iteT hc h
      refine ATodo.skip ?_
      refine ATodo.seq ?_
      refine ATodo.block ?_
      refine ATodo.seq ?_
      refine ATodo.region ?_
      refine ARun.qv (q_move rfl) rfl ?_
      refine ARun.qv (q_assign rfl) rfl ?_
      refine ARun.nil ?_
      refine ATodo.seq ?_
      refine ATodo.region ?_
      refine ARun.qv (q_move rfl) rfl ?_
      refine ARun.qv (q_move rfl) rfl ?_
      refine ARun.qv (q_move rfl) rfl ?_
      obtain ⟨v3, e1, h⟩ := bnd h
      refine ARun.qv (t_index rfl rfl rfl e1 rfl rfl) rfl ?_
      refine ARun.qv (q_load_rptr_agg rfl rfl rfl) rfl ?_
      obtain ⟨v4, e2, h⟩ := bnd h
      refine r_callvp rfl rfl (fnb_h e2) (CoL.refl _) rfl ?_
      refine ARun.nil ?_
      refine ATodo.cond rfl (fun hc => ?_) (fun hc => ?_)
      · replace h := iteT hc h
        refine ATodo.seq ?_
        refine ATodo.region ?_
        refine ARun.qv (q_move rfl) rfl ?_
        refine ARun.qv (q_assign rfl) rfl ?_
        refine ARun.nil ?_
        refine ATodo.ret ?_
        replace h := outL h hA1
        obtain rfl := Option.some.inj h
        exact ImpX.here ⟨_, .cons (.tmp _ _ rfl) .nil, rfl⟩
      · replace h := iteFb hc h
        refine ATodo.skip ?_
        refine ATodo.blk ?_
        refine ATodo.region ?_
        refine ARun.qv (q_addw rfl rfl) rfl ?_
        refine ARun.qv (q_move rfl) rfl ?_
        refine ARun.nil ?_
        refine ATodo.stop ?_
        obtain rfl := Option.some.inj h
        refine hJ1 _ _ rfl ?_
        exact ImpX.lessP (by exact ⟨rfl, rfl, rfl, rfl, True.intro⟩) (.nil) (ImpX.here rfl)
    · replace h := iteF hc h
      refine ATodo.exit rfl ?_
      replace h := outL h hA1
      refine ATodo.seq ?_
      refine ATodo.region ?_
      refine ARun.qv (q_assign rfl) rfl ?_
      refine ARun.nil ?_
      refine ATodo.ret ?_
      obtain rfl := Option.some.inj h
      exact ImpX.here ⟨_, .cons (.tmp _ _ rfl) .nil, rfl⟩

set_option maxHeartbeats 4000000 in
theorem slices_DeleteFunc_Fix_Fix_c {b_0 : Bk} {p0x0 : List Fix} {fnb : Fix → Option Bool} {fnb_F : FuncId} [IsFn Try.prog fnb_F] {fnb_C : List AV} (fnb_h : ∀ {y0 : _} {u : Bool}, fnb y0 = some u → Pu Try.prog fnb_F (.agg [.str y0.Device, I y0.At, I y0.X, I y0.Y, I y0.Error] ::  fnb_C) (.bool u)) {r : (List Fix)} (h : slices_DeleteFunc_Fix_Fix p0x0 fnb = some r) : ACall Try.prog 46 [.sl 5 b_0 0 p0x0.length, .func (.func fnb_F) fnb_C] [(b_0, .arr 5 (p0x0.map Fix.av))] (T1 (fun d_0 => [(d_0, .arr 5 (r.map Fix.av))]) (fun d_0 => .sl 5 d_0 0 r.length)) := by
  unfold slices_DeleteFunc_Fix_Fix at h
  refine ACall.lessH ?_
  refine ACall.bodyN Try.func46 rfl Try.ntmps46 Try.results46 rfl rfl ?_
  refine ATodo.seq ?_
  refine ATodo.region ?_
  refine ARun.qv (q_assign rfl) rfl ?_
  refine ARun.nil ?_
  refine ATodo.seq ?_
  refine ATodo.region ?_
  refine ARun.qv (q_move rfl) rfl ?_
  refine ARun.qv (q_move rfl) rfl ?_
  obtain ⟨v1, e1, h⟩ := bnd h
  refine r_callpB rfl (slices_IndexFunc_Fix_Fix_c fnb_h e1) (.cons (CoB.arrT .here) (.cons (.co (.refl _)) .nil)) rfl rfl ?_
  refine ARun.qv (q_assign rfl) rfl ?_
  refine ARun.nil ?_
  refine ATodo.seq ?_
  refine ATodo.seq ?_
  refine ATodo.region ?_
  refine ARun.qv (q_move rfl) rfl ?_
  refine ARun.qv (q_eql rfl rfl) rfl ?_
  refine ARun.nil ?_
  refine ATodo.cond_d rfl (fun hc => ?_) (fun hc => ?_)
  · replace h := iteT hc h
    refine ATodo.seq ?_
    refine ATodo.region ?_
    refine ARun.qv (q_move rfl) rfl ?_
    refine ARun.qv (q_assign rfl) rfl ?_
    refine ARun.nil ?_
    refine ATodo.ret ?_
    obtain rfl := Option.some.inj h
    exact ImpX.here ⟨_, .cons (.tmp _ _ rfl) .nil, _, .cons .here .nil, ⟨b_0, rfl, rfl⟩⟩
  · replace h := iteF hc h
    refine ATodo.skip ?_
    refine ATodo.seq ?_
    refine ATodo.seq ?_
    refine ATodo.region ?_
    refine ARun.qv (q_move rfl) rfl ?_
    refine ARun.qv (q_addw rfl rfl) rfl ?_
    refine ARun.qv (q_assign rfl) rfl ?_
    refine ARun.nil ?_
    refine ATodo.block ?_
    refine ATodo.loopI (fun x : (List Fix) × Int × Int => slices_DeleteFunc_Fix_Fix_b1 fnb x.1 x.2.1 x.2.2) (fun x σ' => σ' = ⟨42, [(0, .sl 5 b_0 0 x.1.length), (1, .func (.func fnb_F) fnb_C), (5, I x.2.1), (6, I x.2.2)], [(b_0, .arr 5 (x.1.map Fix.av))]⟩) h ?_ ?_
    · exact ImpX.lessP (by exact ⟨rfl, rfl, rfl, rfl, True.intro⟩) (.cons .here .nil) (ImpX.here rfl)
    · intro x z1 σ' J1 hmk h hJ1 hA1
      obtain ⟨l5, n6, n7⟩ := x
      obtain rfl := hmk
      replace h : slices_DeleteFunc_Fix_Fix_b1 fnb l5 n6 n7 = some z1 := h
      unfold slices_DeleteFunc_Fix_Fix_b1 at h
      refine ATodo.seq ?_
      refine ATodo.seq ?_
      refine ATodo.region ?_
      refine ARun.qv (q_move rfl) rfl ?_
      refine ARun.qv (q_move rfl) rfl ?_
      refine ARun.qv (t_len_sl rfl) rfl ?_
      refine ARun.qv (q_lss rfl rfl) rfl ?_
      refine ARun.nil ?_
      refine ATodo.cond_d rfl (fun hc => ?_) (fun hc => ?_)
      · replace h := iteT hc h
        refine ATodo.skip ?_
        refine ATodo.seq ?_
        refine ATodo.block ?_
        refine ATodo.seq ?_
        refine ATodo.region ?_
        refine ARun.qv (q_move rfl) rfl ?_
        refine ARun.qv (q_move rfl) rfl ?_
        obtain ⟨v8, e2, h⟩ := bnd h
        refine ARun.qv (t_index_sl rfl rfl rfl e2) rfl ?_
        refine ARun.qv (t_load_aptr_agg (g := Fix.av) rfl rfl (.inl .here) rfl e2 rfl) rfl ?_
        refine n_alloc rfl rfl rfl rfl (fun b9 => ?_)
        refine n_store_ptr rfl rfl rfl rfl .here rfl rfl ?_
        refine ARun.nil ?_
        refine ATodo.seq ?_
        refine ATodo.region ?_
        refine ARun.qv (q_move rfl) rfl ?_
        refine ARun.qv (q_load_ptr_all rfl rfl .here rfl) rfl ?_
        obtain ⟨v10, e3, h⟩ := bnd h
        refine r_callvp rfl rfl (fnb_h e3) (CoL.refl _) rfl ?_
        refine ARun.qv (q_not rfl) rfl ?_
        refine ARun.nil ?_
        refine ATodo.cut (fun σ' => ∃ (l11 : List Fix) (n12 : Int), slices_DeleteFunc_Fix_Fix_j1 n7 l11 n12 = some z1 ∧ σ' = ⟨42, [(0, .sl 5 b_0 0 l11.length), (1, .func (.func fnb_F) fnb_C), (5, I n12), (6, I n7)], [(b_0, .arr 5 (l11.map Fix.av))]⟩) ?_ ?_
        · refine ATodo.cond rfl (fun hc => ?_) (fun hc => ?_)
          · replace h := iteT hc h
            refine ATodo.seq ?_
            refine ATodo.region ?_
            refine ARun.qv (q_move rfl) rfl ?_
            refine ARun.qv (q_move rfl) rfl ?_
            refine ARun.qv (q_load_ptr_all rfl rfl .here rfl) rfl ?_
            obtain ⟨v13, e4, h⟩ := bnd h
            refine ARun.qv (t_index_sl rfl rfl rfl e4) rfl ?_
            refine t_store_aptr1 (g := Fix.av) (el' := v8) rfl rfl rfl rfl e4 rfl (.next .here) rfl ?_
            refine ARun.ghost (ImpX.eqs (s := 0) (av' := .sl 5 b_0 0 (l5.set n6.toNat v8).length) rfl (by rw [List.length_set]) (ImpX.here ?_))
            refine ARun.ghost (ImpX.eqs (s := 17) (av' := .sl 5 b_0 0 (l5.set n6.toNat v8).length) rfl (by rw [List.length_set]) (ImpX.here ?_))
            refine ARun.ghost (ImpX.eqs (s := 22) (av' := .sl 5 b_0 0 (l5.set n6.toNat v8).length) rfl (by rw [List.length_set]) (ImpX.here ?_))
            refine ARun.ghost (ImpX.eqs (s := 30) (av' := .sl 5 b_0 0 (l5.set n6.toNat v8).length) rfl (by rw [List.length_set]) (ImpX.here ?_))
            refine ARun.nil ?_
            refine ATodo.region ?_
            refine ARun.qv (q_move rfl) rfl ?_
            refine ARun.qv (q_addw rfl rfl) rfl ?_
            refine ARun.qv (q_assign rfl) rfl ?_
            refine ARun.nil ?_
            refine ATodo.stop ?_
            exact ImpX.lessP (by exact ⟨rfl, rfl, rfl, rfl, True.intro⟩) (.cons (.next .here) .nil) (ImpX.here ⟨l5.set n6.toNat v8, w64 (n6 + (1 : Int)), h, rfl⟩)
          · replace h := iteFb hc h
            refine ATodo.skip ?_
            refine ATodo.stop ?_
            exact ImpX.lessP (by exact ⟨rfl, rfl, rfl, rfl, True.intro⟩) (.cons (.next .here) .nil) (ImpX.here ⟨l5, n6, h, rfl⟩)
        · rintro σ' ⟨l11, n12, h, rfl⟩
          unfold slices_DeleteFunc_Fix_Fix_j1 at h
          refine ATodo.blk ?_
          refine ATodo.region ?_
          refine ARun.qv (q_move rfl) rfl ?_
          refine ARun.qv (q_addw rfl rfl) rfl ?_
          refine ARun.qv (q_assign rfl) rfl ?_
          refine ARun.nil ?_
          refine ATodo.stop ?_
          obtain rfl := Option.some.inj h
          refine hJ1 _ _ rfl ?_
          exact ImpX.lessP (by exact ⟨rfl, rfl, rfl, rfl, True.intro⟩) (.cons .here .nil) (ImpX.here rfl)
      · replace h := iteF hc h
        refine ATodo.exit rfl ?_
        replace h := outL h hA1
        unfold slices_DeleteFunc_Fix_Fix_k2 at h
        refine ATodo.seq ?_
        refine ATodo.region ?_
        refine ARun.qv (q_move rfl) rfl ?_
        refine ARun.qv (q_move rfl) rfl ?_
        obtain ⟨l14, e5, h⟩ := bnd h
        refine ARun.qv (t_slice_sl rfl rfl (.some _ _ _ rfl) .none rfl rfl e5) rfl ?_
        refine t_clear (g := Fix.av) (Z := (⟨[], (0 : Int), (0 : Int), (0 : Int), (0 : Int)⟩ : Fix)) (L := n6) rfl rfl rfl rfl rfl rfl e5 .here ?_
        refine ARun.ghost (ImpX.eqs (s := 0) (av' := .sl 5 b_0 0 (clr l5 n6 l14.length (⟨[], (0 : Int), (0 : Int), (0 : Int), (0 : Int)⟩ : Fix)).length) rfl (congrArg (AV.sl 5 b_0 0) (clr_len e5)) (ImpX.here ?_))
        refine ARun.ghost (ImpX.eqs (s := 17) (av' := .sl 5 b_0 0 (clr l5 n6 l14.length (⟨[], (0 : Int), (0 : Int), (0 : Int), (0 : Int)⟩ : Fix)).length) rfl (congrArg (AV.sl 5 b_0 0) (clr_len e5)) (ImpX.here ?_))
        refine ARun.ghost (ImpX.eqs (s := 36) (av' := .sl 5 b_0 0 (clr l5 n6 l14.length (⟨[], (0 : Int), (0 : Int), (0 : Int), (0 : Int)⟩ : Fix)).length) rfl (congrArg (AV.sl 5 b_0 0) (clr_len e5)) (ImpX.here ?_))
        refine ARun.nil ?_
        refine ATodo.seq ?_
        refine ATodo.region ?_
        refine ARun.qv (q_move rfl) rfl ?_
        refine ARun.qv (q_move rfl) rfl ?_
        obtain ⟨l15, e6, h⟩ := bnd h
        refine ARun.qv (t_slice_sl rfl rfl .none (.some _ _ _ rfl) rfl rfl e6) rfl ?_
        refine ARun.qv (q_assign rfl) rfl ?_
        refine ARun.ghost (ImpX.takeT e6 .here (ImpX.here ?_))
        refine ARun.nil ?_
        refine ATodo.ret ?_
        obtain rfl := Option.some.inj h
        exact ImpX.here ⟨_, .cons (.tmp _ _ rfl) .nil, _, .cons .here .nil, ⟨b_0, rfl, rfl⟩⟩

set_option maxHeartbeats 4000000 in
theorem slices_Equal_Fix_Fix_c {p0x0 : List Fix} {p1x0 : List Fix} {r : Bool} (h : slices_Equal_Fix_Fix p0x0 p1x0 = some r) : Pu Try.prog 48 [.list 5 (p0x0.map Fix.av), .list 5 (p1x0.map Fix.av)] (.bool r) := by
  unfold slices_Equal_Fix_Fix at h
  refine ACall.bodyN Try.func48 rfl Try.ntmps48 Try.results48 rfl rfl ?_
  refine ATodo.seq ?_
  refine ATodo.region ?_
  refine ARun.qv (q_assign rfl) rfl ?_
  refine ARun.nil ?_
  refine ATodo.seq ?_
  refine ATodo.seq ?_
  refine ATodo.region ?_
  refine ARun.qv (q_move rfl) rfl ?_
  refine ARun.qv (t_len rfl) rfl ?_
  refine ARun.qv (q_move rfl) rfl ?_
  refine ARun.qv (t_len rfl) rfl ?_
  refine ARun.qv (q_neq rfl rfl) rfl ?_
  refine ARun.nil ?_
  refine ATodo.cond_d rfl (fun hc => ?_) (fun hc => ?_)
  · replace h := iteT hc h
    refine ATodo.seq ?_
    refine ATodo.region ?_
    refine ARun.qv (q_assign rfl) rfl ?_
    refine ARun.nil ?_
    refine ATodo.ret ?_
    obtain rfl := Option.some.inj h
    exact ImpX.here ⟨_, .cons (.tmp _ _ rfl) .nil, rfl⟩
  · replace h := iteF hc h
    refine ATodo.skip ?_
    refine ATodo.seq ?_
    refine ATodo.seq ?_
    refine ATodo.region ?_
    refine ARun.qv (q_move rfl) rfl ?_
    refine ARun.qv (t_len rfl) rfl ?_
    refine ARun.qv (q_move rfl) rfl ?_
    refine ARun.nil ?_
    refine ATodo.block ?_
    refine ATodo.loopI (fun x : Int => slices_Equal_Fix_Fix_b1 p0x0 p1x0 x) (fun x σ' => σ' = ⟨26, [(0, .list 5 (p0x0.map Fix.av)), (1, .list 5 (p1x0.map Fix.av)), (12, I (p0x0.length : Int)), (13, I x)], []⟩) h ?_ ?_
    · exact ImpX.lessP (by exact ⟨rfl, rfl, rfl, rfl, True.intro⟩) (.nil) (ImpX.here rfl)
    · intro n2 z1 σ' J1 hmk h hJ1 hA1
      obtain rfl := hmk
      replace h : slices_Equal_Fix_Fix_b1 p0x0 p1x0 n2 = some z1 := h
      unfold slices_Equal_Fix_Fix_b1 at h
      refine ATodo.seq ?_
      refine ATodo.region ?_
      refine ARun.qv (q_lss rfl rfl) rfl ?_
      refine ARun.nil ?_
      refine ATodo.seq ?_
      refine ATodo.cond_d rfl (fun hc => ?_) (fun hc => ?_)
      · replace h := iteT hc h
        refine ATodo.skip ?_
        refine ATodo.seq ?_
        refine ATodo.block ?_
        refine ATodo.seq ?_
        refine ATodo.region ?_
        refine ARun.qv (q_move rfl) rfl ?_
        refine ARun.qv (q_assign rfl) rfl ?_
        refine ARun.nil ?_
        refine ATodo.seq ?_
        refine ATodo.regionM (id := 6) (A := [0, 0, 3, 7, 0, 0, 48, 112, 255]) 9 mixed rfl (by kernel_rfl) (by kernel_rfl) ?_
        refine AM.qv (q_move rfl) rfl ?_
        refine AM.qv (q_move rfl) rfl ?_
        obtain ⟨v3, e1, h⟩ := bnd h
        refine AM.qv (t_index rfl rfl rfl e1 rfl rfl) rfl ?_
        refine AM.qv (q_load_rptr_agg rfl rfl rfl) rfl ?_
        refine AM.qv (q_move rfl) rfl ?_
        refine AM.qv (q_move rfl) rfl ?_
        obtain ⟨v4, e2, h⟩ := bnd h
        refine AM.qv (t_index rfl rfl rfl e2 rfl rfl) rfl ?_
        refine AM.qv (q_load_rptr_agg rfl rfl rfl) rfl ?_
        refine AM.qv (t_tne (g := Fix.av) (X := v3) (Y := v4) rfl rfl rfl rfl rfl) rfl ?_
        refine AM.nil ?_
        refine ARun.nil ?_
        refine ATodo.cond_d rfl (fun hc => ?_) (fun hc => ?_)
        · replace h := iteT hc h
          refine ATodo.seq ?_
          refine ATodo.region ?_
          refine ARun.qv (q_assign rfl) rfl ?_
          refine ARun.nil ?_
          refine ATodo.ret ?_
          replace h := outL h hA1
          obtain rfl := Option.some.inj h
          exact ImpX.here ⟨_, .cons (.tmp _ _ rfl) .nil, rfl⟩
        · replace h := iteF hc h
          refine ATodo.skip ?_
          refine ATodo.blk ?_
          refine ATodo.region ?_
          refine ARun.qv (q_addw rfl rfl) rfl ?_
          refine ARun.qv (q_move rfl) rfl ?_
          refine ARun.nil ?_
          refine ATodo.stop ?_
          obtain rfl := Option.some.inj h
          refine hJ1 _ _ rfl ?_
          exact ImpX.lessP (by exact ⟨rfl, rfl, rfl, rfl, True.intro⟩) (.nil) (ImpX.here rfl)
      · replace h := iteF hc h
        refine ATodo.exit rfl ?_
        replace h := outL h hA1
        refine ATodo.seq ?_
        refine ATodo.region ?_
        refine ARun.qv (q_assign rfl) rfl ?_
        refine ARun.nil ?_
        refine ATodo.ret ?_
        obtain rfl := Option.some.inj h
        exact ImpX.here ⟨_, .cons (.tmp _ _ rfl) .nil, rfl⟩

set_option maxHeartbeats 4000000 in
theorem place_Cell_c {p0x0 : Spot} {p1x0 : Int} {r : Str × Int} (h : place_Cell p0x0 p1x0 = some r) : Pu Try.prog 106 [.agg [I p0x0.X, I p0x0.Y], I p1x0] (.tup [.str r.1, I r.2]) := by
  unfold place_Cell at h
  refine ACall.bodyN Try.func106 rfl Try.ntmps106 Try.results106 rfl rfl ?_
  refine ATodo.seq ?_
  refine ATodo.region ?_
  refine n_box rfl rfl rfl rfl (fun b1 => ?_)
  refine ARun.qv (q_assign rfl) rfl ?_
  refine ARun.qv (q_assign rfl) rfl ?_
  refine ARun.nil ?_
  refine ATodo.seq ?_
  refine ATodo.seq ?_
  refine ATodo.cut (fun σ' => ∃ (c2 : Bool), place_Cell_j1 p0x0 p1x0 c2 = some r ∧ σ' = ⟨47, [(1, I p1x0), (2, .ptr b1 0), (16, .bool c2)], [(b1, .cells [I p0x0.X, I p0x0.Y])]⟩) ?_ ?_
  · refine ATodo.region ?_
    refine ARun.qv (q_load_ptr_all rfl rfl .here rfl) rfl ?_
    refine r_callp rfl (place_isSpot_c rfl) (CoL.refl _) rfl ?_
    refine ARun.qv (q_not rfl) rfl ?_
    refine ARun.qv (q_move rfl) rfl ?_
    refine ARun.guard rfl rfl rfl (fun hc => ?_) (fun hc => ?_)
    · rw [orFb hc] at h
      refine ARun.qv (q_move rfl) rfl ?_
      refine ARun.guard_yes rfl rfl rfl ?_
      refine r_callp rfl (base_Out_c rfl) (CoL.refl _) rfl ?_
      refine ARun.qv (q_pick_f rfl rfl) rfl ?_
      refine ARun.nil ?_
      refine ATodo.stop ?_
      exact ImpX.lessP (by exact ⟨rfl, rfl, rfl, True.intro⟩) (.cons .here .nil) (ImpX.here ⟨(base_Out p1x0 (0 : Int) (15 : Int)), h, rfl⟩)
    · rw [orTb hc] at h
      refine ARun.guard_no rfl rfl rfl rfl ?_
      refine ARun.qv (q_pick_t rfl rfl) rfl ?_
      refine ARun.nil ?_
      refine ATodo.stop ?_
      exact ImpX.lessP (by exact ⟨rfl, rfl, rfl, True.intro⟩) (.cons .here .nil) (ImpX.here ⟨true, h, rfl⟩)
  · rintro σ' ⟨c2, h, rfl⟩
    unfold place_Cell_j1 at h
    refine ATodo.cond rfl (fun hc => ?_) (fun hc => ?_)
    · replace h := iteT hc h
      refine ATodo.seq ?_
      refine ATodo.region ?_
      refine ARun.qv (q_assign rfl) rfl ?_
      refine ARun.qv (q_assign rfl) rfl ?_
      refine ARun.nil ?_
      refine ATodo.ret ?_
      obtain rfl := Option.some.inj h
      exact ImpX.here ⟨_, .cons (.tmp _ _ rfl) (.cons (.tmp _ _ rfl) .nil), rfl⟩
    · replace h := iteFb hc h
      refine ATodo.skip ?_
      refine ATodo.seq ?_
      refine ATodo.region ?_
      refine ARun.qv (q_assign rfl) rfl ?_
      refine ARun.nil ?_
      refine ATodo.seq ?_
      refine ATodo.regionM (id := 4) (A := [0, 1, 3, 0, 8, 24, 7, 127, 255]) 9 mixed rfl (by kernel_rfl) (by kernel_rfl) ?_
      refine AM.qv (n_field_ptr rfl rfl) rfl ?_
      refine AM.qv (q_load_ptr rfl rfl .here rfl) rfl ?_
      refine AM.qv (q_subw rfl rfl) rfl ?_
      refine AM.qv (n_field_ptr rfl rfl) rfl ?_
      refine AM.qv (q_load_ptr rfl rfl .here rfl) rfl ?_
      refine AM.qv (q_subw rfl rfl) rfl ?_
      refine AM.qv (q_assign rfl) rfl ?_
      refine AM.qv (q_assign rfl) rfl ?_
      refine AM.qv (q_assign rfl) rfl ?_
      refine AM.nil ?_
      refine ARun.nil ?_
      refine ATodo.seq ?_
      refine ATodo.seq ?_
      refine ATodo.region ?_
      refine ARun.qv (q_move rfl) rfl ?_
      refine ARun.qv (q_move rfl) rfl ?_
      refine ARun.nil ?_
      refine ATodo.block ?_
      refine ATodo.loopI (fun x : (List Int) × Int × Int => place_Cell_b1 p0x0 p1x0 x.1 x.2.1 x.2.2) (fun x σ' => ∃ (b7 : Bk), σ' = ⟨47, [(6, .sl 1 b7 0 x.1.length), (7, I (w64 (p0x0.X - (-16384 : Int)))), (8, I (w64 (p0x0.Y - (-16384 : Int)))), (9, I x.2.1), (23, I p1x0), (24, I x.2.2)], [(b7, .arr 1 (x.1.map (AV.int .u8)))]⟩) h ?_ ?_
      · refine ImpX.arr (s := 6) 1 rfl (fun b11 => ?_)
        exact ImpX.lessP (by exact ⟨rfl, rfl, rfl, rfl, rfl, rfl, True.intro⟩) (.cons .here .nil) (ImpX.here ⟨b11, rfl⟩)
      · intro x z1 σ' J1 hmk h hJ1 hA1
        obtain ⟨l8, n9, n10⟩ := x
        obtain ⟨b7, rfl⟩ := hmk
        replace h : place_Cell_b1 p0x0 p1x0 l8 n9 n10 = some z1 := h
        unfold place_Cell_b1 at h
        refine ATodo.seq ?_
        refine ATodo.region ?_
        refine ARun.qv (q_lss rfl rfl) rfl ?_
        refine ARun.nil ?_
        refine ATodo.seq ?_
        refine ATodo.cond_d rfl (fun hc => ?_) (fun hc => ?_)
        · replace h := iteT hc h
          refine ATodo.skip ?_
          refine ATodo.seq ?_
          refine ATodo.block ?_
          refine ATodo.seq ?_
          refine ATodo.region ?_
          refine ARun.qv (q_move rfl) rfl ?_
          refine ARun.qv (t_quo rfl rfl (by decide)) rfl ?_
          refine ARun.qv (q_assign rfl) rfl ?_
          refine ARun.nil ?_
          refine ATodo.regionM (id := 8) (A := [0, 0, 0, 6, 14, 30, 62, 0, 0, 384, 896, 1920, 3968, 8190, 16382, 32767, 65535]) 15 mixed rfl (by kernel_rfl) (by kernel_rfl) ?_
          refine AM.qv (q_move rfl) rfl ?_
          refine AM.qv (q_move rfl) rfl ?_
          refine AM.qv (q_move rfl) rfl ?_
          obtain ⟨n12, e1, h⟩ := bnd h
          refine AM.qv (t_quoS rfl rfl e1) rfl ?_
          refine AM.qv (q_rem rfl rfl (by decide)) rfl ?_
          refine AM.qv (q_conv_int rfl) rfl ?_
          refine AM.qv (q_addw rfl rfl) rfl ?_
          refine AM.qv (q_move rfl) rfl ?_
          refine AM.qv (q_move rfl) rfl ?_
          obtain ⟨n13, e2, h⟩ := bnd h
          refine AM.qv (t_quoS rfl rfl e2) rfl ?_
          refine AM.qv (q_rem rfl rfl (by decide)) rfl ?_
          refine AM.qv (q_conv_int rfl) rfl ?_
          refine AM.qv (q_mulw rfl rfl) rfl ?_
          refine AM.qv (q_addw rfl rfl) rfl ?_
          refine AM.buildSliceL (xs := ([IntKind.u8.wrap ((IntKind.u8.wrap ((48 : Int) + (IntKind.u8.wrap (n12.tmod (2 : Int))))) + (IntKind.u8.wrap ((2 : Int) * (IntKind.u8.wrap (n13.tmod (2 : Int))))))]).map (AV.int .u8)) rfl rfl rfl rfl rfl rfl ?_
          refine AM.nil ?_
          obtain ⟨l14, e3, h⟩ := bnd h
          refine t_append (g := (AV.int .u8)) rfl rfl rfl rfl rfl rfl rfl rfl (.list _) e3 (fun _ => .here) rfl (fun b15 => ?_)
          refine ARun.qv (q_assign rfl) rfl ?_
          refine ARun.nil ?_
          refine ATodo.blk ?_
          refine ATodo.region ?_
          refine ARun.qv (q_addw rfl rfl) rfl ?_
          refine ARun.qv (q_move rfl) rfl ?_
          refine ARun.nil ?_
          refine ATodo.stop ?_
          obtain rfl := Option.some.inj h
          refine hJ1 _ _ rfl ?_
          exact ImpX.lessP (by exact ⟨rfl, rfl, rfl, rfl, rfl, rfl, True.intro⟩) (.cons .here .nil) (ImpX.here ⟨b15, rfl⟩)
        · replace h := iteF hc h
          refine ATodo.exit rfl ?_
          replace h := outL h hA1
          refine ATodo.seq ?_
          refine ATodo.region ?_
          refine ARun.qv (q_move rfl) rfl ?_
          refine ARun.qv (q_conv_bs rfl (CoB.arrT .here)) rfl ?_
          refine ARun.qv (q_assign rfl) rfl ?_
          refine ARun.qv (q_assign rfl) rfl ?_
          refine ARun.nil ?_
          refine ATodo.ret ?_
          obtain rfl := Option.some.inj h
          exact ImpX.here ⟨_, .cons (.tmp _ _ rfl) (.cons (.tmp _ _ rfl) .nil), rfl⟩

set_option maxHeartbeats 4000000 in
theorem L_placed_c {r : Bool} (h : L_placed = some r) : Pu Try.prog 24 [] (.bool r) := by
  unfold L_placed at h
  refine ACall.bodyN Try.func24 rfl Try.ntmps24 Try.results24 rfl rfl ?_
  refine ATodo.seq ?_
  refine ATodo.region ?_
  refine ARun.qv (q_assign rfl) rfl ?_
  refine ARun.nil ?_
  refine ATodo.seq ?_
  refine ATodo.region ?_
  refine ARun.qv (n_build rfl rfl rfl rfl rfl) rfl ?_
  obtain ⟨v1, e1, h⟩ := bnd h
  refine r_callp rfl (place_Cell_c e1) (CoL.refl _) rfl ?_
  refine ARun.qv (q_move rfl) rfl ?_
  refine ARun.qv (q_extract rfl rfl) rfl ?_
  refine ARun.qv (q_extract rfl rfl) rfl ?_
  refine ARun.qv (q_assign rfl) rfl ?_
  refine ARun.qv (q_assign rfl) rfl ?_
  refine ARun.nil ?_
  refine ATodo.seq ?_
  refine ATodo.cut (fun σ' => ∃ (c2 : Bool), L_placed_j1 c2 = some r ∧ σ' = ⟨14, [(0, .bool c2)], []⟩) ?_ ?_
  · refine ATodo.region ?_
    refine ARun.qv (q_move rfl) rfl ?_
    refine ARun.qv (q_eql rfl rfl) rfl ?_
    refine ARun.qv (q_move rfl) rfl ?_
    refine ARun.guard_dt rfl rfl rfl (fun hc => ?_) (fun hc => ?_)
    · rw [andTd hc] at h
      refine ARun.qv (q_move rfl) rfl ?_
      refine ARun.guard_yes rfl rfl rfl ?_
      refine ARun.qv (q_seq rfl rfl) rfl ?_
      refine ARun.qv (q_pick_t rfl rfl) rfl ?_
      refine ARun.qv (q_assign rfl) rfl ?_
      refine ARun.nil ?_
      refine ATodo.stop ?_
      exact ImpX.lessP (by exact ⟨rfl, True.intro⟩) (.nil) (ImpX.here ⟨decide (v1.1 = ([51] : Str)), h, rfl⟩)
    · rw [andFd hc] at h
      refine ARun.guard_no rfl rfl rfl rfl ?_
      refine ARun.qv (q_pick_f rfl rfl) rfl ?_
      refine ARun.qv (q_assign rfl) rfl ?_
      refine ARun.nil ?_
      refine ATodo.stop ?_
      exact ImpX.lessP (by exact ⟨rfl, True.intro⟩) (.nil) (ImpX.here ⟨false, h, rfl⟩)
  · rintro σ' ⟨c2, h, rfl⟩
    unfold L_placed_j1 at h
    refine ATodo.ret ?_
    obtain rfl := Option.some.inj h
    exact ImpX.here ⟨_, .cons (.tmp _ _ rfl) .nil, rfl⟩

set_option maxHeartbeats 4000000 in
theorem L_FixesMerge_c {p0x0 : List Int} {r : Bool} (h : L_FixesMerge p0x0 = some r) : Pu Try.prog 5 [.list 1 (p0x0.map I)] (.bool r) := by
  unfold L_FixesMerge at h
  refine ACall.bodyN Try.func5 rfl Try.ntmps5 Try.results5 rfl rfl ?_
  refine ATodo.seq ?_
  refine ATodo.region ?_
  refine ARun.qv (q_assign rfl) rfl ?_
  refine ARun.nil ?_
  refine ATodo.seq ?_
  refine ATodo.region ?_
  refine ARun.qv (q_move rfl) rfl ?_
  refine ARun.qv (n_build rfl rfl rfl rfl rfl) rfl ?_
  refine n_box rfl rfl rfl rfl (fun b1 => ?_)
  refine ARun.qv (q_assign rfl) rfl ?_
  refine ARun.nil ?_
  refine ATodo.seq ?_
  refine ATodo.region ?_
  refine ARun.qv (q_move rfl) rfl ?_
  refine ARun.qv (q_move rfl) rfl ?_
  obtain ⟨v2, e1, h⟩ := bnd h
  refine t_call0 rfl (Stream_Range_c e1) (CoL.refl _) (.cons .here .nil) rfl rfl ?_
  obtain ⟨v3, e2, h⟩ := bnd h
  refine t_call1 rfl (Stream_Fixes_c e2) (CoL.refl _) (.cons .here .nil) (fun _ => rfl) rfl (fun b4 => ?_)
  refine ARun.qv (q_move rfl) rfl ?_
  refine ARun.qv (q_move rfl) rfl ?_
  obtain ⟨v5, e3, h⟩ := bnd h
  refine t_call0 rfl (Stream_Range_c e3) (CoL.refl _) (.cons .here .nil) rfl rfl ?_
  obtain ⟨v6, e4, h⟩ := bnd h
  refine t_call1 rfl (Stream_Fixes_c e4) (CoL.refl _) (.cons .here .nil) (fun _ => rfl) rfl (fun b7 => ?_)
  refine ARun.qv (q_move rfl) rfl ?_
  refine n_buildSliceL (xs := ([([100] : Str), ([101] : Str), ([120] : Str), ([] : Str), ([65] : Str)]).map AV.str) rfl rfl rfl rfl rfl rfl ?_
  obtain ⟨v8, e5, h⟩ := bnd h
  refine t_call0 rfl (Stream_Some_c e5) (CoL.refl _) (.cons .here .nil) rfl rfl ?_
  refine n_alloc rfl rfl rfl rfl (fun b9 => ?_)
  refine ARun.qv (q_assign rfl) rfl ?_
  refine ARun.qv (q_assign rfl) rfl ?_
  refine n_store_ptr rfl rfl rfl rfl .here rfl rfl ?_
  refine ARun.nil ?_
  refine ATodo.seq ?_
  refine ATodo.seq ?_
  refine ATodo.cut (fun σ' => ∃ (l10 : List Int) (n11 : Int) (c12 : Bool), L_FixesMerge_j1 v3 v6 v8 l10 n11 c12 = some r ∧ σ' = ⟨108, [(3, .ptr b1 0), (4, .sl 5 b4 0 v3.1.length), (5, .sl 5 b7 0 v6.1.length), (6, .ptr b9 0), (35, .bool c12)], [(b1, .cells [.list 1 (l10.map I), I n11]), (b4, .arr 5 (v3.1.map Fix.av)), (b7, .arr 5 (v6.1.map Fix.av)), (b9, .cells [.str v8.1])]⟩) ?_ ?_
  · refine ATodo.region ?_
    refine ARun.qv (q_move rfl) rfl ?_
    refine ARun.qv (t_len_sl rfl) rfl ?_
    refine ARun.qv (q_gtr rfl rfl) rfl ?_
    refine ARun.qv (q_move rfl) rfl ?_
    refine ARun.guard_dt rfl rfl rfl (fun hc => ?_) (fun hc => ?_)
    · replace h := iteT hc h
      refine ARun.qv (q_move rfl) rfl ?_
      refine ARun.guard_yes rfl rfl rfl ?_
      obtain ⟨v13, e6, h⟩ := bnd h
      refine t_call0 rfl (Stream_Flip_c e6) (CoL.refl _) (.cons (.next .here) .nil) rfl rfl ?_
      refine ARun.qv (q_pick_t rfl rfl) rfl ?_
      refine ARun.nil ?_
      refine ATodo.stop ?_
      exact ImpX.lessP (by exact ⟨rfl, rfl, rfl, rfl, rfl, True.intro⟩) (.cons .here (.cons (.next (.next .here)) (.cons (.next .here) (.cons .here .nil)))) (ImpX.here ⟨v13.2.L, v13.2.at_, v13.1, h, rfl⟩)
    · replace h := iteF hc h
      refine ARun.guard_no rfl rfl rfl rfl ?_
      refine ARun.qv (q_pick_f rfl rfl) rfl ?_
      refine ARun.nil ?_
      refine ATodo.stop ?_
      exact ImpX.lessP (by exact ⟨rfl, rfl, rfl, rfl, rfl, True.intro⟩) (.cons (.next .here) (.cons (.next (.next .here)) (.cons (.next .here) (.cons .here .nil)))) (ImpX.here ⟨v8.2.L, v8.2.at_, false, h, rfl⟩)
  · rintro σ' ⟨l10, n11, c12, h, rfl⟩
    unfold L_FixesMerge_j1 at h
    refine ATodo.cut (fun σ' => ∃ (b14 : Bk) (l15 : List Fix), L_FixesMerge_j2 v3 v8 l15 = some r ∧ σ' = ⟨108, [(4, .sl 5 b4 0 v3.1.length), (5, .sl 5 b14 0 l15.length), (6, .ptr b9 0)], [(b4, .fro 5 (v3.1.map Fix.av)), (b14, .arr 5 (l15.map Fix.av)), (b9, .cells [.str v8.1])]⟩) ?_ ?_
    · refine ATodo.cond rfl (fun hc => ?_) (fun hc => ?_)
      · replace h := iteT hc h
        refine ATodo.region ?_
        refine ARun.qv (q_move rfl) rfl ?_
        refine ARun.qv (q_move rfl) rfl ?_
        refine ARun.qv (q_move rfl) rfl ?_
        refine ARun.qv (t_len_sl rfl) rfl ?_
        obtain ⟨v16, e7, h⟩ := bnd h
        refine t_call0 rfl (Stream_Next_c e7) (CoL.refl _) (.cons .here .nil) rfl rfl ?_
        obtain ⟨l17, e8, h⟩ := bnd h
        refine ARun.qv (t_slice_sl rfl rfl (.some _ _ _ rfl) .none rfl rfl e8) rfl ?_
        obtain ⟨v18, e9, h⟩ := bnd h
        refine ARun.ghost (ImpX.freeze (.next .here) (ImpX.here ?_))
        refine t_call1 rfl (slices_Clone_Fix_Fix_c e9) (.cons (Co.partT e8 (.next .here)) .nil) .nil (fun _ => rfl) rfl (fun b19 => ?_)
        refine ARun.qv (q_assign rfl) rfl ?_
        refine ARun.nil ?_
        refine ATodo.stop ?_
        exact ImpX.lessP (by exact ⟨rfl, rfl, rfl, True.intro⟩) (.cons (.next (.next .here)) (.cons .here (.cons (.next (.next .here)) .nil))) (ImpX.here ⟨b19, v18, h, rfl⟩)
      · replace h := iteFb hc h
        refine ATodo.skip ?_
        refine ATodo.stop ?_
        refine ImpX.freeze (.next .here) ?_
        exact ImpX.lessP (by exact ⟨rfl, rfl, rfl, True.intro⟩) (.cons (.next .here) (.cons (.next .here) (.cons (.next .here) .nil))) (ImpX.here ⟨b7, v6.1, h, rfl⟩)
    · rintro σ' ⟨b14, l15, h, rfl⟩
      unfold L_FixesMerge_j2 at h
      refine ATodo.seq ?_
      refine ATodo.region ?_
      refine ARun.qv (q_move rfl) rfl ?_
      refine ARun.qv (q_move rfl) rfl ?_
      obtain ⟨v20, e10, h⟩ := bnd h
      refine ARun.ghost (ImpX.freeze (.next .here) (ImpX.here ?_))
      refine t_call1 rfl (place_Merge_c e10) (.cons (Co.froT .here) (.cons (Co.froT (.next .here)) .nil)) .nil (fun _ => rfl) rfl (fun b21 => ?_)
      refine ARun.qv (q_move rfl) rfl ?_
      refine ARun.qv (q_extract rfl rfl) rfl ?_
      refine ARun.qv (q_extract rfl rfl) rfl ?_
      refine ARun.qv (q_assign rfl) rfl ?_
      refine ARun.qv (q_assign rfl) rfl ?_
      refine ARun.nil ?_
      refine ATodo.seq ?_
      refine ATodo.region ?_
      refine ARun.qv (q_move rfl) rfl ?_
      refine ARun.qv (q_load_ptr rfl rfl (.next (.next (.next .here))) rfl) rfl ?_
      obtain ⟨v22, e11, h⟩ := bnd h
      refine t_call1 rfl (place_Of_c e11) (.cons (Co.froT (.next .here)) (.cons (.refl _) .nil)) .nil (fun _ => rfl) rfl (fun b23 => ?_)
      refine ARun.qv (q_move rfl) rfl ?_
      refine ARun.qv (q_extract rfl rfl) rfl ?_
      refine ARun.qv (q_extract rfl rfl) rfl ?_
      refine ARun.qv (q_assign rfl) rfl ?_
      refine ARun.qv (q_assign rfl) rfl ?_
      refine ARun.nil ?_
      refine ATodo.seq ?_
      refine ATodo.region ?_
      refine ARun.qv (q_move rfl) rfl ?_
      obtain ⟨v24, e12, h⟩ := bnd h
      refine r_callp rfl (Q_FixesFault_c e12) (.cons (Co.froT (.next (.next .here))) .nil) rfl ?_
      refine ARun.qv (q_assign rfl) rfl ?_
      refine ARun.nil ?_
      refine ATodo.seq ?_
      refine ATodo.seq ?_
      refine ATodo.region ?_
      refine ARun.qv (q_move rfl) rfl ?_
      obtain ⟨v25, e13, h⟩ := bnd h
      refine r_callp rfl (place_CheckFixes_c e13) (.cons (Co.froT (.next (.next .here))) .nil) rfl ?_
      refine ARun.qv (q_move rfl) rfl ?_
      refine ARun.qv (q_neq rfl rfl) rfl ?_
      refine ARun.nil ?_
      refine ATodo.cond_d rfl (fun hc => ?_) (fun hc => ?_)
      · replace h := iteT hc h
        refine ATodo.seq ?_
        refine ATodo.region ?_
        refine ARun.qv (q_assign rfl) rfl ?_
        refine ARun.nil ?_
        refine ATodo.ret ?_
        obtain rfl := Option.some.inj h
        exact ImpX.here ⟨_, .cons (.tmp _ _ rfl) .nil, rfl⟩
      · replace h := iteF hc h
        refine ATodo.skip ?_
        refine ATodo.seq ?_
        refine ATodo.region ?_
        refine ARun.qv (q_move rfl) rfl ?_
        refine ARun.qv (q_load_ptr rfl rfl (.next (.next (.next (.next .here)))) rfl) rfl ?_
        obtain ⟨v26, e14, h⟩ := bnd h
        refine r_callp rfl (Q_Key_c e14) (CoL.refl _) rfl ?_
        refine ARun.qv (q_not rfl) rfl ?_
        refine r_callp rfl (L_when_c rfl) (CoL.refl _) rfl ?_
        refine n_buildSliceL (xs := ([v24, (L_when (!v26) (5 : Int))]).map I) rfl rfl rfl rfl rfl rfl ?_
        obtain ⟨v27, e15, h⟩ := bnd h
        refine r_callp rfl (L_errs_c e15) (CoL.refl _) rfl ?_
        refine ARun.qv (q_assign rfl) rfl ?_
        refine ARun.nil ?_
        refine ATodo.seq ?_
        refine ATodo.region ?_
        refine ARun.qv (q_assign rfl) rfl ?_
        refine ARun.qv (q_assign rfl) rfl ?_
        refine ARun.nil ?_
        refine ATodo.seq ?_
        refine ATodo.seq ?_
        refine ATodo.region ?_
        refine ARun.qv (q_move rfl) rfl ?_
        refine ARun.qv (q_move rfl) rfl ?_
        obtain ⟨v28, e16, h⟩ := bnd h
        refine r_callp rfl (Q_FixesFault_c e16) (.cons (Co.froT (.next (.next (.next .here)))) .nil) rfl ?_
        refine n_buildSliceL (xs := ([v24, v28] : List Int).map I) rfl rfl rfl rfl rfl rfl ?_
        obtain ⟨v29, e17, h⟩ := bnd h
        refine r_callp rfl (L_errs_c e17) (CoL.refl _) rfl ?_
        refine ARun.qv (q_assign rfl) rfl ?_
        refine ARun.nil ?_
        refine ATodo.seq ?_
        refine ATodo.region ?_
        refine ARun.qv (q_move rfl) rfl ?_
        refine ARun.qv (q_eql rfl rfl) rfl ?_
        refine ARun.nil ?_
        refine ATodo.cut (fun σ' => ∃ (b31 : Bk) (n30 : Int) (l32 : List Fix), L_FixesMerge_j3 v3 v8 v20 v22 v27 n30 l32 = some r ∧ σ' = ⟨108, [(4, .sl 5 b4 0 v3.1.length), (6, .ptr b9 0), (7, .sl 5 b21 0 v20.1.length), (8, I v20.2), (9, .sl 5 b23 0 v22.1.length), (10, I v22.2), (11, I n30), (12, I v27), (13, .sl 5 b31 0 l32.length), (14, .nil)], [(b4, .fro 5 (v3.1.map Fix.av)), (b9, .cells [.str v8.1]), (b21, .arr 5 (v20.1.map Fix.av)), (b23, .arr 5 (v22.1.map Fix.av)), (b31, .arr 5 (l32.map Fix.av))]⟩) ?_ ?_
        · refine ATodo.cond_d rfl (fun hc => ?_) (fun hc => ?_)
          · replace h := iteT hc h
            refine ATodo.region ?_
            refine ARun.qv (q_move rfl) rfl ?_
            refine ARun.qv (q_move rfl) rfl ?_
            obtain ⟨v33, e18, h⟩ := bnd h
            refine t_call1 rfl (Q_FixesOf_c e18) (.cons (Co.froT (.next (.next .here))) (.cons (Co.froT (.next (.next (.next .here)))) .nil)) .nil (fun _ => rfl) rfl (fun b34 => ?_)
            refine ARun.qv (q_move rfl) rfl ?_
            refine ARun.qv (q_extract rfl rfl) rfl ?_
            refine ARun.qv (q_extract rfl rfl) rfl ?_
            refine ARun.qv (q_assign rfl) rfl ?_
            refine ARun.qv (q_assign rfl) rfl ?_
            refine ARun.nil ?_
            refine ATodo.stop ?_
            exact ImpX.lessP (by exact ⟨rfl, rfl, rfl, rfl, rfl, rfl, rfl, rfl, rfl, rfl, True.intro⟩) (.cons (.next (.next (.next .here))) (.cons (.next (.next (.next (.next .here)))) (.cons (.next (.next .here)) (.cons (.next .here) (.cons .here .nil))))) (ImpX.here ⟨b34, v33.2, v33.1, h, rfl⟩)
          · replace h := iteF hc h
            refine ATodo.skip ?_
            refine ATodo.stop ?_
            refine ImpX.arr (s := 13) 5 rfl (fun b35 => ?_)
            exact ImpX.lessP (by exact ⟨rfl, rfl, rfl, rfl, rfl, rfl, rfl, rfl, rfl, rfl, True.intro⟩) (.cons (.next (.next (.next .here))) (.cons (.next (.next (.next (.next .here)))) (.cons (.next (.next .here)) (.cons (.next .here) (.cons .here .nil))))) (ImpX.here ⟨b35, v29, [], h, rfl⟩)
        · rintro σ' ⟨b31, n30, l32, h, rfl⟩
          unfold L_FixesMerge_j3 at h
          refine ATodo.seq ?_
          refine ATodo.seq ?_
          refine ATodo.region ?_
          refine ARun.qv (q_move rfl) rfl ?_
          refine ARun.qv (q_eql rfl rfl) rfl ?_
          refine ARun.nil ?_
          refine ATodo.cut (fun σ' => ∃ (b36 : Bk) (l37 : List Fix), L_FixesMerge_j4 v20 v22 v27 n30 l32 l37 = some r ∧ σ' = ⟨108, [(7, .sl 5 b21 0 v20.1.length), (8, I v20.2), (9, .sl 5 b23 0 v22.1.length), (10, I v22.2), (11, I n30), (12, I v27), (13, .sl 5 b31 0 l32.length), (14, .sl 5 b36 0 l37.length)], [(b21, .arr 5 (v20.1.map Fix.av)), (b23, .arr 5 (v22.1.map Fix.av)), (b31, .arr 5 (l32.map Fix.av)), (b36, .arr 5 (l37.map Fix.av))]⟩) ?_ ?_
          · refine ATodo.cond_d rfl (fun hc => ?_) (fun hc => ?_)
            · replace h := iteT hc h
              refine ATodo.region ?_
              refine ARun.qv (q_move rfl) rfl ?_
              obtain ⟨v38, e19, h⟩ := bnd h
              refine t_call1 rfl (slices_Clone_Fix_Fix_c e19) (.cons (Co.froT .here) .nil) .nil (fun _ => rfl) rfl (fun b39 => ?_)
              refine ARun.qv (q_makeFunc rfl) rfl ?_
              obtain ⟨v40, e20, h⟩ := bnd h
              refine t_callL1 rfl (slices_DeleteFunc_Fix_Fix_c (fun e => L_FixesMerge_1x_c (Option.some.inj e)) e20) (.cons .here .nil) (.cons (.co (.refl _)) (.cons (.funcL _ _ _ (.cons (.boxL _ _ _ (.next .here) (.cons (.co (.refl _)) .nil)) .nil)) .nil)) (fun _ => rfl) (fun _ => rfl) (fun _ => (.cons (NoS.arrT (fun _ => rfl)) .nil)) rfl (fun b41 => ?_)
              refine ARun.qv (q_assign rfl) rfl ?_
              refine ARun.nil ?_
              refine ATodo.stop ?_
              exact ImpX.lessP (by exact ⟨rfl, rfl, rfl, rfl, rfl, rfl, rfl, rfl, True.intro⟩) (.cons (.next (.next (.next .here))) (.cons (.next (.next (.next .here))) (.cons (.next (.next (.next .here))) (.cons .here .nil)))) (ImpX.here ⟨b41, v40, h, rfl⟩)
            · replace h := iteF hc h
              refine ATodo.skip ?_
              refine ATodo.stop ?_
              refine ImpX.arr (s := 14) 5 rfl (fun b42 => ?_)
              exact ImpX.lessP (by exact ⟨rfl, rfl, rfl, rfl, rfl, rfl, rfl, rfl, True.intro⟩) (.cons (.next (.next (.next .here))) (.cons (.next (.next (.next .here))) (.cons (.next (.next (.next .here))) (.cons .here .nil)))) (ImpX.here ⟨b42, [], h, rfl⟩)
          · rintro σ' ⟨b36, l37, h, rfl⟩
            unfold L_FixesMerge_j4 at h
            refine ATodo.seq ?_
            refine ATodo.cut (fun σ' => ∃ (c43 : Bool), L_FixesMerge_j5 c43 = some r ∧ σ' = ⟨108, [(2, .bool c43)], []⟩) ?_ ?_
            · refine ATodo.region ?_
              refine ARun.qv (q_move rfl) rfl ?_
              refine ARun.qv (q_move rfl) rfl ?_
              refine ARun.qv (q_eql rfl rfl) rfl ?_
              refine ARun.qv (q_move rfl) rfl ?_
              refine ARun.guard_dt rfl rfl rfl (fun hc => ?_) (fun hc => ?_)
              · replace h := iteT hc h
                refine ARun.qv (q_move rfl) rfl ?_
                refine ARun.guard_yes rfl rfl rfl ?_
                refine ARun.qv (q_move rfl) rfl ?_
                refine ARun.guard_yes rfl rfl rfl ?_
                obtain ⟨v44, e21, h⟩ := bnd h
                refine r_callpB rfl (slices_Equal_Fix_Fix_c e21) (.cons (CoB.arrT .here) (.cons (CoB.arrT (.next (.next .here))) .nil)) rfl rfl ?_
                refine ARun.qv (q_pick_t rfl rfl) rfl ?_
                refine ARun.qv (q_move rfl) rfl ?_
                refine ARun.guard rfl rfl rfl (fun hc => ?_) (fun hc => ?_)
                · replace h := iteT hc h
                  refine ARun.qv (q_move rfl) rfl ?_
                  refine ARun.guard_yes rfl rfl rfl ?_
                  refine ARun.qv (q_move rfl) rfl ?_
                  refine ARun.guard_yes rfl rfl rfl ?_
                  refine ARun.qv (q_eql rfl rfl) rfl ?_
                  refine ARun.qv (q_pick_t rfl rfl) rfl ?_
                  refine ARun.qv (q_move rfl) rfl ?_
                  refine ARun.guard_dt rfl rfl rfl (fun hc => ?_) (fun hc => ?_)
                  · replace h := iteT hc h
                    refine ARun.qv (q_move rfl) rfl ?_
                    refine ARun.guard_yes rfl rfl rfl ?_
                    refine ARun.qv (q_move rfl) rfl ?_
                    refine ARun.guard_yes rfl rfl rfl ?_
                    obtain ⟨v45, e22, h⟩ := bnd h
                    refine r_callpB rfl (slices_Equal_Fix_Fix_c e22) (.cons (CoB.arrT (.next .here)) (.cons (CoB.arrT (.next (.next (.next .here)))) .nil)) rfl rfl ?_
                    refine ARun.qv (q_pick_t rfl rfl) rfl ?_
                    refine ARun.qv (q_move rfl) rfl ?_
                    refine ARun.guard rfl rfl rfl (fun hc => ?_) (fun hc => ?_)
                    · replace h := iteT hc h
                      obtain ⟨v46, e23, h⟩ := bnd h
                      refine r_callp rfl (L_placed_c e23) (CoL.refl _) rfl ?_
                      refine ARun.qv (q_pick_t rfl rfl) rfl ?_
                      refine ARun.qv (q_assign rfl) rfl ?_
                      refine ARun.nil ?_
                      refine ATodo.stop ?_
                      exact ImpX.lessP (by exact ⟨rfl, True.intro⟩) (.nil) (ImpX.here ⟨v46, h, rfl⟩)
                    · replace h := iteFb hc h
                      refine ARun.qv (q_pick_f rfl rfl) rfl ?_
                      refine ARun.qv (q_assign rfl) rfl ?_
                      refine ARun.nil ?_
                      refine ATodo.stop ?_
                      exact ImpX.lessP (by exact ⟨rfl, True.intro⟩) (.nil) (ImpX.here ⟨false, h, rfl⟩)
                  · replace h := iteF hc h
                    refine ARun.guard_no rfl rfl rfl rfl ?_
                    refine ARun.guard_no rfl rfl rfl rfl ?_
                    refine ARun.qv (q_pick_f rfl rfl) rfl ?_
                    refine ARun.qv (q_move rfl) rfl ?_
                    refine ARun.guard_no rfl rfl rfl rfl ?_
                    refine ARun.qv (q_pick_f rfl rfl) rfl ?_
                    refine ARun.qv (q_assign rfl) rfl ?_
                    refine ARun.nil ?_
                    refine ATodo.stop ?_
                    exact ImpX.lessP (by exact ⟨rfl, True.intro⟩) (.nil) (ImpX.here ⟨false, h, rfl⟩)
                · replace h := iteFb hc h
                  refine ARun.guard_no rfl rfl rfl rfl ?_
                  refine ARun.guard_no rfl rfl rfl rfl ?_
                  refine ARun.qv (q_pick_f rfl rfl) rfl ?_
                  refine ARun.qv (q_move rfl) rfl ?_
                  refine ARun.guard_no rfl rfl rfl rfl ?_
                  refine ARun.guard_no rfl rfl rfl rfl ?_
                  refine ARun.guard_no rfl rfl rfl rfl ?_
                  refine ARun.qv (q_pick_f rfl rfl) rfl ?_
                  refine ARun.qv (q_move rfl) rfl ?_
                  refine ARun.guard_no rfl rfl rfl rfl ?_
                  refine ARun.qv (q_pick_f rfl rfl) rfl ?_
                  refine ARun.qv (q_assign rfl) rfl ?_
                  refine ARun.nil ?_
                  refine ATodo.stop ?_
                  exact ImpX.lessP (by exact ⟨rfl, True.intro⟩) (.nil) (ImpX.here ⟨false, h, rfl⟩)
              · replace h := iteF hc h
                refine ARun.guard_no rfl rfl rfl rfl ?_
                refine ARun.guard_no rfl rfl rfl rfl ?_
                refine ARun.qv (q_pick_f rfl rfl) rfl ?_
                refine ARun.qv (q_move rfl) rfl ?_
                refine ARun.guard_no rfl rfl rfl rfl ?_
                refine ARun.guard_no rfl rfl rfl rfl ?_
                refine ARun.guard_no rfl rfl rfl rfl ?_
                refine ARun.qv (q_pick_f rfl rfl) rfl ?_
                refine ARun.qv (q_move rfl) rfl ?_
                refine ARun.guard_no rfl rfl rfl rfl ?_
                refine ARun.guard_no rfl rfl rfl rfl ?_
                refine ARun.guard_no rfl rfl rfl rfl ?_
                refine ARun.qv (q_pick_f rfl rfl) rfl ?_
                refine ARun.qv (q_move rfl) rfl ?_
                refine ARun.guard_no rfl rfl rfl rfl ?_
                refine ARun.qv (q_pick_f rfl rfl) rfl ?_
                refine ARun.qv (q_assign rfl) rfl ?_
                refine ARun.nil ?_
                refine ATodo.stop ?_
                exact ImpX.lessP (by exact ⟨rfl, True.intro⟩) (.nil) (ImpX.here ⟨false, h, rfl⟩)
            · rintro σ' ⟨c43, h, rfl⟩
              unfold L_FixesMerge_j5 at h
              refine ATodo.ret ?_
              obtain rfl := Option.some.inj h
              exact ImpX.here ⟨_, .cons (.tmp _ _ rfl) .nil, rfl⟩

end Go.Proofs.Ytnnljbpmkcefaaa
