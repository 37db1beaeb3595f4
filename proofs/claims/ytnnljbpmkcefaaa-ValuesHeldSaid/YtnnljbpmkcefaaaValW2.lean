/- The code computes the plain functions: proofs written by shal.py. -/
import Derived.Test.YtnnljbpmkcefaaaValW1
set_option maxRecDepth 100000
set_option linter.unusedVariables false
set_option linter.unusedSimpArgs false
namespace Go.Proofs.Ytnnljbpmkcefaaa
open Go Go.Eng Go.Proofs Go.Beacon
attribute [local irreducible] ARun ATodo AQ QV ACall ImpX AWp AM
set_option maxHeartbeats 4000000 in
theorem Q_Lowest_c {p0x0 : Int} {p1x0 : Int} {r : Fraction} (h : Q_Lowest p0x0 p1x0 = some r) : Pu Try.prog 143 [I p0x0, I p1x0] (.agg [I r.Num, I r.Den]) := by
  unfold Q_Lowest at h
  refine ACall.bodyN Try.func143 rfl Try.ntmps143 Try.results143 rfl rfl ?_
  refine ATodo.seq ?_
  refine ATodo.region ?_
  refine n_alloc rfl rfl rfl rfl (fun b1 => ?_)
  refine ARun.nil ?_
  refine ATodo.seq ?_
  refine ATodo.region ?_
  refine ARun.qv (q_move rfl) rfl ?_
  refine ARun.qv (q_move rfl) rfl ?_
  refine ARun.qv (q_assign rfl) rfl ?_
  refine ARun.qv (q_assign rfl) rfl ?_
  refine ARun.nil ?_
  refine ATodo.seq ?_
  refine ATodo.block ?_
  refine ATodo.loopI (fun x : Int × Int => Q_Lowest_b1 p0x0 p1x0 x.1 x.2) (fun x σ' => σ' = ⟨26, [(0, I p0x0), (1, I p1x0), (4, .ptr b1 0), (5, I x.1), (6, I x.2)], [(b1, .cells [I (0 : Int), I (0 : Int)])]⟩) h ?_ ?_
  · exact ImpX.lessP (by exact ⟨rfl, rfl, rfl, rfl, rfl, True.intro⟩) (.cons .here .nil) (ImpX.here rfl)
  · intro x z1 σ' J1 hmk h hJ1 hA1
    obtain ⟨n4, n5⟩ := x
    obtain rfl := hmk
    replace h : Q_Lowest_b1 p0x0 p1x0 n4 n5 = some z1 := h
    unfold Q_Lowest_b1 at h
    refine ATodo.seq ?_
    refine ATodo.seq ?_
    refine ATodo.region ?_
    refine ARun.qv (q_move rfl) rfl ?_
    refine ARun.qv (q_neq rfl rfl) rfl ?_
    refine ARun.nil ?_
    refine ATodo.cond_d rfl (fun hc => ?_) (fun hc => ?_)
    · replace h := iteT hc h
      refine ATodo.skip ?_
      refine ATodo.block ?_
      refine ATodo.regionM (id := 3) (A := [0, 0, 0, 6, 3, 31]) 6 mixed rfl (by kernel_rfl) (by kernel_rfl) ?_
      refine AM.qv (q_move rfl) rfl ?_
      refine AM.qv (q_move rfl) rfl ?_
      refine AM.qv (q_move rfl) rfl ?_
      obtain ⟨n6, e1, h⟩ := bnd h
      refine AM.qv (t_remS rfl rfl e1) rfl ?_
      refine AM.qv (q_assign rfl) rfl ?_
      refine AM.qv (q_assign rfl) rfl ?_
      refine AM.nil ?_
      refine ARun.nil ?_
      refine ATodo.blk ?_
      refine ATodo.stop ?_
      obtain rfl := Option.some.inj h
      refine hJ1 _ _ rfl ?_
      exact ImpX.lessP (by exact ⟨rfl, rfl, rfl, rfl, rfl, True.intro⟩) (.cons .here .nil) (ImpX.here rfl)
    · replace h := iteF hc h
      refine ATodo.exit rfl ?_
      replace h := outL h hA1
      unfold Q_Lowest_k2 at h
      refine ATodo.seq ?_
      refine ATodo.seq ?_
      refine ATodo.region ?_
      refine ARun.qv (q_move rfl) rfl ?_
      refine ARun.qv (q_lss rfl rfl) rfl ?_
      refine ARun.nil ?_
      refine ATodo.cut (fun σ' => ∃ (n7 : Int), Q_Lowest_j1 p0x0 p1x0 n7 = some r ∧ σ' = ⟨26, [(0, I p0x0), (1, I p1x0), (4, .ptr b1 0), (5, I n7)], [(b1, .cells [I (0 : Int), I (0 : Int)])]⟩) ?_ ?_
      · refine ATodo.cond_d rfl (fun hc => ?_) (fun hc => ?_)
        · replace h := iteT hc h
          refine ATodo.region ?_
          refine ARun.qv (q_move rfl) rfl ?_
          refine ARun.qv (t_negw rfl) rfl ?_
          refine ARun.qv (q_assign rfl) rfl ?_
          refine ARun.nil ?_
          refine ATodo.stop ?_
          exact ImpX.lessP (by exact ⟨rfl, rfl, rfl, rfl, True.intro⟩) (.cons .here .nil) (ImpX.here ⟨w64 (-n4), h, rfl⟩)
        · replace h := iteF hc h
          refine ATodo.skip ?_
          refine ATodo.stop ?_
          exact ImpX.lessP (by exact ⟨rfl, rfl, rfl, rfl, True.intro⟩) (.cons .here .nil) (ImpX.here ⟨n4, h, rfl⟩)
      · rintro σ' ⟨n7, h, rfl⟩
        unfold Q_Lowest_j1 at h
        refine ATodo.seq ?_
        refine ATodo.regionM (id := 6) (A := [0, 0, 3, 0, 0, 24, 63, 127]) 7 mixed rfl (by kernel_rfl) (by kernel_rfl) ?_
        refine AM.qv (q_move rfl) rfl ?_
        refine AM.qv (q_move rfl) rfl ?_
        obtain ⟨n8, e2, h⟩ := bnd h
        refine AM.qv (t_quoS rfl rfl e2) rfl ?_
        refine AM.qv (q_move rfl) rfl ?_
        refine AM.qv (q_move rfl) rfl ?_
        obtain ⟨n9, e3, h⟩ := bnd h
        refine AM.qv (t_quoS rfl rfl e3) rfl ?_
        refine AM.qv (n_build rfl rfl rfl rfl rfl) rfl ?_
        refine AM.nil ?_
        refine n_store_ptr rfl rfl rfl rfl .here rfl rfl ?_
        refine ARun.nil ?_
        refine ATodo.ret ?_
        obtain rfl := Option.some.inj h
        exact ImpX.here ⟨_, .cons (.all _ _ _ _ _ _ rfl .here TUnder.h TInfo.h rfl rfl) .nil, rfl⟩

set_option maxHeartbeats 4000000 in
theorem Q_HeldOf_c {p0x0 : List Sample} {p1x0 : Window} {r : Fraction × Bool} (h : Q_HeldOf p0x0 p1x0 = some r) : Pu Try.prog 61 [.list 4 (p0x0.map Sample.av), .agg [I p1x0.From, I p1x0.To]] (.tup [.agg [I r.1.Num, I r.1.Den], .bool r.2]) := by
  unfold Q_HeldOf at h
  refine ACall.bodyN Try.func61 rfl Try.ntmps61 Try.results61 rfl rfl ?_
  refine ATodo.seq ?_
  refine ATodo.region ?_
  refine n_box rfl rfl rfl rfl (fun b1 => ?_)
  refine n_alloc rfl rfl rfl rfl (fun b2 => ?_)
  refine ARun.qv (q_assign rfl) rfl ?_
  refine ARun.nil ?_
  refine ATodo.seq ?_
  refine ATodo.region ?_
  refine ARun.qv (q_assign rfl) rfl ?_
  refine ARun.qv (q_assign rfl) rfl ?_
  refine ARun.nil ?_
  refine ATodo.seq ?_
  refine ATodo.seq ?_
  refine ATodo.region ?_
  refine ARun.qv (q_move rfl) rfl ?_
  refine ARun.qv (q_load_ptr_all rfl rfl (.next .here) rfl) rfl ?_
  obtain ⟨v3, e1, h⟩ := bnd h
  refine t_call1 rfl (Q_stretches_c e1) (CoL.refl _) .nil (fun _ => rfl) rfl (fun b4 => ?_)
  refine ARun.qv (t_len_sl rfl) rfl ?_
  refine ARun.qv (q_move rfl) rfl ?_
  refine ARun.nil ?_
  refine ATodo.block ?_
  refine ATodo.loopI (fun x : Int × Int × Int => Q_HeldOf_b1 v3 x.1 x.2.1 x.2.2) (fun x σ' => σ' = ⟨42, [(4, .ptr b2 0), (6, I x.1), (7, I x.2.1), (12, .sl 3 b4 0 v3.length), (13, I (v3.length : Int)), (14, I x.2.2)], [(b2, .cells [I (0 : Int), I (0 : Int)]), (b4, .arr 3 (v3.map Fleetref2_stretch.av))]⟩) h ?_ ?_
  · exact ImpX.lessP (by exact ⟨rfl, rfl, rfl, rfl, rfl, rfl, True.intro⟩) (.cons (.next .here) (.cons .here .nil)) (ImpX.here rfl)
  · intro x z1 σ' J1 hmk h hJ1 hA1
    obtain ⟨n8, n9, n10⟩ := x
    obtain rfl := hmk
    replace h : Q_HeldOf_b1 v3 n8 n9 n10 = some z1 := h
    unfold Q_HeldOf_b1 at h
    refine ATodo.seq ?_
    refine ATodo.region ?_
    refine ARun.qv (q_lss rfl rfl) rfl ?_
    refine ARun.nil ?_
    refine ATodo.seq ?_
    refine ATodo.cond_d rfl (fun hc => ?_) (fun hc => ?_)
    · replace h := iteT hc h
      refine ATodo.skip ?_
      refine ATodo.seq ?_
      refine ATodo.block ?_
      refine ATodo.seq ?_
      refine ATodo.region ?_
      obtain ⟨v11, e2, h⟩ := bnd h
      refine ARun.qv (t_index_sl rfl rfl rfl e2) rfl ?_
      refine ARun.qv (t_load_aptr_agg (g := Fleetref2_stretch.av) rfl rfl (.inl (.next .here)) rfl e2 rfl) rfl ?_
      refine n_alloc rfl rfl rfl rfl (fun b12 => ?_)
      refine n_store_ptr rfl rfl rfl rfl .here rfl rfl ?_
      refine ARun.nil ?_
      refine ATodo.seq ?_
      refine ATodo.region ?_
      refine ARun.qv (q_move rfl) rfl ?_
      refine ARun.qv (n_field_ptr rfl rfl) rfl ?_
      refine ARun.qv (q_load_ptr rfl rfl .here rfl) rfl ?_
      refine ARun.qv (n_field_ptr rfl rfl) rfl ?_
      refine ARun.qv (q_load_ptr rfl rfl .here rfl) rfl ?_
      refine ARun.qv (n_field_ptr rfl rfl) rfl ?_
      refine ARun.qv (q_load_ptr rfl rfl .here rfl) rfl ?_
      refine ARun.qv (q_subw rfl rfl) rfl ?_
      refine ARun.qv (q_mulw rfl rfl) rfl ?_
      refine ARun.qv (q_addw rfl rfl) rfl ?_
      refine ARun.qv (q_assign rfl) rfl ?_
      refine ARun.nil ?_
      refine ATodo.region ?_
      refine ARun.qv (q_move rfl) rfl ?_
      refine ARun.qv (n_field_ptr rfl rfl) rfl ?_
      refine ARun.qv (q_load_ptr rfl rfl .here rfl) rfl ?_
      refine ARun.qv (n_field_ptr rfl rfl) rfl ?_
      refine ARun.qv (q_load_ptr rfl rfl .here rfl) rfl ?_
      refine ARun.qv (q_subw rfl rfl) rfl ?_
      refine ARun.qv (q_addw rfl rfl) rfl ?_
      refine ARun.qv (q_assign rfl) rfl ?_
      refine ARun.nil ?_
      refine ATodo.blk ?_
      refine ATodo.region ?_
      refine ARun.qv (q_addw rfl rfl) rfl ?_
      refine ARun.qv (q_move rfl) rfl ?_
      refine ARun.nil ?_
      refine ATodo.stop ?_
      obtain rfl := Option.some.inj h
      refine hJ1 _ _ rfl ?_
      exact ImpX.lessP (by exact ⟨rfl, rfl, rfl, rfl, rfl, rfl, True.intro⟩) (.cons (.next .here) (.cons (.next .here) .nil)) (ImpX.here rfl)
    · replace h := iteF hc h
      refine ATodo.exit rfl ?_
      replace h := outL h hA1
      unfold Q_HeldOf_k1 at h
      refine ATodo.seq ?_
      refine ATodo.seq ?_
      refine ATodo.region ?_
      refine ARun.qv (q_move rfl) rfl ?_
      refine ARun.qv (q_eql rfl rfl) rfl ?_
      refine ARun.nil ?_
      refine ATodo.cond_d rfl (fun hc => ?_) (fun hc => ?_)
      · replace h := iteT hc h
        refine ATodo.seq ?_
        refine ATodo.region ?_
        refine ARun.qv (n_build rfl rfl rfl rfl rfl) rfl ?_
        refine n_store_ptr rfl rfl rfl rfl .here rfl rfl ?_
        refine ARun.qv (q_assign rfl) rfl ?_
        refine ARun.nil ?_
        refine ATodo.ret ?_
        obtain rfl := Option.some.inj h
        exact ImpX.here ⟨_, .cons (.all _ _ _ _ _ _ rfl .here TUnder.h TInfo.h rfl rfl) (.cons (.tmp _ _ rfl) .nil), rfl⟩
      · replace h := iteF hc h
        refine ATodo.skip ?_
        refine ATodo.seq ?_
        refine ATodo.region ?_
        refine ARun.qv (q_move rfl) rfl ?_
        refine ARun.qv (q_move rfl) rfl ?_
        obtain ⟨v13, e3, h⟩ := bnd h
        refine r_callp rfl (Q_Lowest_c e3) (CoL.refl _) rfl ?_
        refine n_store_ptr rfl rfl rfl rfl .here rfl rfl ?_
        refine ARun.qv (q_assign rfl) rfl ?_
        refine ARun.nil ?_
        refine ATodo.ret ?_
        obtain rfl := Option.some.inj h
        exact ImpX.here ⟨_, .cons (.all _ _ _ _ _ _ rfl .here TUnder.h TInfo.h rfl rfl) (.cons (.tmp _ _ rfl) .nil), rfl⟩

set_option maxHeartbeats 4000000 in
theorem Q_QuantileOf_c {p0x0 : List Sample} {p1x0 : Int} {r : Int} (h : Q_QuantileOf p0x0 p1x0 = some r) : Pu Try.prog 62 [.list 4 (p0x0.map Sample.av), I p1x0] (I r) := by
  unfold Q_QuantileOf at h
  refine ACall.bodyN Try.func62 rfl Try.ntmps62 Try.results62 rfl rfl ?_
  refine ATodo.seq ?_
  refine ATodo.region ?_
  refine ARun.qv (q_assign rfl) rfl ?_
  refine ARun.nil ?_
  refine ATodo.seq ?_
  refine ATodo.region ?_
  refine ARun.qv (q_assign rfl) rfl ?_
  refine ARun.nil ?_
  refine ATodo.seq ?_
  refine ATodo.seq ?_
  refine ATodo.region ?_
  refine ARun.qv (q_move rfl) rfl ?_
  refine ARun.qv (t_len rfl) rfl ?_
  refine ARun.qv (q_move rfl) rfl ?_
  refine ARun.nil ?_
  refine ATodo.block ?_
  refine ATodo.loopI (fun x : (List Int) × Int => Q_QuantileOf_b1 p0x0 p1x0 x.1 x.2) (fun x σ' => ∃ (b4 : Bk), σ' = ⟨41, [(1, I p1x0), (5, .sl 1 b4 0 x.1.length), (10, .list 4 (p0x0.map Sample.av)), (11, I (p0x0.length : Int)), (12, I x.2)], [(b4, .arr 1 (x.1.map I))]⟩) h ?_ ?_
  · refine ImpX.arr (s := 5) 1 rfl (fun b7 => ?_)
    exact ImpX.lessP (by exact ⟨rfl, rfl, rfl, rfl, rfl, True.intro⟩) (.cons .here .nil) (ImpX.here ⟨b7, rfl⟩)
  · intro x z1 σ' J1 hmk h hJ1 hA1
    obtain ⟨l5, n6⟩ := x
    obtain ⟨b4, rfl⟩ := hmk
    replace h : Q_QuantileOf_b1 p0x0 p1x0 l5 n6 = some z1 := h
    unfold Q_QuantileOf_b1 at h
    refine ATodo.seq ?_
    refine ATodo.region ?_
    refine ARun.qv (q_lss rfl rfl) rfl ?_
    refine ARun.nil ?_
    refine ATodo.seq ?_
    refine ATodo.cond_d rfl (fun hc => ?_) (fun hc => ?_)
    · replace h := iteT hc h
      refine ATodo.skip ?_
      refine ATodo.seq ?_
      refine ATodo.block ?_
      refine ATodo.seq ?_
      refine ATodo.region ?_
      obtain ⟨v8, e1, h⟩ := bnd h
      refine ARun.qv (t_index rfl rfl rfl e1 rfl rfl) rfl ?_
      refine ARun.qv (q_load_rptr_agg rfl rfl rfl) rfl ?_
      refine n_alloc rfl rfl rfl rfl (fun b9 => ?_)
      refine n_store_ptr rfl rfl rfl rfl .here rfl rfl ?_
      refine ARun.nil ?_
      refine ATodo.region ?_
      refine ARun.qv (q_move rfl) rfl ?_
      refine ARun.qv (n_field_ptr rfl rfl) rfl ?_
      refine ARun.qv (q_load_ptr rfl rfl .here rfl) rfl ?_
      refine n_buildSliceL (xs := ([v8.Value] : List Int).map I) rfl rfl rfl rfl rfl rfl ?_
      obtain ⟨l10, e2, h⟩ := bnd h
      refine t_append (g := I) rfl rfl rfl rfl rfl rfl rfl rfl (.list _) e2 (fun _ => (.next .here)) rfl (fun b11 => ?_)
      refine ARun.qv (q_assign rfl) rfl ?_
      refine ARun.nil ?_
      refine ATodo.blk ?_
      refine ATodo.region ?_
      refine ARun.qv (q_addw rfl rfl) rfl ?_
      refine ARun.qv (q_move rfl) rfl ?_
      refine ARun.nil ?_
      refine ATodo.stop ?_
      obtain rfl := Option.some.inj h
      refine hJ1 _ _ rfl ?_
      exact ImpX.lessP (by exact ⟨rfl, rfl, rfl, rfl, rfl, True.intro⟩) (.cons (.next .here) .nil) (ImpX.here ⟨b11, rfl⟩)
    · replace h := iteF hc h
      refine ATodo.exit rfl ?_
      replace h := outL h hA1
      unfold Q_QuantileOf_k1 at h
      refine ATodo.seq ?_
      refine ATodo.region ?_
      refine ARun.qv (q_move rfl) rfl ?_
      obtain ⟨v12, e3, h⟩ := bnd h
      refine t_call0 rfl (slices_Sort_int_int_c (lenOk_f e3)) (CoL.refl _) (.cons .here .nil) rfl rfl ?_
      refine ARun.ghost (ImpX.eqs (s := 5) (av' := .sl 1 b4 0 v12.length) rfl (congrArg (AV.sl 1 b4 0) (lenOk_l e3)) (ImpX.here ?_))
      refine ARun.ghost (ImpX.eqs (s := 22) (av' := .sl 1 b4 0 v12.length) rfl (congrArg (AV.sl 1 b4 0) (lenOk_l e3)) (ImpX.here ?_))
      refine ARun.nil ?_
      refine ATodo.seq ?_
      refine ATodo.seq ?_
      refine ATodo.region ?_
      refine ARun.qv (q_move rfl) rfl ?_
      refine ARun.qv (t_len_sl rfl) rfl ?_
      refine ARun.qv (q_move rfl) rfl ?_
      refine ARun.nil ?_
      refine ATodo.block ?_
      refine ATodo.loopI (fun x : Int => Q_QuantileOf_b2 p1x0 v12 x) (fun x σ' => σ' = ⟨41, [(1, I p1x0), (5, .sl 1 b4 0 v12.length), (24, .sl 1 b4 0 v12.length), (25, I (v12.length : Int)), (26, I x)], [(b4, .arr 1 (v12.map I))]⟩) h ?_ ?_
      · exact ImpX.lessP (by exact ⟨rfl, rfl, rfl, rfl, rfl, True.intro⟩) (.cons .here .nil) (ImpX.here rfl)
      · intro n14 z2 σ' J2 hmk h hJ2 hA2
        obtain rfl := hmk
        replace h : Q_QuantileOf_b2 p1x0 v12 n14 = some z2 := h
        unfold Q_QuantileOf_b2 at h
        refine ATodo.seq ?_
        refine ATodo.region ?_
        refine ARun.qv (q_lss rfl rfl) rfl ?_
        refine ARun.nil ?_
        refine ATodo.seq ?_
        refine ATodo.cond_d rfl (fun hc => ?_) (fun hc => ?_)
        · replace h := iteT hc h
          refine ATodo.skip ?_
          refine ATodo.seq ?_
          refine ATodo.block ?_
          refine ATodo.seq ?_
          refine ATodo.region ?_
          refine ARun.qv (q_move rfl) rfl ?_
          obtain ⟨v15, e4, h⟩ := bnd h
          refine ARun.qv (t_index_sl rfl rfl rfl e4) rfl ?_
          refine ARun.qv (t_load_aptr (g := I) rfl rfl (.inl .here) e4 rfl) rfl ?_
          refine ARun.qv (q_assign rfl) rfl ?_
          refine ARun.qv (q_assign rfl) rfl ?_
          refine ARun.nil ?_
          refine ATodo.seq ?_
          refine ATodo.region ?_
          refine ARun.qv (q_move rfl) rfl ?_
          refine ARun.qv (q_addw rfl rfl) rfl ?_
          refine ARun.qv (q_mulw rfl rfl) rfl ?_
          refine ARun.qv (q_move rfl) rfl ?_
          refine ARun.qv (q_move rfl) rfl ?_
          refine ARun.qv (t_len_sl rfl) rfl ?_
          refine ARun.qv (q_mulw rfl rfl) rfl ?_
          refine ARun.qv (q_geq rfl rfl) rfl ?_
          refine ARun.nil ?_
          refine ATodo.cond_d rfl (fun hc => ?_) (fun hc => ?_)
          · replace h := iteT hc h
            refine ATodo.seq ?_
            refine ATodo.region ?_
            refine ARun.qv (q_move rfl) rfl ?_
            refine ARun.qv (q_assign rfl) rfl ?_
            refine ARun.nil ?_
            refine ATodo.ret ?_
            replace h := outL h hA2
            obtain rfl := Option.some.inj h
            exact ImpX.here ⟨_, .cons (.tmp _ _ rfl) .nil, rfl⟩
          · replace h := iteF hc h
            refine ATodo.skip ?_
            refine ATodo.blk ?_
            refine ATodo.region ?_
            refine ARun.qv (q_addw rfl rfl) rfl ?_
            refine ARun.qv (q_move rfl) rfl ?_
            refine ARun.nil ?_
            refine ATodo.stop ?_
            obtain rfl := Option.some.inj h
            refine hJ2 _ _ rfl ?_
            exact ImpX.lessP (by exact ⟨rfl, rfl, rfl, rfl, rfl, True.intro⟩) (.cons .here .nil) (ImpX.here rfl)
        · replace h := iteF hc h
          refine ATodo.exit rfl ?_
          replace h := outL h hA2
          refine ATodo.seq ?_
          refine ATodo.region ?_
          refine ARun.qv (q_assign rfl) rfl ?_
          refine ARun.nil ?_
          refine ATodo.ret ?_
          obtain rfl := Option.some.inj h
          exact ImpX.here ⟨_, .cons (.tmp _ _ rfl) .nil, rfl⟩

set_option maxHeartbeats 4000000 in
theorem Q_BeyondOf_c {p0x0 : List Sample} {p1x0 : Window} {p2x0 : Int} {p3x0 : Int} {r : (List Window)} (h : Q_BeyondOf p0x0 p1x0 p2x0 p3x0 = some r) : ACall Try.prog 63 [.list 4 (p0x0.map Sample.av), .agg [I p1x0.From, I p1x0.To], I p2x0, I p3x0] [] (T1 (fun d_0 => [(d_0, .arr 2 (r.map Window.av))]) (fun d_0 => .sl 2 d_0 0 r.length)) := by
  unfold Q_BeyondOf at h
  refine ACall.lessH ?_
  refine ACall.bodyN Try.func63 rfl Try.ntmps63 Try.results63 rfl rfl ?_
  refine ATodo.seq ?_
  refine ATodo.region ?_
  refine n_box rfl rfl rfl rfl (fun b1 => ?_)
  refine ARun.qv (q_assign rfl) rfl ?_
  refine ARun.nil ?_
  refine ATodo.seq ?_
  refine ATodo.region ?_
  refine ARun.qv (q_assign rfl) rfl ?_
  refine ARun.nil ?_
  refine ATodo.seq ?_
  refine ATodo.seq ?_
  refine ATodo.region ?_
  refine ARun.qv (q_move rfl) rfl ?_
  refine ARun.qv (q_load_ptr_all rfl rfl .here rfl) rfl ?_
  obtain ⟨v2, e1, h⟩ := bnd h
  refine t_call1 rfl (Q_stretches_c e1) (CoL.refl _) .nil (fun _ => rfl) rfl (fun b3 => ?_)
  refine ARun.qv (t_len_sl rfl) rfl ?_
  refine ARun.qv (q_move rfl) rfl ?_
  refine ARun.nil ?_
  refine ATodo.block ?_
  refine ATodo.loopI (fun x : (List Window) × Int => Q_BeyondOf_b1 p2x0 p3x0 v2 x.1 x.2) (fun x σ' => ∃ (b7 : Bk), σ' = ⟨57, [(2, I p2x0), (3, I p3x0), (9, .sl 2 b7 0 x.1.length), (15, .sl 3 b3 0 v2.length), (16, I (v2.length : Int)), (17, I x.2)], [(b7, .arr 2 (x.1.map Window.av)), (b3, .arr 3 (v2.map Fleetref2_stretch.av))]⟩) h ?_ ?_
  · refine ImpX.arr (s := 9) 2 rfl (fun b10 => ?_)
    exact ImpX.lessP (by exact ⟨rfl, rfl, rfl, rfl, rfl, rfl, True.intro⟩) (.cons .here (.cons .here .nil)) (ImpX.here ⟨b10, rfl⟩)
  · intro x z1 σ' J1 hmk h hJ1 hA1
    obtain ⟨l8, n9⟩ := x
    obtain ⟨b7, rfl⟩ := hmk
    replace h : Q_BeyondOf_b1 p2x0 p3x0 v2 l8 n9 = some z1 := h
    unfold Q_BeyondOf_b1 at h
    refine ATodo.seq ?_
    refine ATodo.region ?_
    refine ARun.qv (q_lss rfl rfl) rfl ?_
    refine ARun.nil ?_
    refine ATodo.seq ?_
    refine ATodo.cond_d rfl (fun hc => ?_) (fun hc => ?_)
    · replace h := iteT hc h
      refine ATodo.skip ?_
      refine ATodo.seq ?_
      refine ATodo.cut (fun σ' => ∃ (b11 : Bk) (l12 : List Window), Q_BeyondOf_j1 n9 l12 = some z1 ∧ σ' = ⟨57, [(2, I p2x0), (3, I p3x0), (9, .sl 2 b11 0 l12.length), (15, .sl 3 b3 0 v2.length), (16, I (v2.length : Int)), (17, I n9)], [(b11, .arr 2 (l12.map Window.av)), (b3, .arr 3 (v2.map Fleetref2_stretch.av))]⟩) ?_ ?_
      · refine ATodo.block ?_
        refine ATodo.seq ?_
        refine ATodo.region ?_
        obtain ⟨v13, e2, h⟩ := bnd h
        refine ARun.qv (t_index_sl rfl rfl rfl e2) rfl ?_
        refine ARun.qv (t_load_aptr_agg (g := Fleetref2_stretch.av) rfl rfl (.inl (.next .here)) rfl e2 rfl) rfl ?_
        refine n_alloc rfl rfl rfl rfl (fun b14 => ?_)
        refine n_store_ptr rfl rfl rfl rfl .here rfl rfl ?_
        refine ARun.nil ?_
        refine ATodo.seq ?_
        refine ATodo.seq ?_
        refine ATodo.region ?_
        refine ARun.qv (n_field_ptr rfl rfl) rfl ?_
        refine ARun.qv (q_load_ptr rfl rfl .here rfl) rfl ?_
        refine ARun.qv (q_move rfl) rfl ?_
        refine ARun.qv (q_move rfl) rfl ?_
        refine r_callp rfl (Q_in_c rfl) (CoL.refl _) rfl ?_
        refine ARun.nil ?_
        refine ATodo.cond rfl (fun hc => ?_) (fun hc => ?_)
        · replace h := iteT hc h
          refine ATodo.exit rfl ?_
          refine ATodo.stop ?_
          exact ImpX.lessP (by exact ⟨rfl, rfl, rfl, rfl, rfl, rfl, True.intro⟩) (.cons (.next .here) (.cons (.next .here) .nil)) (ImpX.here ⟨b7, l8, h, rfl⟩)
        · replace h := iteFb hc h
          refine ATodo.skip ?_
          refine ATodo.seq ?_
          refine ATodo.seq ?_
          refine ATodo.region ?_
          refine ARun.qv (q_move rfl) rfl ?_
          refine ARun.qv (t_len_sl rfl) rfl ?_
          refine ARun.qv (q_subw rfl rfl) rfl ?_
          refine ARun.qv (q_assign rfl) rfl ?_
          refine ARun.nil ?_
          refine ATodo.seq ?_
          refine ATodo.cut (fun σ' => ∃ (c15 : Bool), Q_BeyondOf_j2 l8 n9 v13 c15 = some z1 ∧ σ' = ⟨57, [(2, I p2x0), (3, I p3x0), (9, .sl 2 b7 0 l8.length), (11, .ptr b14 0), (12, I (w64 ((l8.length : Int) - (1 : Int)))), (15, .sl 3 b3 0 v2.length), (16, I (v2.length : Int)), (17, I n9), (40, .bool c15)], [(b7, .arr 2 (l8.map Window.av)), (b14, .cells [I v13.from_, I v13.to_, I v13.value_]), (b3, .arr 3 (v2.map Fleetref2_stretch.av))]⟩) ?_ ?_
          · refine ATodo.regionM (id := 7) (A := [0, 1, 3, 7, 7, 31, 63, 127, 7, 263, 1023, 2047]) 12 mixed rfl (by kernel_rfl) (by kernel_rfl) ?_
            refine AM.qv (q_move rfl) rfl ?_
            refine AM.qv (q_geq rfl rfl) rfl ?_
            refine AM.qv (q_move rfl) rfl ?_
            refine AM.guard_dt rfl rfl rfl (fun hc => ?_) (fun hc => ?_)
            · replace h := iteT hc h
              refine AM.qv (q_move rfl) rfl ?_
              refine AM.guard_yes rfl rfl rfl ?_
              refine AM.qv (q_move rfl) rfl ?_
              refine AM.guard_yes rfl rfl rfl ?_
              obtain ⟨v16, e3, h⟩ := bnd h
              refine AM.qv (t_index_sl rfl rfl rfl e3) rfl ?_
              refine AM.guard_yes rfl rfl rfl ?_
              refine AM.qv (t_field_aptr rfl rfl) rfl ?_
              refine AM.guard_yes rfl rfl rfl ?_
              refine AM.qv (t_load_aptr (g := Window.av) rfl rfl (.inl (.next .here)) e3 rfl) rfl ?_
              refine AM.guard_yes rfl rfl rfl ?_
              refine AM.qv (n_field_ptr rfl rfl) rfl ?_
              refine AM.guard_yes rfl rfl rfl ?_
              refine AM.qv (q_load_ptr rfl rfl .here rfl) rfl ?_
              refine AM.guard_yes rfl rfl rfl ?_
              refine AM.qv (q_eql rfl rfl) rfl ?_
              refine AM.qv (q_pick_t rfl rfl) rfl ?_
              refine AM.nil ?_
              refine ARun.nil ?_
              refine ATodo.stop ?_
              exact ImpX.lessP (by exact ⟨rfl, rfl, rfl, rfl, rfl, rfl, rfl, rfl, rfl, True.intro⟩) (.cons (.next .here) (.cons .here (.cons .here .nil))) (ImpX.here ⟨decide (v16.To = v13.from_), h, rfl⟩)
            · replace h := iteF hc h
              refine AM.guard_no rfl rfl rfl rfl ?_
              refine AM.guard_no rfl rfl rfl rfl ?_
              refine AM.guard_no rfl rfl rfl rfl ?_
              refine AM.guard_no rfl rfl rfl rfl ?_
              refine AM.guard_no rfl rfl rfl rfl ?_
              refine AM.guard_no rfl rfl rfl rfl ?_
              refine AM.guard_no rfl rfl rfl rfl ?_
              refine AM.qv (q_pick_f rfl rfl) rfl ?_
              refine AM.nil ?_
              refine ARun.nil ?_
              refine ATodo.stop ?_
              exact ImpX.lessP (by exact ⟨rfl, rfl, rfl, rfl, rfl, rfl, rfl, rfl, rfl, True.intro⟩) (.cons (.next .here) (.cons .here (.cons .here .nil))) (ImpX.here ⟨false, h, rfl⟩)
          · rintro σ' ⟨c15, h, rfl⟩
            unfold Q_BeyondOf_j2 at h
            refine ATodo.cond rfl (fun hc => ?_) (fun hc => ?_)
            · replace h := iteT hc h
              refine ATodo.seq ?_
              refine ATodo.region ?_
              refine ARun.qv (q_move rfl) rfl ?_
              refine ARun.qv (q_move rfl) rfl ?_
              refine ARun.qv (n_field_ptr rfl rfl) rfl ?_
              refine ARun.qv (q_load_ptr rfl rfl (.next .here) rfl) rfl ?_
              obtain ⟨v17, e4, h⟩ := bnd h
              refine ARun.qv (t_index_sl rfl rfl rfl e4) rfl ?_
              refine ARun.qv (t_field_aptr rfl rfl) rfl ?_
              refine t_store_aptr1 (g := Window.av) (el' := (⟨v17.From, v13.to_⟩ : Window)) rfl rfl rfl rfl e4 rfl .here rfl ?_
              refine ARun.ghost (ImpX.eqs (s := 9) (av' := .sl 2 b7 0 (l8.set (w64 ((l8.length : Int) - (1 : Int))).toNat (⟨v17.From, v13.to_⟩ : Window)).length) rfl (by rw [List.length_set]) (ImpX.here ?_))
              refine ARun.ghost (ImpX.eqs (s := 41) (av' := .sl 2 b7 0 (l8.set (w64 ((l8.length : Int) - (1 : Int))).toNat (⟨v17.From, v13.to_⟩ : Window)).length) rfl (by rw [List.length_set]) (ImpX.here ?_))
              refine ARun.nil ?_
              refine ATodo.exit rfl ?_
              refine ATodo.stop ?_
              exact ImpX.lessP (by exact ⟨rfl, rfl, rfl, rfl, rfl, rfl, True.intro⟩) (.cons .here (.cons (.next .here) .nil)) (ImpX.here ⟨b7, l8.set (w64 ((l8.length : Int) - (1 : Int))).toNat (⟨v17.From, v13.to_⟩ : Window), h, rfl⟩)
            · replace h := iteFb hc h
              refine ATodo.skip ?_
              refine ATodo.region ?_
              refine ARun.qv (q_move rfl) rfl ?_
              refine ARun.qv (n_field_ptr rfl rfl) rfl ?_
              refine ARun.qv (q_load_ptr rfl rfl (.next .here) rfl) rfl ?_
              refine ARun.qv (n_field_ptr rfl rfl) rfl ?_
              refine ARun.qv (q_load_ptr rfl rfl (.next .here) rfl) rfl ?_
              refine ARun.qv (n_build rfl rfl rfl rfl rfl) rfl ?_
              refine n_buildSliceL (xs := ([(⟨v13.from_, v13.to_⟩ : Window)]).map Window.av) rfl rfl rfl rfl rfl rfl ?_
              obtain ⟨l18, e5, h⟩ := bnd h
              refine t_append (g := Window.av) rfl rfl rfl rfl rfl rfl rfl rfl (.list _) e5 (fun _ => .here) rfl (fun b19 => ?_)
              refine ARun.qv (q_assign rfl) rfl ?_
              refine ARun.nil ?_
              refine ATodo.blk ?_
              refine ATodo.stop ?_
              exact ImpX.lessP (by exact ⟨rfl, rfl, rfl, rfl, rfl, rfl, True.intro⟩) (.cons .here (.cons (.next .here) .nil)) (ImpX.here ⟨b19, l18, h, rfl⟩)
      · rintro σ' ⟨b11, l12, h, rfl⟩
        unfold Q_BeyondOf_j1 at h
        refine ATodo.region ?_
        refine ARun.qv (q_addw rfl rfl) rfl ?_
        refine ARun.qv (q_move rfl) rfl ?_
        refine ARun.nil ?_
        refine ATodo.stop ?_
        obtain rfl := Option.some.inj h
        refine hJ1 _ _ rfl ?_
        exact ImpX.lessP (by exact ⟨rfl, rfl, rfl, rfl, rfl, rfl, True.intro⟩) (.cons .here (.cons .here .nil)) (ImpX.here ⟨b11, rfl⟩)
    · replace h := iteF hc h
      refine ATodo.exit rfl ?_
      replace h := outL h hA1
      refine ATodo.seq ?_
      refine ATodo.region ?_
      refine ARun.qv (q_move rfl) rfl ?_
      refine ARun.qv (q_assign rfl) rfl ?_
      refine ARun.nil ?_
      refine ATodo.ret ?_
      obtain rfl := Option.some.inj h
      exact ImpX.here ⟨_, .cons (.tmp _ _ rfl) .nil, _, .cons .here .nil, ⟨b7, rfl, rfl⟩⟩

set_option maxHeartbeats 4000000 in
theorem slices_Equal_Window_Window_c {p0x0 : List Window} {p1x0 : List Window} {r : Bool} (h : slices_Equal_Window_Window p0x0 p1x0 = some r) : Pu Try.prog 64 [.list 2 (p0x0.map Window.av), .list 2 (p1x0.map Window.av)] (.bool r) := by
  unfold slices_Equal_Window_Window at h
  refine ACall.bodyN Try.func64 rfl Try.ntmps64 Try.results64 rfl rfl ?_
  refine ATodo.seq ?_
  refine ATodo.region ?_
  refine ARun.qv (q_assign rfl) rfl ?_
  refine ARun.nil ?_
  refine ATodo.seq ?_
  refine ATodo.seq ?_
  refine ATodo.region ?_
  refine ARun.qv (q_move rfl) rfl ?_
  refine ARun.qv (t_len rfl) rfl ?_
  refine ARun.qv (q_move rfl) rfl ?_
  refine ARun.qv (t_len rfl) rfl ?_
  refine ARun.qv (q_neq rfl rfl) rfl ?_
  refine ARun.nil ?_
  refine ATodo.cond_d rfl (fun hc => ?_) (fun hc => ?_)
  · replace h := iteT hc h
    refine ATodo.seq ?_
    refine ATodo.region ?_
    refine ARun.qv (q_assign rfl) rfl ?_
    refine ARun.nil ?_
    refine ATodo.ret ?_
    obtain rfl := Option.some.inj h
    exact ImpX.here ⟨_, .cons (.tmp _ _ rfl) .nil, rfl⟩
  · replace h := iteF hc h
    refine ATodo.skip ?_
    refine ATodo.seq ?_
    refine ATodo.seq ?_
    refine ATodo.region ?_
    refine ARun.qv (q_move rfl) rfl ?_
    refine ARun.qv (t_len rfl) rfl ?_
    refine ARun.qv (q_move rfl) rfl ?_
    refine ARun.nil ?_
    refine ATodo.block ?_
    refine ATodo.loopI (fun x : Int => slices_Equal_Window_Window_b1 p0x0 p1x0 x) (fun x σ' => σ' = ⟨26, [(0, .list 2 (p0x0.map Window.av)), (1, .list 2 (p1x0.map Window.av)), (12, I (p0x0.length : Int)), (13, I x)], []⟩) h ?_ ?_
    · exact ImpX.lessP (by exact ⟨rfl, rfl, rfl, rfl, True.intro⟩) (.nil) (ImpX.here rfl)
    · intro n2 z1 σ' J1 hmk h hJ1 hA1
      obtain rfl := hmk
      replace h : slices_Equal_Window_Window_b1 p0x0 p1x0 n2 = some z1 := h
      unfold slices_Equal_Window_Window_b1 at h
      refine ATodo.seq ?_
      refine ATodo.region ?_
      refine ARun.qv (q_lss rfl rfl) rfl ?_
      refine ARun.nil ?_
      refine ATodo.seq ?_
      refine ATodo.cond_d rfl (fun hc => ?_) (fun hc => ?_)
      · replace h := iteT hc h
        refine ATodo.skip ?_
        refine ATodo.seq ?_
        refine ATodo.block ?_
        refine ATodo.seq ?_
        refine ATodo.region ?_
        refine ARun.qv (q_move rfl) rfl ?_
        refine ARun.qv (q_assign rfl) rfl ?_
        refine ARun.nil ?_
        refine ATodo.seq ?_
        refine ATodo.regionM (id := 6) (A := [0, 0, 3, 7, 0, 0, 48, 112, 255]) 9 mixed rfl (by kernel_rfl) (by kernel_rfl) ?_
        refine AM.qv (q_move rfl) rfl ?_
        refine AM.qv (q_move rfl) rfl ?_
        obtain ⟨v3, e1, h⟩ := bnd h
        refine AM.qv (t_index rfl rfl rfl e1 rfl rfl) rfl ?_
        refine AM.qv (q_load_rptr_agg rfl rfl rfl) rfl ?_
        refine AM.qv (q_move rfl) rfl ?_
        refine AM.qv (q_move rfl) rfl ?_
        obtain ⟨v4, e2, h⟩ := bnd h
        refine AM.qv (t_index rfl rfl rfl e2 rfl rfl) rfl ?_
        refine AM.qv (q_load_rptr_agg rfl rfl rfl) rfl ?_
        refine AM.qv (t_tne (g := Window.av) (X := v3) (Y := v4) rfl rfl rfl rfl rfl) rfl ?_
        refine AM.nil ?_
        refine ARun.nil ?_
        refine ATodo.cond_d rfl (fun hc => ?_) (fun hc => ?_)
        · replace h := iteT hc h
          refine ATodo.seq ?_
          refine ATodo.region ?_
          refine ARun.qv (q_assign rfl) rfl ?_
          refine ARun.nil ?_
          refine ATodo.ret ?_
          replace h := outL h hA1
          obtain rfl := Option.some.inj h
          exact ImpX.here ⟨_, .cons (.tmp _ _ rfl) .nil, rfl⟩
        · replace h := iteF hc h
          refine ATodo.skip ?_
          refine ATodo.blk ?_
          refine ATodo.region ?_
          refine ARun.qv (q_addw rfl rfl) rfl ?_
          refine ARun.qv (q_move rfl) rfl ?_
          refine ARun.nil ?_
          refine ATodo.stop ?_
          obtain rfl := Option.some.inj h
          refine hJ1 _ _ rfl ?_
          exact ImpX.lessP (by exact ⟨rfl, rfl, rfl, rfl, True.intro⟩) (.nil) (ImpX.here rfl)
      · replace h := iteF hc h
        refine ATodo.exit rfl ?_
        replace h := outL h hA1
        refine ATodo.seq ?_
        refine ATodo.region ?_
        refine ARun.qv (q_assign rfl) rfl ?_
        refine ARun.nil ?_
        refine ATodo.ret ?_
        obtain rfl := Option.some.inj h
        exact ImpX.here ⟨_, .cons (.tmp _ _ rfl) .nil, rfl⟩

set_option maxHeartbeats 4000000 in
theorem series_seven_n0x_c {p1x0 : Int} {r : (List Int)} (h : series_seven_n0x p1x0 = some r) : ACall Try.prog 245 [.nil, .int .u64 p1x0] [] (T1 (fun d_0 => [(d_0, .arr 1 (r.map (AV.int .u8)))]) (fun d_0 => .sl 1 d_0 0 r.length)) := by
  unfold series_seven_n0x at h
  refine ACall.lessH ?_
  refine ACall.bodyN Try.func245 rfl Try.ntmps245 Try.results245 rfl rfl ?_
  refine ATodo.seq ?_
  refine ATodo.region ?_
  refine ARun.qv (q_assign rfl) rfl ?_
  refine ARun.nil ?_
  refine ATodo.seq ?_
  refine ATodo.block ?_
  refine ATodo.loopI (fun x : (List Int) × Int => series_seven_n0x_b1 x.1 x.2) (fun x σ' => ∃ (b4 : Bk), σ' = ⟨21, [(0, .sl 1 b4 0 x.1.length), (1, .int .u64 x.2)], [(b4, .arr 1 (x.1.map (AV.int .u8)))]⟩) h ?_ ?_
  · refine ImpX.arr (s := 0) 1 rfl (fun b7 => ?_)
    exact ImpX.lessP (by exact ⟨rfl, rfl, True.intro⟩) (.cons .here .nil) (ImpX.here ⟨b7, rfl⟩)
  · intro x z1 σ' J1 hmk h hJ1 hA1
    obtain ⟨l5, n6⟩ := x
    obtain ⟨b4, rfl⟩ := hmk
    replace h : series_seven_n0x_b1 l5 n6 = some z1 := h
    unfold series_seven_n0x_b1 at h
    refine ATodo.seq ?_
    refine ATodo.seq ?_
    refine ATodo.region ?_
    refine ARun.qv (q_move rfl) rfl ?_
    refine ARun.qv (q_geq rfl rfl) rfl ?_
    refine ARun.nil ?_
    refine ATodo.cond_d rfl (fun hc => ?_) (fun hc => ?_)
    · replace h := iteT hc h
      refine ATodo.skip ?_
      refine ATodo.block ?_
      refine ATodo.region ?_
      refine ARun.qv (q_move rfl) rfl ?_
      refine ARun.qv (q_move rfl) rfl ?_
      refine ARun.qv (t_and rfl rfl) rfl ?_
      refine ARun.qv (q_conv_int rfl) rfl ?_
      refine ARun.qv (t_or rfl rfl) rfl ?_
      refine n_buildSliceL (xs := ([orI .u8 (IntKind.u8.wrap (andI .u64 n6 (127 : Int))) (128 : Int)]).map (AV.int .u8)) rfl rfl rfl rfl rfl rfl ?_
      obtain ⟨l8, e1, h⟩ := bnd h
      refine t_append (g := (AV.int .u8)) rfl rfl rfl rfl rfl rfl rfl rfl (.list _) e1 (fun _ => .here) rfl (fun b9 => ?_)
      refine ARun.qv (q_move rfl) rfl ?_
      refine ARun.qv (t_shr rfl rfl (by decide)) rfl ?_
      refine ARun.qv (q_assign rfl) rfl ?_
      refine ARun.qv (q_assign rfl) rfl ?_
      refine ARun.nil ?_
      refine ATodo.blk ?_
      refine ATodo.stop ?_
      obtain rfl := Option.some.inj h
      refine hJ1 _ _ rfl ?_
      exact ImpX.lessP (by exact ⟨rfl, rfl, True.intro⟩) (.cons .here .nil) (ImpX.here ⟨b9, rfl⟩)
    · replace h := iteF hc h
      refine ATodo.exit rfl ?_
      replace h := outL h hA1
      unfold series_seven_n0x_k1 at h
      refine ATodo.seq ?_
      refine ATodo.region ?_
      refine ARun.qv (q_move rfl) rfl ?_
      refine ARun.qv (q_move rfl) rfl ?_
      refine ARun.qv (q_conv_int rfl) rfl ?_
      refine n_buildSliceL (xs := ([IntKind.u8.wrap (n6)] : List Int).map (AV.int .u8)) rfl rfl rfl rfl rfl rfl ?_
      obtain ⟨l10, e2, h⟩ := bnd h
      refine t_append (g := (AV.int .u8)) rfl rfl rfl rfl rfl rfl rfl rfl (.list _) e2 (fun _ => .here) rfl (fun b11 => ?_)
      refine ARun.qv (q_assign rfl) rfl ?_
      refine ARun.nil ?_
      refine ATodo.ret ?_
      obtain rfl := Option.some.inj h
      exact ImpX.here ⟨_, .cons (.tmp _ _ rfl) .nil, _, .cons .here .nil, ⟨b11, rfl, rfl⟩⟩

set_option maxHeartbeats 4000000 in
theorem series_doubled_c {p0x0 : Int} {r : Int} (h : series_doubled p0x0 = r) : Pu Try.prog 246 [I p0x0] (.int .u64 r) := by
  unfold series_doubled at h
  refine ACall.bodyN Try.func246 rfl Try.ntmps246 Try.results246 rfl rfl ?_
  refine ATodo.seq ?_
  refine ATodo.region ?_
  refine ARun.qv (q_assign rfl) rfl ?_
  refine ARun.nil ?_
  refine ATodo.seq ?_
  refine ATodo.seq ?_
  refine ATodo.region ?_
  refine ARun.qv (q_move rfl) rfl ?_
  refine ARun.qv (q_lss rfl rfl) rfl ?_
  refine ARun.nil ?_
  refine ATodo.cond_d rfl (fun hc => ?_) (fun hc => ?_)
  · replace h := iteT hc h
    refine ATodo.seq ?_
    refine ATodo.region ?_
    refine ARun.qv (q_move rfl) rfl ?_
    refine ARun.qv (q_mulw rfl rfl) rfl ?_
    refine ARun.qv (q_subw rfl rfl) rfl ?_
    refine ARun.qv (q_conv_int rfl) rfl ?_
    refine ARun.qv (q_assign rfl) rfl ?_
    refine ARun.nil ?_
    refine ATodo.ret ?_
    obtain rfl := h
    exact ImpX.here ⟨_, .cons (.tmp _ _ rfl) .nil, rfl⟩
  · replace h := iteF hc h
    refine ATodo.skip ?_
    refine ATodo.seq ?_
    refine ATodo.region ?_
    refine ARun.qv (q_move rfl) rfl ?_
    refine ARun.qv (q_mulw rfl rfl) rfl ?_
    refine ARun.qv (q_conv_int rfl) rfl ?_
    refine ARun.qv (q_assign rfl) rfl ?_
    refine ARun.nil ?_
    refine ATodo.ret ?_
    obtain rfl := h
    exact ImpX.here ⟨_, .cons (.tmp _ _ rfl) .nil, rfl⟩

set_option maxHeartbeats 4000000 in
theorem series_seven_o0x_c {b_0 : Bk} {p0x0 : List Int} {p1x0 : Int} {r : (List Int)} (h : series_seven_o0x p0x0 p1x0 = some r) : ACall Try.prog 245 [.sl 1 b_0 0 p0x0.length, .int .u64 p1x0] [(b_0, .arr 1 (p0x0.map (AV.int .u8)))] (T1 (fun d_0 => [(d_0, .arr 1 (r.map (AV.int .u8)))]) (fun d_0 => .sl 1 d_0 0 r.length)) := by
  unfold series_seven_o0x at h
  refine ACall.lessH ?_
  refine ACall.bodyN Try.func245 rfl Try.ntmps245 Try.results245 rfl rfl ?_
  refine ATodo.seq ?_
  refine ATodo.region ?_
  refine ARun.qv (q_assign rfl) rfl ?_
  refine ARun.nil ?_
  refine ATodo.seq ?_
  refine ATodo.block ?_
  refine ATodo.loopI (fun x : (List Int) × Int => series_seven_o0x_b1 x.1 x.2) (fun x σ' => ∃ (b4 : Bk), σ' = ⟨21, [(0, .sl 1 b4 0 x.1.length), (1, .int .u64 x.2)], [(b4, .arr 1 (x.1.map (AV.int .u8)))]⟩) h ?_ ?_
  · exact ImpX.lessP (by exact ⟨rfl, rfl, True.intro⟩) (.cons .here .nil) (ImpX.here ⟨b_0, rfl⟩)
  · intro x z1 σ' J1 hmk h hJ1 hA1
    obtain ⟨l5, n6⟩ := x
    obtain ⟨b4, rfl⟩ := hmk
    replace h : series_seven_o0x_b1 l5 n6 = some z1 := h
    unfold series_seven_o0x_b1 at h
    refine ATodo.seq ?_
    refine ATodo.seq ?_
    refine ATodo.region ?_
    refine ARun.qv (q_move rfl) rfl ?_
    refine ARun.qv (q_geq rfl rfl) rfl ?_
    refine ARun.nil ?_
    refine ATodo.cond_d rfl (fun hc => ?_) (fun hc => ?_)
    · replace h := iteT hc h
      refine ATodo.skip ?_
      refine ATodo.block ?_
      refine ATodo.region ?_
      refine ARun.qv (q_move rfl) rfl ?_
      refine ARun.qv (q_move rfl) rfl ?_
      refine ARun.qv (t_and rfl rfl) rfl ?_
      refine ARun.qv (q_conv_int rfl) rfl ?_
      refine ARun.qv (t_or rfl rfl) rfl ?_
      refine n_buildSliceL (xs := ([orI .u8 (IntKind.u8.wrap (andI .u64 n6 (127 : Int))) (128 : Int)]).map (AV.int .u8)) rfl rfl rfl rfl rfl rfl ?_
      obtain ⟨l7, e1, h⟩ := bnd h
      refine t_append (g := (AV.int .u8)) rfl rfl rfl rfl rfl rfl rfl rfl (.list _) e1 (fun _ => .here) rfl (fun b8 => ?_)
      refine ARun.qv (q_move rfl) rfl ?_
      refine ARun.qv (t_shr rfl rfl (by decide)) rfl ?_
      refine ARun.qv (q_assign rfl) rfl ?_
      refine ARun.qv (q_assign rfl) rfl ?_
      refine ARun.nil ?_
      refine ATodo.blk ?_
      refine ATodo.stop ?_
      obtain rfl := Option.some.inj h
      refine hJ1 _ _ rfl ?_
      exact ImpX.lessP (by exact ⟨rfl, rfl, True.intro⟩) (.cons .here .nil) (ImpX.here ⟨b8, rfl⟩)
    · replace h := iteF hc h
      refine ATodo.exit rfl ?_
      replace h := outL h hA1
      unfold series_seven_o0x_k1 at h
      refine ATodo.seq ?_
      refine ATodo.region ?_
      refine ARun.qv (q_move rfl) rfl ?_
      refine ARun.qv (q_move rfl) rfl ?_
      refine ARun.qv (q_conv_int rfl) rfl ?_
      refine n_buildSliceL (xs := ([IntKind.u8.wrap (n6)] : List Int).map (AV.int .u8)) rfl rfl rfl rfl rfl rfl ?_
      obtain ⟨l9, e2, h⟩ := bnd h
      refine t_append (g := (AV.int .u8)) rfl rfl rfl rfl rfl rfl rfl rfl (.list _) e2 (fun _ => .here) rfl (fun b10 => ?_)
      refine ARun.qv (q_assign rfl) rfl ?_
      refine ARun.nil ?_
      refine ATodo.ret ?_
      obtain rfl := Option.some.inj h
      exact ImpX.here ⟨_, .cons (.tmp _ _ rfl) .nil, _, .cons .here .nil, ⟨b10, rfl, rfl⟩⟩

set_option maxHeartbeats 4000000 in
theorem series_pack_c {p0x0 : List Sample} {r : (List Int)} (h : series_pack p0x0 = some r) : ACall Try.prog 206 [.list 4 (p0x0.map Sample.av)] [] (T1 (fun d_0 => [(d_0, .arr 1 (r.map (AV.int .u8)))]) (fun d_0 => .sl 1 d_0 0 r.length)) := by
  unfold series_pack at h
  refine ACall.lessH ?_
  refine ACall.bodyN Try.func206 rfl Try.ntmps206 Try.results206 rfl rfl ?_
  refine ATodo.seq ?_
  refine ATodo.region ?_
  refine ARun.qv (q_assign rfl) rfl ?_
  refine ARun.nil ?_
  refine ATodo.seq ?_
  refine ATodo.region ?_
  refine ARun.qv (q_move rfl) rfl ?_
  refine ARun.qv (t_len rfl) rfl ?_
  refine ARun.qv (q_conv_int rfl) rfl ?_
  obtain ⟨v1, e1, h⟩ := bnd h
  refine t_call1 rfl (series_seven_n0x_c e1) (CoL.refl _) .nil (fun _ => rfl) rfl (fun b2 => ?_)
  refine ARun.qv (q_assign rfl) rfl ?_
  refine ARun.nil ?_
  refine ATodo.seq ?_
  refine ATodo.region ?_
  refine ARun.qv (q_assign rfl) rfl ?_
  refine ARun.qv (q_assign rfl) rfl ?_
  refine ARun.qv (q_assign rfl) rfl ?_
  refine ARun.nil ?_
  refine ATodo.seq ?_
  refine ATodo.seq ?_
  refine ATodo.region ?_
  refine ARun.qv (q_move rfl) rfl ?_
  refine ARun.qv (t_len rfl) rfl ?_
  refine ARun.qv (q_move rfl) rfl ?_
  refine ARun.nil ?_
  refine ATodo.block ?_
  refine ATodo.loopI (fun x : (List Int) × Int × Int × Int × Int => series_pack_b1 p0x0 x.1 x.2.1 x.2.2.1 x.2.2.2.1 x.2.2.2.2) (fun x σ' => ∃ (b9 : Bk), σ' = ⟨47, [(3, .sl 1 b9 0 x.1.length), (4, I x.2.1), (5, I x.2.2.1), (6, I x.2.2.2.1), (14, .list 4 (p0x0.map Sample.av)), (15, I (p0x0.length : Int)), (16, I x.2.2.2.2)], [(b9, .arr 1 (x.1.map (AV.int .u8)))]⟩) h ?_ ?_
  · exact ImpX.lessP (by exact ⟨rfl, rfl, rfl, rfl, rfl, rfl, rfl, True.intro⟩) (.cons .here .nil) (ImpX.here ⟨b2, rfl⟩)
  · intro x z1 σ' J1 hmk h hJ1 hA1
    obtain ⟨l10, n11, n12, n13, n14⟩ := x
    obtain ⟨b9, rfl⟩ := hmk
    replace h : series_pack_b1 p0x0 l10 n11 n12 n13 n14 = some z1 := h
    unfold series_pack_b1 at h
    refine ATodo.seq ?_
    refine ATodo.region ?_
    refine ARun.qv (q_lss rfl rfl) rfl ?_
    refine ARun.nil ?_
    refine ATodo.seq ?_
    refine ATodo.cond_d rfl (fun hc => ?_) (fun hc => ?_)
    · replace h := iteT hc h
      refine ATodo.skip ?_
      refine ATodo.seq ?_
      refine ATodo.block ?_
      refine ATodo.seq ?_
      refine ATodo.region ?_
      refine ARun.qv (q_move rfl) rfl ?_
      obtain ⟨v15, e2, h⟩ := bnd h
      refine ARun.qv (t_index rfl rfl rfl e2 rfl rfl) rfl ?_
      refine ARun.qv (q_load_rptr_agg rfl rfl rfl) rfl ?_
      refine n_alloc rfl rfl rfl rfl (fun b16 => ?_)
      refine ARun.qv (q_assign rfl) rfl ?_
      refine n_store_ptr rfl rfl rfl rfl .here rfl rfl ?_
      refine ARun.nil ?_
      refine ATodo.seq ?_
      refine ATodo.region ?_
      refine ARun.qv (n_field_ptr rfl rfl) rfl ?_
      refine ARun.qv (q_load_ptr rfl rfl .here rfl) rfl ?_
      refine ARun.qv (q_move rfl) rfl ?_
      refine ARun.qv (q_subw rfl rfl) rfl ?_
      refine ARun.qv (q_assign rfl) rfl ?_
      refine ARun.nil ?_
      refine ATodo.seq ?_
      refine ATodo.region ?_
      refine ARun.qv (q_move rfl) rfl ?_
      refine ARun.qv (q_move rfl) rfl ?_
      refine ARun.qv (q_move rfl) rfl ?_
      refine ARun.qv (q_subw rfl rfl) rfl ?_
      refine r_callp rfl (series_doubled_c rfl) (CoL.refl _) rfl ?_
      obtain ⟨v17, e3, h⟩ := bnd h
      refine t_call1 rfl (series_seven_o0x_c e3) (CoL.refl _) (.cons (.next .here) .nil) (fun _ => rfl) rfl (fun b18 => ?_)
      refine ARun.qv (q_assign rfl) rfl ?_
      refine ARun.nil ?_
      refine ATodo.seq ?_
      refine ATodo.region ?_
      refine ARun.qv (q_move rfl) rfl ?_
      refine ARun.qv (n_field_ptr rfl rfl) rfl ?_
      refine ARun.qv (q_load_ptr rfl rfl (.next .here) rfl) rfl ?_
      refine ARun.qv (q_move rfl) rfl ?_
      refine ARun.qv (q_subw rfl rfl) rfl ?_
      refine r_callp rfl (series_doubled_c rfl) (CoL.refl _) rfl ?_
      obtain ⟨v19, e4, h⟩ := bnd h
      refine t_call1 rfl (series_seven_o0x_c e4) (CoL.refl _) (.cons .here .nil) (fun _ => rfl) rfl (fun b20 => ?_)
      refine ARun.qv (q_assign rfl) rfl ?_
      refine ARun.nil ?_
      refine ATodo.seq ?_
      refine ATodo.seq ?_
      refine ATodo.region ?_
      refine ARun.qv (q_move rfl) rfl ?_
      refine ARun.qv (q_gtr rfl rfl) rfl ?_
      refine ARun.nil ?_
      refine ATodo.cut (fun σ' => ∃ (n21 : Int), series_pack_j1 n14 v15 v19 n21 = some z1 ∧ σ' = ⟨47, [(3, .sl 1 b20 0 v19.length), (5, I n21), (8, .ptr b16 0), (14, .list 4 (p0x0.map Sample.av)), (15, I (p0x0.length : Int)), (16, I n14)], [(b20, .arr 1 (v19.map (AV.int .u8))), (b16, .cells [.str v15.Device, .str v15.Metric, I v15.At, I v15.Value])]⟩) ?_ ?_
      · refine ATodo.cond_d rfl (fun hc => ?_) (fun hc => ?_)
        · replace h := iteT hc h
          refine ATodo.region ?_
          refine ARun.qv (q_move rfl) rfl ?_
          refine ARun.qv (q_assign rfl) rfl ?_
          refine ARun.nil ?_
          refine ATodo.stop ?_
          exact ImpX.lessP (by exact ⟨rfl, rfl, rfl, rfl, rfl, rfl, True.intro⟩) (.cons .here (.cons .here .nil)) (ImpX.here ⟨w64 (v15.At - n11), h, rfl⟩)
        · replace h := iteF hc h
          refine ATodo.skip ?_
          refine ATodo.stop ?_
          exact ImpX.lessP (by exact ⟨rfl, rfl, rfl, rfl, rfl, rfl, True.intro⟩) (.cons .here (.cons .here .nil)) (ImpX.here ⟨n12, h, rfl⟩)
      · rintro σ' ⟨n21, h, rfl⟩
        unfold series_pack_j1 at h
        refine ATodo.regionM (id := 11) (A := [0, 1, 0, 4, 3, 31]) 6 mixed rfl (by kernel_rfl) (by kernel_rfl) ?_
        refine AM.qv (n_field_ptr rfl rfl) rfl ?_
        refine AM.qv (q_load_ptr rfl rfl (.next .here) rfl) rfl ?_
        refine AM.qv (n_field_ptr rfl rfl) rfl ?_
        refine AM.qv (q_load_ptr rfl rfl (.next .here) rfl) rfl ?_
        refine AM.qv (q_assign rfl) rfl ?_
        refine AM.qv (q_assign rfl) rfl ?_
        refine AM.nil ?_
        refine ARun.nil ?_
        refine ATodo.blk ?_
        refine ATodo.region ?_
        refine ARun.qv (q_addw rfl rfl) rfl ?_
        refine ARun.qv (q_move rfl) rfl ?_
        refine ARun.nil ?_
        refine ATodo.stop ?_
        obtain rfl := Option.some.inj h
        refine hJ1 _ _ rfl ?_
        exact ImpX.lessP (by exact ⟨rfl, rfl, rfl, rfl, rfl, rfl, rfl, True.intro⟩) (.cons .here .nil) (ImpX.here ⟨b20, rfl⟩)
    · replace h := iteF hc h
      refine ATodo.exit rfl ?_
      replace h := outL h hA1
      refine ATodo.seq ?_
      refine ATodo.region ?_
      refine ARun.qv (q_move rfl) rfl ?_
      refine ARun.qv (q_assign rfl) rfl ?_
      refine ARun.nil ?_
      refine ATodo.ret ?_
      obtain rfl := Option.some.inj h
      exact ImpX.here ⟨_, .cons (.tmp _ _ rfl) .nil, _, .cons .here .nil, ⟨b9, rfl, rfl⟩⟩

set_option maxHeartbeats 4000000 in
theorem series_Pack_c {p0x0 : List Sample} {r : (List Int) × Int} (h : series_Pack p0x0 = some r) : ACall Try.prog 144 [.list 4 (p0x0.map Sample.av)] [] (T1 (fun d_0 => [(d_0, .arr 1 (r.1.map (AV.int .u8)))]) (fun d_0 => .tup [.sl 1 d_0 0 r.1.length, I r.2])) := by
  unfold series_Pack at h
  refine ACall.lessH ?_
  refine ACall.bodyN Try.func144 rfl Try.ntmps144 Try.results144 rfl rfl ?_
  refine ATodo.seq ?_
  refine ATodo.region ?_
  refine ARun.qv (q_assign rfl) rfl ?_
  refine ARun.qv (q_assign rfl) rfl ?_
  refine ARun.nil ?_
  refine ATodo.seq ?_
  refine ATodo.seq ?_
  refine ATodo.region ?_
  refine ARun.qv (q_move rfl) rfl ?_
  obtain ⟨v1, e1, h⟩ := bnd h
  refine r_callp rfl (series_CheckSeries_c e1) (CoL.refl _) rfl ?_
  refine ARun.qv (q_assign rfl) rfl ?_
  refine ARun.nil ?_
  refine ATodo.seq ?_
  refine ATodo.region ?_
  refine ARun.qv (q_move rfl) rfl ?_
  refine ARun.qv (q_neq rfl rfl) rfl ?_
  refine ARun.nil ?_
  refine ATodo.cond_d rfl (fun hc => ?_) (fun hc => ?_)
  · replace h := iteT hc h
    refine ATodo.seq ?_
    refine ATodo.region ?_
    refine ARun.qv (q_move rfl) rfl ?_
    refine ARun.qv (q_assign rfl) rfl ?_
    refine ARun.qv (q_assign rfl) rfl ?_
    refine ARun.nil ?_
    refine ATodo.ret ?_
    obtain rfl := Option.some.inj h
    refine ImpX.arr (s := 2) 1 rfl (fun b2 => ?_)
    exact ImpX.here ⟨_, .cons (.tmp _ _ rfl) (.cons (.tmp _ _ rfl) .nil), _, .cons .here .nil, ⟨b2, rfl, rfl⟩⟩
  · replace h := iteF hc h
    refine ATodo.skip ?_
    refine ATodo.seq ?_
    refine ATodo.region ?_
    refine ARun.qv (q_move rfl) rfl ?_
    obtain ⟨v3, e2, h⟩ := bnd h
    refine t_call1 rfl (series_pack_c e2) (CoL.refl _) .nil (fun _ => rfl) rfl (fun b4 => ?_)
    refine ARun.qv (q_assign rfl) rfl ?_
    refine ARun.qv (q_assign rfl) rfl ?_
    refine ARun.nil ?_
    refine ATodo.ret ?_
    obtain rfl := Option.some.inj h
    exact ImpX.here ⟨_, .cons (.tmp _ _ rfl) (.cons (.tmp _ _ rfl) .nil), _, .cons .here .nil, ⟨b4, rfl, rfl⟩⟩

set_option maxHeartbeats 4000000 in
theorem slices_Equal_byte_byte_c {p0x0 : List Int} {p1x0 : List Int} {r : Bool} (h : slices_Equal_byte_byte p0x0 p1x0 = some r) : Pu Try.prog 145 [.list 1 (p0x0.map (AV.int .u8)), .list 1 (p1x0.map (AV.int .u8))] (.bool r) := by
  unfold slices_Equal_byte_byte at h
  refine ACall.bodyN Try.func145 rfl Try.ntmps145 Try.results145 rfl rfl ?_
  refine ATodo.seq ?_
  refine ATodo.region ?_
  refine ARun.qv (q_assign rfl) rfl ?_
  refine ARun.nil ?_
  refine ATodo.seq ?_
  refine ATodo.seq ?_
  refine ATodo.region ?_
  refine ARun.qv (q_move rfl) rfl ?_
  refine ARun.qv (t_len rfl) rfl ?_
  refine ARun.qv (q_move rfl) rfl ?_
  refine ARun.qv (t_len rfl) rfl ?_
  refine ARun.qv (q_neq rfl rfl) rfl ?_
  refine ARun.nil ?_
  refine ATodo.cond_d rfl (fun hc => ?_) (fun hc => ?_)
  · replace h := iteT hc h
    refine ATodo.seq ?_
    refine ATodo.region ?_
    refine ARun.qv (q_assign rfl) rfl ?_
    refine ARun.nil ?_
    refine ATodo.ret ?_
    obtain rfl := Option.some.inj h
    exact ImpX.here ⟨_, .cons (.tmp _ _ rfl) .nil, rfl⟩
  · replace h := iteF hc h
    refine ATodo.skip ?_
    refine ATodo.seq ?_
    refine ATodo.seq ?_
    refine ATodo.region ?_
    refine ARun.qv (q_move rfl) rfl ?_
    refine ARun.qv (t_len rfl) rfl ?_
    refine ARun.qv (q_move rfl) rfl ?_
    refine ARun.nil ?_
    refine ATodo.block ?_
    refine ATodo.loopI (fun x : Int => slices_Equal_byte_byte_b1 p0x0 p1x0 x) (fun x σ' => σ' = ⟨26, [(0, .list 1 (p0x0.map (AV.int .u8))), (1, .list 1 (p1x0.map (AV.int .u8))), (12, I (p0x0.length : Int)), (13, I x)], []⟩) h ?_ ?_
    · exact ImpX.lessP (by exact ⟨rfl, rfl, rfl, rfl, True.intro⟩) (.nil) (ImpX.here rfl)
    · intro n2 z1 σ' J1 hmk h hJ1 hA1
      obtain rfl := hmk
      replace h : slices_Equal_byte_byte_b1 p0x0 p1x0 n2 = some z1 := h
      unfold slices_Equal_byte_byte_b1 at h
      refine ATodo.seq ?_
      refine ATodo.region ?_
      refine ARun.qv (q_lss rfl rfl) rfl ?_
      refine ARun.nil ?_
      refine ATodo.seq ?_
      refine ATodo.cond_d rfl (fun hc => ?_) (fun hc => ?_)
      · replace h := iteT hc h
        refine ATodo.skip ?_
        refine ATodo.seq ?_
        refine ATodo.block ?_
        refine ATodo.seq ?_
        refine ATodo.region ?_
        refine ARun.qv (q_move rfl) rfl ?_
        refine ARun.qv (q_assign rfl) rfl ?_
        refine ARun.nil ?_
        refine ATodo.seq ?_
        refine ATodo.regionM (id := 6) (A := [0, 0, 3, 7, 0, 0, 48, 112, 255]) 9 mixed rfl (by kernel_rfl) (by kernel_rfl) ?_
        refine AM.qv (q_move rfl) rfl ?_
        refine AM.qv (q_move rfl) rfl ?_
        obtain ⟨v3, e1, h⟩ := bnd h
        refine AM.qv (t_index rfl rfl rfl e1 rfl rfl) rfl ?_
        refine AM.qv (q_load_rptr rfl rfl rfl) rfl ?_
        refine AM.qv (q_move rfl) rfl ?_
        refine AM.qv (q_move rfl) rfl ?_
        obtain ⟨v4, e2, h⟩ := bnd h
        refine AM.qv (t_index rfl rfl rfl e2 rfl rfl) rfl ?_
        refine AM.qv (q_load_rptr rfl rfl rfl) rfl ?_
        refine AM.qv (q_neq rfl rfl) rfl ?_
        refine AM.nil ?_
        refine ARun.nil ?_
        refine ATodo.cond_d rfl (fun hc => ?_) (fun hc => ?_)
        · replace h := iteT hc h
          refine ATodo.seq ?_
          refine ATodo.region ?_
          refine ARun.qv (q_assign rfl) rfl ?_
          refine ARun.nil ?_
          refine ATodo.ret ?_
          replace h := outL h hA1
          obtain rfl := Option.some.inj h
          exact ImpX.here ⟨_, .cons (.tmp _ _ rfl) .nil, rfl⟩
        · replace h := iteF hc h
          refine ATodo.skip ?_
          refine ATodo.blk ?_
          refine ATodo.region ?_
          refine ARun.qv (q_addw rfl rfl) rfl ?_
          refine ARun.qv (q_move rfl) rfl ?_
          refine ARun.nil ?_
          refine ATodo.stop ?_
          obtain rfl := Option.some.inj h
          refine hJ1 _ _ rfl ?_
          exact ImpX.lessP (by exact ⟨rfl, rfl, rfl, rfl, True.intro⟩) (.nil) (ImpX.here rfl)
      · replace h := iteF hc h
        refine ATodo.exit rfl ?_
        replace h := outL h hA1
        refine ATodo.seq ?_
        refine ATodo.region ?_
        refine ARun.qv (q_assign rfl) rfl ?_
        refine ARun.nil ?_
        refine ATodo.ret ?_
        obtain rfl := Option.some.inj h
        exact ImpX.here ⟨_, .cons (.tmp _ _ rfl) .nil, rfl⟩

set_option maxHeartbeats 4000000 in
theorem L_measured_c {r : Bool} (h : L_measured = some r) : Pu Try.prog 65 [] (.bool r) := by
  unfold L_measured at h
  refine ACall.bodyN Try.func65 rfl Try.ntmps65 Try.results65 rfl rfl ?_
  refine ATodo.seq ?_
  refine ATodo.region ?_
  refine ARun.qv (q_assign rfl) rfl ?_
  refine ARun.nil ?_
  refine ATodo.seq ?_
  refine ATodo.region ?_
  refine ARun.qv (n_build rfl rfl rfl rfl rfl) rfl ?_
  refine n_buildSliceL (xs := ([(⟨([100] : Str), ([109] : Str), (1 : Int), (1 : Int)⟩ : Sample)]).map Sample.av) rfl rfl rfl rfl rfl rfl ?_
  obtain ⟨v1, e1, h⟩ := bnd h
  refine t_call1 rfl (series_Pack_c e1) (CoL.refl _) .nil (fun _ => rfl) rfl (fun b2 => ?_)
  refine ARun.qv (q_move rfl) rfl ?_
  refine ARun.qv (q_extract rfl rfl) rfl ?_
  refine ARun.qv (q_extract rfl rfl) rfl ?_
  refine ARun.qv (q_assign rfl) rfl ?_
  refine ARun.qv (q_assign rfl) rfl ?_
  refine ARun.nil ?_
  refine ATodo.seq ?_
  refine ATodo.cut (fun σ' => ∃ (c3 : Bool), L_measured_j1 c3 = some r ∧ σ' = ⟨16, [(0, .bool c3)], []⟩) ?_ ?_
  · refine ATodo.region ?_
    refine ARun.qv (q_move rfl) rfl ?_
    refine ARun.qv (q_eql rfl rfl) rfl ?_
    refine ARun.qv (q_move rfl) rfl ?_
    refine ARun.guard_dt rfl rfl rfl (fun hc => ?_) (fun hc => ?_)
    · replace h := iteT hc h
      refine ARun.qv (q_move rfl) rfl ?_
      refine ARun.guard_yes rfl rfl rfl ?_
      refine n_buildSliceL (xs := ([(1 : Int), (2 : Int), (2 : Int)]).map (AV.int .u8)) rfl rfl rfl rfl rfl rfl ?_
      refine ARun.guard_yes rfl rfl rfl ?_
      obtain ⟨v4, e2, h⟩ := bnd h
      refine r_callpB rfl (slices_Equal_byte_byte_c e2) (.cons (CoB.arrT .here) (.cons (.co (.refl _)) .nil)) rfl rfl ?_
      refine ARun.qv (q_pick_t rfl rfl) rfl ?_
      refine ARun.qv (q_assign rfl) rfl ?_
      refine ARun.nil ?_
      refine ATodo.stop ?_
      exact ImpX.lessP (by exact ⟨rfl, True.intro⟩) (.nil) (ImpX.here ⟨v4, h, rfl⟩)
    · replace h := iteF hc h
      refine ARun.guard_no rfl rfl rfl rfl ?_
      refine ARun.guard_no rfl rfl rfl rfl ?_
      refine ARun.qv (q_pick_f rfl rfl) rfl ?_
      refine ARun.qv (q_assign rfl) rfl ?_
      refine ARun.nil ?_
      refine ATodo.stop ?_
      exact ImpX.lessP (by exact ⟨rfl, True.intro⟩) (.nil) (ImpX.here ⟨false, h, rfl⟩)
  · rintro σ' ⟨c3, h, rfl⟩
    unfold L_measured_j1 at h
    refine ATodo.ret ?_
    obtain rfl := Option.some.inj h
    exact ImpX.here ⟨_, .cons (.tmp _ _ rfl) .nil, rfl⟩

set_option maxHeartbeats 4000000 in
theorem L_ValuesHeld_c {p0x0 : List Int} {r : Bool} (h : L_ValuesHeld p0x0 = some r) : Pu Try.prog 7 [.list 1 (p0x0.map I)] (.bool r) := by
  unfold L_ValuesHeld at h
  refine ACall.bodyN Try.func7 rfl Try.ntmps7 Try.results7 rfl rfl ?_
  refine ATodo.seq ?_
  refine ATodo.region ?_
  refine ARun.qv (q_assign rfl) rfl ?_
  refine ARun.nil ?_
  refine ATodo.seq ?_
  refine ATodo.region ?_
  refine ARun.qv (q_move rfl) rfl ?_
  refine ARun.qv (n_build rfl rfl rfl rfl rfl) rfl ?_
  refine n_box rfl rfl rfl rfl (fun b1 => ?_)
  refine ARun.qv (q_assign rfl) rfl ?_
  refine ARun.nil ?_
  refine ATodo.seq ?_
  refine ATodo.region ?_
  refine ARun.qv (q_move rfl) rfl ?_
  obtain ⟨v2, e1, h⟩ := bnd h
  refine t_call1 rfl (Stream_Series_c e1) (CoL.refl _) (.cons .here .nil) (fun _ => rfl) rfl (fun b3 => ?_)
  refine ARun.qv (q_move rfl) rfl ?_
  obtain ⟨v4, e2, h⟩ := bnd h
  refine t_call0 rfl (Stream_Frame_c e2) (CoL.refl _) (.cons .here .nil) rfl rfl ?_
  refine ARun.qv (q_move rfl) rfl ?_
  refine n_buildSliceL (xs := ([(1 : Int), (250 : Int), (500 : Int), (501 : Int), (999 : Int), (1000 : Int), (0 : Int), (1001 : Int)]).map I) rfl rfl rfl rfl rfl rfl ?_
  obtain ⟨v5, e3, h⟩ := bnd h
  refine t_call0 rfl (Stream_Pick_c e3) (CoL.refl _) (.cons .here .nil) rfl rfl ?_
  refine n_alloc rfl rfl rfl rfl (fun b6 => ?_)
  refine ARun.qv (q_assign rfl) rfl ?_
  refine n_store_ptr rfl rfl rfl rfl .here rfl rfl ?_
  refine ARun.qv (q_assign rfl) rfl ?_
  refine ARun.nil ?_
  refine ATodo.seq ?_
  refine ATodo.region ?_
  refine ARun.qv (q_move rfl) rfl ?_
  refine n_buildSliceL (xs := ([(0 : Int), (1 : Int), (-5 : Int), (9 : Int)]).map I) rfl rfl rfl rfl rfl rfl ?_
  obtain ⟨v7, e4, h⟩ := bnd h
  refine t_call0 rfl (Stream_Pick_c e4) (CoL.refl _) (.cons (.next .here) .nil) rfl rfl ?_
  refine ARun.qv (q_move rfl) rfl ?_
  refine n_buildSliceL (xs := ([(0 : Int), (5 : Int), (7 : Int), (9 : Int)]).map I) rfl rfl rfl rfl rfl rfl ?_
  obtain ⟨v8, e5, h⟩ := bnd h
  refine t_call0 rfl (Stream_Pick_c e5) (CoL.refl _) (.cons .here .nil) rfl rfl ?_
  refine ARun.qv (q_assign rfl) rfl ?_
  refine ARun.qv (q_assign rfl) rfl ?_
  refine ARun.nil ?_
  refine ATodo.seq ?_
  refine ATodo.region ?_
  refine ARun.qv (q_move rfl) rfl ?_
  refine ARun.qv (q_load_ptr_all rfl rfl (.next .here) rfl) rfl ?_
  obtain ⟨v9, e6, h⟩ := bnd h
  refine r_callpB rfl (series_Held_c e6) (.cons (CoB.arrT (.next (.next .here))) (.cons (.co (.refl _)) .nil)) rfl rfl ?_
  refine ARun.qv (q_move rfl) rfl ?_
  refine ARun.qv (q_extract rfl rfl) rfl ?_
  refine ARun.qv (q_extract rfl rfl) rfl ?_
  refine n_alloc rfl rfl rfl rfl (fun b10 => ?_)
  refine n_store_ptr rfl rfl rfl rfl .here rfl rfl ?_
  refine ARun.qv (q_assign rfl) rfl ?_
  refine ARun.nil ?_
  refine ATodo.seq ?_
  refine ATodo.region ?_
  refine ARun.qv (q_move rfl) rfl ?_
  refine ARun.qv (q_move rfl) rfl ?_
  obtain ⟨v11, e7, h⟩ := bnd h
  refine r_callpB rfl (series_Quantile_c e7) (.cons (CoB.arrT (.next (.next (.next .here)))) (.cons (.co (.refl _)) .nil)) rfl rfl ?_
  refine ARun.qv (q_move rfl) rfl ?_
  refine ARun.qv (q_extract rfl rfl) rfl ?_
  refine ARun.qv (q_extract rfl rfl) rfl ?_
  refine ARun.qv (q_assign rfl) rfl ?_
  refine ARun.qv (q_assign rfl) rfl ?_
  refine ARun.nil ?_
  refine ATodo.seq ?_
  refine ATodo.region ?_
  refine ARun.qv (q_move rfl) rfl ?_
  refine ARun.qv (q_load_ptr_all rfl rfl (.next (.next .here)) rfl) rfl ?_
  refine ARun.qv (q_move rfl) rfl ?_
  refine ARun.qv (q_move rfl) rfl ?_
  obtain ⟨v12, e8, h⟩ := bnd h
  refine ARun.ghost (ImpX.freeze (.next (.next (.next .here))) (ImpX.here ?_))
  refine t_call1 rfl (series_Beyond_c e8) (.cons (Co.froT (.next (.next (.next .here)))) (.cons (.refl _) (.cons (.refl _) (.cons (.refl _) .nil)))) .nil (fun _ => rfl) rfl (fun b13 => ?_)
  refine ARun.qv (q_move rfl) rfl ?_
  refine ARun.qv (q_extract rfl rfl) rfl ?_
  refine ARun.qv (q_extract rfl rfl) rfl ?_
  refine ARun.qv (q_assign rfl) rfl ?_
  refine ARun.qv (q_assign rfl) rfl ?_
  refine ARun.nil ?_
  refine ATodo.seq ?_
  refine ATodo.region ?_
  refine ARun.qv (q_move rfl) rfl ?_
  obtain ⟨v14, e9, h⟩ := bnd h
  refine r_callp rfl (Q_SeriesFault_c e9) (.cons (Co.froT (.next (.next (.next (.next .here))))) .nil) rfl ?_
  refine ARun.qv (q_assign rfl) rfl ?_
  refine ARun.nil ?_
  refine ATodo.seq ?_
  refine ATodo.region ?_
  refine ARun.qv (q_move rfl) rfl ?_
  refine ARun.qv (q_load_ptr_all rfl rfl (.next (.next (.next .here))) rfl) rfl ?_
  refine r_callp rfl (Q_WindowFault_c rfl) (CoL.refl _) rfl ?_
  refine n_buildSliceL (xs := ([v14, (Q_WindowFault v4.1)] : List Int).map I) rfl rfl rfl rfl rfl rfl ?_
  obtain ⟨v15, e10, h⟩ := bnd h
  refine r_callp rfl (L_errs_c e10) (CoL.refl _) rfl ?_
  refine ARun.qv (q_assign rfl) rfl ?_
  refine ARun.nil ?_
  refine ATodo.seq ?_
  refine ATodo.region ?_
  refine ARun.qv (q_move rfl) rfl ?_
  refine ARun.qv (n_field_ptr rfl rfl) rfl ?_
  refine ARun.qv (q_load_ptr rfl rfl (.next (.next (.next .here))) rfl) rfl ?_
  refine ARun.qv (n_field_ptr rfl rfl) rfl ?_
  refine ARun.qv (q_load_ptr rfl rfl (.next (.next (.next .here))) rfl) rfl ?_
  refine ARun.qv (q_subw rfl rfl) rfl ?_
  refine ARun.qv (q_gtr rfl rfl) rfl ?_
  refine r_callp rfl (L_when_c rfl) (CoL.refl _) rfl ?_
  refine n_buildSliceL (xs := ([v15, (L_when (decide ((7776000000 : Int) < (w64 (v4.1.To - v4.1.From)))) (2 : Int))]).map I) rfl rfl rfl rfl rfl rfl ?_
  obtain ⟨v16, e11, h⟩ := bnd h
  refine r_callp rfl (L_errs_c e11) (CoL.refl _) rfl ?_
  refine ARun.qv (q_assign rfl) rfl ?_
  refine ARun.nil ?_
  refine ATodo.seq ?_
  refine ATodo.cut (fun σ' => ∃ (n17 : Int), L_ValuesHeld_j1 v2 v4 v5 v7 v8 v9 v11 v12 v15 v16 n17 = some r ∧ σ' = ⟨155, [(4, .sl 4 b3 0 v2.1.length), (5, .ptr b6 0), (6, I v5.1), (7, I v7.1), (8, I v8.1), (9, .ptr b10 0), (10, I v9.2), (11, I v11.1), (12, I v11.2), (13, .sl 2 b13 0 v12.1.length), (14, I v12.2), (16, I v15), (17, I v16), (18, I n17)], [(b3, .fro 4 (v2.1.map Sample.av)), (b6, .cells [I v4.1.From, I v4.1.To]), (b10, .cells [I v9.1.Num, I v9.1.Den]), (b13, .arr 2 (v12.1.map Window.av))]⟩) ?_ ?_
  · refine ATodo.region ?_
    refine ARun.qv (q_move rfl) rfl ?_
    refine ARun.qv (q_move rfl) rfl ?_
    refine ARun.qv (q_lss rfl rfl) rfl ?_
    refine ARun.qv (q_move rfl) rfl ?_
    refine ARun.guard_df rfl rfl rfl (fun hc => ?_) (fun hc => ?_)
    · replace h := iteF hc h
      refine ARun.qv (q_move rfl) rfl ?_
      refine ARun.guard_yes rfl rfl rfl ?_
      refine ARun.qv (q_gtr rfl rfl) rfl ?_
      refine ARun.qv (q_pick_f rfl rfl) rfl ?_
      refine r_callp rfl (L_when_c rfl) (CoL.refl _) rfl ?_
      refine ARun.qv (q_move rfl) rfl ?_
      refine ARun.qv (t_len_sl rfl) rfl ?_
      refine ARun.qv (q_eql rfl rfl) rfl ?_
      refine r_callp rfl (L_when_c rfl) (CoL.refl _) rfl ?_
      refine n_buildSliceL (xs := ([v14, (L_when (decide ((1000 : Int) < v5.1)) (1 : Int)), (L_when (decide ((v2.1.length : Int) = (0 : Int))) (8 : Int))]).map I) rfl rfl rfl rfl rfl rfl ?_
      obtain ⟨v18, e12, h⟩ := bnd h
      refine r_callp rfl (L_errs_c e12) (CoL.refl _) rfl ?_
      refine ARun.qv (q_assign rfl) rfl ?_
      refine ARun.nil ?_
      refine ATodo.stop ?_
      exact ImpX.lessP (by exact ⟨rfl, rfl, rfl, rfl, rfl, rfl, rfl, rfl, rfl, rfl, rfl, rfl, rfl, rfl, True.intro⟩) (.cons (.next (.next (.next (.next .here)))) (.cons (.next (.next (.next .here))) (.cons (.next .here) (.cons .here .nil)))) (ImpX.here ⟨v18, h, rfl⟩)
    · replace h := iteT hc h
      refine ARun.guard_no rfl rfl rfl rfl ?_
      refine ARun.qv (q_pick_t rfl rfl) rfl ?_
      refine r_callp rfl (L_when_c rfl) (CoL.refl _) rfl ?_
      refine ARun.qv (q_move rfl) rfl ?_
      refine ARun.qv (t_len_sl rfl) rfl ?_
      refine ARun.qv (q_eql rfl rfl) rfl ?_
      refine r_callp rfl (L_when_c rfl) (CoL.refl _) rfl ?_
      refine n_buildSliceL (xs := ([v14, (L_when true (1 : Int)), (L_when (decide ((v2.1.length : Int) = (0 : Int))) (8 : Int))]).map I) rfl rfl rfl rfl rfl rfl ?_
      obtain ⟨v19, e13, h⟩ := bnd h
      refine r_callp rfl (L_errs_c e13) (CoL.refl _) rfl ?_
      refine ARun.qv (q_assign rfl) rfl ?_
      refine ARun.nil ?_
      refine ATodo.stop ?_
      exact ImpX.lessP (by exact ⟨rfl, rfl, rfl, rfl, rfl, rfl, rfl, rfl, rfl, rfl, rfl, rfl, rfl, rfl, True.intro⟩) (.cons (.next (.next (.next (.next .here)))) (.cons (.next (.next (.next .here))) (.cons (.next .here) (.cons .here .nil)))) (ImpX.here ⟨v19, h, rfl⟩)
  · rintro σ' ⟨n17, h, rfl⟩
    unfold L_ValuesHeld_j1 at h
    refine ATodo.seq ?_
    refine ATodo.region ?_
    refine ARun.qv (q_move rfl) rfl ?_
    refine ARun.qv (q_move rfl) rfl ?_
    refine ARun.qv (q_move rfl) rfl ?_
    refine ARun.qv (q_gtr rfl rfl) rfl ?_
    refine r_callp rfl (L_when_c rfl) (CoL.refl _) rfl ?_
    refine n_buildSliceL (xs := ([v15, (L_when (decide (v8.1 < v7.1)) (1 : Int))]).map I) rfl rfl rfl rfl rfl rfl ?_
    obtain ⟨v20, e14, h⟩ := bnd h
    refine r_callp rfl (L_errs_c e14) (CoL.refl _) rfl ?_
    refine ARun.qv (q_assign rfl) rfl ?_
    refine ARun.nil ?_
    refine ATodo.seq ?_
    refine ATodo.region ?_
    refine ARun.qv (n_build rfl rfl rfl rfl rfl) rfl ?_
    refine n_alloc rfl rfl rfl rfl (fun b21 => ?_)
    refine n_store_ptr rfl rfl rfl rfl .here rfl rfl ?_
    refine ARun.nil ?_
    refine ATodo.seq ?_
    refine ATodo.seq ?_
    refine ATodo.region ?_
    refine ARun.qv (q_move rfl) rfl ?_
    refine ARun.qv (q_eql rfl rfl) rfl ?_
    refine ARun.nil ?_
    refine ATodo.cut (fun σ' => ∃ (n22 : Int) (n23 : Int) (n24 : Int), L_ValuesHeld_j2 v2 v4 v5 v7 v8 v9 v11 v12 n17 v20 n22 n23 n24 = some r ∧ σ' = ⟨155, [(4, .sl 4 b3 0 v2.1.length), (5, .ptr b6 0), (6, I v5.1), (7, I v7.1), (8, I v8.1), (9, .ptr b10 0), (10, I v9.2), (11, I v11.1), (12, I v11.2), (13, .sl 2 b13 0 v12.1.length), (14, I v12.2), (17, I n22), (18, I n17), (19, I v20), (20, .ptr b21 0)], [(b3, .fro 4 (v2.1.map Sample.av)), (b6, .cells [I v4.1.From, I v4.1.To]), (b10, .cells [I v9.1.Num, I v9.1.Den]), (b13, .arr 2 (v12.1.map Window.av)), (b21, .cells [I n23, I n24])]⟩) ?_ ?_
    · refine ATodo.cond_d rfl (fun hc => ?_) (fun hc => ?_)
      · replace h := iteT hc h
        refine ATodo.seq ?_
        refine ATodo.region ?_
        refine ARun.qv (q_move rfl) rfl ?_
        refine ARun.qv (q_load_ptr_all rfl rfl (.next (.next .here)) rfl) rfl ?_
        obtain ⟨v25, e15, h⟩ := bnd h
        refine r_callp rfl (Q_HeldOf_c e15) (.cons (Co.froT (.next .here)) (.cons (.refl _) .nil)) rfl ?_
        refine ARun.qv (q_move rfl) rfl ?_
        refine ARun.qv (q_extract rfl rfl) rfl ?_
        refine ARun.qv (q_extract rfl rfl) rfl ?_
        refine n_alloc rfl rfl rfl rfl (fun b26 => ?_)
        refine n_store_ptr rfl rfl rfl rfl .here rfl rfl ?_
        refine ARun.qv (q_assign rfl) rfl ?_
        refine ARun.nil ?_
        refine ATodo.regionM (id := 15) (A := [0, 0, 2, 6, 15, 31]) 4 mixed rfl (by kernel_rfl) (by kernel_rfl) ?_
        refine AM.qv (q_load_ptr_all rfl rfl .here rfl) rfl ?_
        refine AM.qv (q_move rfl) rfl ?_
        refine AM.qv (q_not rfl) rfl ?_
        refine AM.callp rfl (L_when_c rfl) (CoL.refl _) rfl ?_
        refine AM.nil ?_
        refine n_store_ptr rfl rfl rfl rfl (.next .here) rfl rfl ?_
        refine ARun.qv (q_assign rfl) rfl ?_
        refine ARun.nil ?_
        refine ATodo.stop ?_
        exact ImpX.lessP (by exact ⟨rfl, rfl, rfl, rfl, rfl, rfl, rfl, rfl, rfl, rfl, rfl, rfl, rfl, rfl, rfl, True.intro⟩) (.cons (.next (.next .here)) (.cons (.next (.next .here)) (.cons (.next (.next .here)) (.cons (.next (.next .here)) (.cons (.next .here) .nil))))) (ImpX.here ⟨(L_when (!v25.2) (8 : Int)), v25.1.Num, v25.1.Den, h, rfl⟩)
      · replace h := iteF hc h
        refine ATodo.skip ?_
        refine ATodo.stop ?_
        exact ImpX.lessP (by exact ⟨rfl, rfl, rfl, rfl, rfl, rfl, rfl, rfl, rfl, rfl, rfl, rfl, rfl, rfl, rfl, True.intro⟩) (.cons (.next .here) (.cons (.next .here) (.cons (.next .here) (.cons (.next .here) (.cons .here .nil))))) (ImpX.here ⟨v16, (0 : Int), (0 : Int), h, rfl⟩)
    · rintro σ' ⟨n22, n23, n24, h, rfl⟩
      unfold L_ValuesHeld_j2 at h
      refine ATodo.seq ?_
      refine ATodo.region ?_
      refine ARun.qv (q_assign rfl) rfl ?_
      refine ARun.nil ?_
      refine ATodo.seq ?_
      refine ATodo.seq ?_
      refine ATodo.region ?_
      refine ARun.qv (q_move rfl) rfl ?_
      refine ARun.qv (q_eql rfl rfl) rfl ?_
      refine ARun.nil ?_
      refine ATodo.cut (fun σ' => ∃ (n27 : Int), L_ValuesHeld_j3 v2 v4 v7 v8 v9 v11 v12 n17 v20 n22 n23 n24 n27 = some r ∧ σ' = ⟨155, [(4, .sl 4 b3 0 v2.1.length), (5, .ptr b6 0), (7, I v7.1), (8, I v8.1), (9, .ptr b10 0), (10, I v9.2), (11, I v11.1), (12, I v11.2), (13, .sl 2 b13 0 v12.1.length), (14, I v12.2), (17, I n22), (18, I n17), (19, I v20), (20, .ptr b21 0), (23, I n27)], [(b3, .fro 4 (v2.1.map Sample.av)), (b6, .cells [I v4.1.From, I v4.1.To]), (b10, .cells [I v9.1.Num, I v9.1.Den]), (b13, .arr 2 (v12.1.map Window.av)), (b21, .cells [I n23, I n24])]⟩) ?_ ?_
      · refine ATodo.cond_d rfl (fun hc => ?_) (fun hc => ?_)
        · replace h := iteT hc h
          refine ATodo.region ?_
          refine ARun.qv (q_move rfl) rfl ?_
          refine ARun.qv (q_move rfl) rfl ?_
          obtain ⟨v28, e16, h⟩ := bnd h
          refine r_callp rfl (Q_QuantileOf_c e16) (.cons (Co.froT .here) (.cons (.refl _) .nil)) rfl ?_
          refine ARun.qv (q_assign rfl) rfl ?_
          refine ARun.nil ?_
          refine ATodo.stop ?_
          exact ImpX.lessP (by exact ⟨rfl, rfl, rfl, rfl, rfl, rfl, rfl, rfl, rfl, rfl, rfl, rfl, rfl, rfl, rfl, True.intro⟩) (.cons .here (.cons .here (.cons .here (.cons .here (.cons .here .nil))))) (ImpX.here ⟨v28, h, rfl⟩)
        · replace h := iteF hc h
          refine ATodo.skip ?_
          refine ATodo.stop ?_
          exact ImpX.lessP (by exact ⟨rfl, rfl, rfl, rfl, rfl, rfl, rfl, rfl, rfl, rfl, rfl, rfl, rfl, rfl, rfl, True.intro⟩) (.cons .here (.cons .here (.cons .here (.cons .here (.cons .here .nil))))) (ImpX.here ⟨(0 : Int), h, rfl⟩)
      · rintro σ' ⟨n27, h, rfl⟩
        unfold L_ValuesHeld_j3 at h
        refine ATodo.seq ?_
        refine ATodo.region ?_
        refine ARun.qv (q_assign rfl) rfl ?_
        refine ARun.nil ?_
        refine ATodo.seq ?_
        refine ATodo.seq ?_
        refine ATodo.region ?_
        refine ARun.qv (q_move rfl) rfl ?_
        refine ARun.qv (q_eql rfl rfl) rfl ?_
        refine ARun.nil ?_
        refine ATodo.cut (fun σ' => ∃ (b29 : Bk) (l30 : List Window), L_ValuesHeld_j4 v9 v11 v12 n17 v20 n22 n23 n24 n27 l30 = some r ∧ σ' = ⟨155, [(9, .ptr b10 0), (10, I v9.2), (11, I v11.1), (12, I v11.2), (13, .sl 2 b13 0 v12.1.length), (14, I v12.2), (17, I n22), (18, I n17), (19, I v20), (20, .ptr b21 0), (23, I n27), (24, .sl 2 b29 0 l30.length)], [(b10, .cells [I v9.1.Num, I v9.1.Den]), (b13, .arr 2 (v12.1.map Window.av)), (b21, .cells [I n23, I n24]), (b29, .arr 2 (l30.map Window.av))]⟩) ?_ ?_
        · refine ATodo.cond_d rfl (fun hc => ?_) (fun hc => ?_)
          · replace h := iteT hc h
            refine ATodo.region ?_
            refine ARun.qv (q_move rfl) rfl ?_
            refine ARun.qv (q_load_ptr_all rfl rfl (.next .here) rfl) rfl ?_
            refine ARun.qv (q_move rfl) rfl ?_
            refine ARun.qv (q_move rfl) rfl ?_
            obtain ⟨v31, e17, h⟩ := bnd h
            refine t_call1 rfl (Q_BeyondOf_c e17) (.cons (Co.froT .here) (.cons (.refl _) (.cons (.refl _) (.cons (.refl _) .nil)))) .nil (fun _ => rfl) rfl (fun b32 => ?_)
            refine ARun.qv (q_assign rfl) rfl ?_
            refine ARun.nil ?_
            refine ATodo.stop ?_
            exact ImpX.lessP (by exact ⟨rfl, rfl, rfl, rfl, rfl, rfl, rfl, rfl, rfl, rfl, rfl, rfl, True.intro⟩) (.cons (.next (.next (.next .here))) (.cons (.next (.next (.next .here))) (.cons (.next (.next (.next .here))) (.cons .here .nil)))) (ImpX.here ⟨b32, v31, h, rfl⟩)
          · replace h := iteF hc h
            refine ATodo.skip ?_
            refine ATodo.stop ?_
            refine ImpX.arr (s := 24) 2 rfl (fun b33 => ?_)
            exact ImpX.lessP (by exact ⟨rfl, rfl, rfl, rfl, rfl, rfl, rfl, rfl, rfl, rfl, rfl, rfl, True.intro⟩) (.cons (.next (.next (.next .here))) (.cons (.next (.next (.next .here))) (.cons (.next (.next (.next .here))) (.cons .here .nil)))) (ImpX.here ⟨b33, [], h, rfl⟩)
        · rintro σ' ⟨b29, l30, h, rfl⟩
          unfold L_ValuesHeld_j4 at h
          refine ATodo.seq ?_
          refine ATodo.cut (fun σ' => ∃ (c34 : Bool), L_ValuesHeld_j5 c34 = some r ∧ σ' = ⟨155, [(2, .bool c34)], []⟩) ?_ ?_
          · refine ATodo.region ?_
            refine ARun.qv (q_move rfl) rfl ?_
            refine ARun.qv (q_move rfl) rfl ?_
            refine ARun.qv (q_eql rfl rfl) rfl ?_
            refine ARun.qv (q_move rfl) rfl ?_
            refine ARun.guard_dt rfl rfl rfl (fun hc => ?_) (fun hc => ?_)
            · replace h := iteT hc h
              refine ARun.qv (q_load_ptr_all rfl rfl .here rfl) rfl ?_
              refine ARun.guard_yes rfl rfl rfl ?_
              refine ARun.qv (q_load_ptr_all rfl rfl (.next (.next .here)) rfl) rfl ?_
              refine ARun.guard_yes rfl rfl rfl ?_
              refine ARun.qv (t_teq (g := Fraction.av) (X := v9.1) (Y := (⟨n23, n24⟩ : Fraction)) rfl rfl rfl rfl rfl) rfl ?_
              refine ARun.qv (q_pick_t rfl rfl) rfl ?_
              refine ARun.qv (q_move rfl) rfl ?_
              refine ARun.guard_dt rfl rfl rfl (fun hc => ?_) (fun hc => ?_)
              · replace h := iteT hc h
                refine ARun.qv (q_move rfl) rfl ?_
                refine ARun.guard_yes rfl rfl rfl ?_
                refine ARun.qv (q_move rfl) rfl ?_
                refine ARun.guard_yes rfl rfl rfl ?_
                refine ARun.qv (q_eql rfl rfl) rfl ?_
                refine ARun.qv (q_pick_t rfl rfl) rfl ?_
                refine ARun.qv (q_move rfl) rfl ?_
                refine ARun.guard_dt rfl rfl rfl (fun hc => ?_) (fun hc => ?_)
                · replace h := iteT hc h
                  refine ARun.qv (q_move rfl) rfl ?_
                  refine ARun.guard_yes rfl rfl rfl ?_
                  refine ARun.qv (q_move rfl) rfl ?_
                  refine ARun.guard_yes rfl rfl rfl ?_
                  refine ARun.qv (q_eql rfl rfl) rfl ?_
                  refine ARun.qv (q_pick_t rfl rfl) rfl ?_
                  refine ARun.qv (q_move rfl) rfl ?_
                  refine ARun.guard_dt rfl rfl rfl (fun hc => ?_) (fun hc => ?_)
                  · replace h := iteT hc h
                    refine ARun.qv (q_move rfl) rfl ?_
                    refine ARun.guard_yes rfl rfl rfl ?_
                    refine ARun.qv (q_move rfl) rfl ?_
                    refine ARun.guard_yes rfl rfl rfl ?_
                    refine ARun.qv (q_eql rfl rfl) rfl ?_
                    refine ARun.qv (q_pick_t rfl rfl) rfl ?_
                    refine ARun.qv (q_move rfl) rfl ?_
                    refine ARun.guard_dt rfl rfl rfl (fun hc => ?_) (fun hc => ?_)
                    · replace h := iteT hc h
                      refine ARun.qv (q_move rfl) rfl ?_
                      refine ARun.guard_yes rfl rfl rfl ?_
                      refine ARun.qv (q_move rfl) rfl ?_
                      refine ARun.guard_yes rfl rfl rfl ?_
                      obtain ⟨v35, e18, h⟩ := bnd h
                      refine r_callpB rfl (slices_Equal_Window_Window_c e18) (.cons (CoB.arrT (.next .here)) (.cons (CoB.arrT (.next (.next (.next .here)))) .nil)) rfl rfl ?_
                      refine ARun.qv (q_pick_t rfl rfl) rfl ?_
                      refine ARun.qv (q_move rfl) rfl ?_
                      refine ARun.guard rfl rfl rfl (fun hc => ?_) (fun hc => ?_)
                      · replace h := iteT hc h
                        obtain ⟨v36, e19, h⟩ := bnd h
                        refine r_callp rfl (L_measured_c e19) (CoL.refl _) rfl ?_
                        refine ARun.qv (q_pick_t rfl rfl) rfl ?_
                        refine ARun.qv (q_assign rfl) rfl ?_
                        refine ARun.nil ?_
                        refine ATodo.stop ?_
                        exact ImpX.lessP (by exact ⟨rfl, True.intro⟩) (.nil) (ImpX.here ⟨v36, h, rfl⟩)
                      · replace h := iteFb hc h
                        refine ARun.qv (q_pick_f rfl rfl) rfl ?_
                        refine ARun.qv (q_assign rfl) rfl ?_
                        refine ARun.nil ?_
                        refine ATodo.stop ?_
                        exact ImpX.lessP (by exact ⟨rfl, True.intro⟩) (.nil) (ImpX.here ⟨false, h, rfl⟩)
                    · replace h := iteF hc h
                      refine ARun.guard_no rfl rfl rfl rfl ?_
                      refine ARun.guard_no rfl rfl rfl rfl ?_
                      refine ARun.qv (q_pick_f rfl rfl) rfl ?_
                      refine ARun.qv (q_move rfl) rfl ?_
                      refine ARun.guard_no rfl rfl rfl rfl ?_
                      refine ARun.qv (q_pick_f rfl rfl) rfl ?_
                      refine ARun.qv (q_assign rfl) rfl ?_
                      refine ARun.nil ?_
                      refine ATodo.stop ?_
                      exact ImpX.lessP (by exact ⟨rfl, True.intro⟩) (.nil) (ImpX.here ⟨false, h, rfl⟩)
                  · replace h := iteF hc h
                    refine ARun.guard_no rfl rfl rfl rfl ?_
                    refine ARun.guard_no rfl rfl rfl rfl ?_
                    refine ARun.qv (q_pick_f rfl rfl) rfl ?_
                    refine ARun.qv (q_move rfl) rfl ?_
                    refine ARun.guard_no rfl rfl rfl rfl ?_
                    refine ARun.guard_no rfl rfl rfl rfl ?_
                    refine ARun.guard_no rfl rfl rfl rfl ?_
                    refine ARun.qv (q_pick_f rfl rfl) rfl ?_
                    refine ARun.qv (q_move rfl) rfl ?_
                    refine ARun.guard_no rfl rfl rfl rfl ?_
                    refine ARun.qv (q_pick_f rfl rfl) rfl ?_
                    refine ARun.qv (q_assign rfl) rfl ?_
                    refine ARun.nil ?_
                    refine ATodo.stop ?_
                    exact ImpX.lessP (by exact ⟨rfl, True.intro⟩) (.nil) (ImpX.here ⟨false, h, rfl⟩)
                · replace h := iteF hc h
                  refine ARun.guard_no rfl rfl rfl rfl ?_
                  refine ARun.guard_no rfl rfl rfl rfl ?_
                  refine ARun.qv (q_pick_f rfl rfl) rfl ?_
                  refine ARun.qv (q_move rfl) rfl ?_
                  refine ARun.guard_no rfl rfl rfl rfl ?_
                  refine ARun.guard_no rfl rfl rfl rfl ?_
                  refine ARun.guard_no rfl rfl rfl rfl ?_
                  refine ARun.qv (q_pick_f rfl rfl) rfl ?_
                  refine ARun.qv (q_move rfl) rfl ?_
                  refine ARun.guard_no rfl rfl rfl rfl ?_
                  refine ARun.guard_no rfl rfl rfl rfl ?_
                  refine ARun.guard_no rfl rfl rfl rfl ?_
                  refine ARun.qv (q_pick_f rfl rfl) rfl ?_
                  refine ARun.qv (q_move rfl) rfl ?_
                  refine ARun.guard_no rfl rfl rfl rfl ?_
                  refine ARun.qv (q_pick_f rfl rfl) rfl ?_
                  refine ARun.qv (q_assign rfl) rfl ?_
                  refine ARun.nil ?_
                  refine ATodo.stop ?_
                  exact ImpX.lessP (by exact ⟨rfl, True.intro⟩) (.nil) (ImpX.here ⟨false, h, rfl⟩)
              · replace h := iteF hc h
                refine ARun.guard_no rfl rfl rfl rfl ?_
                refine ARun.guard_no rfl rfl rfl rfl ?_
                refine ARun.qv (q_pick_f rfl rfl) rfl ?_
                refine ARun.qv (q_move rfl) rfl ?_
                refine ARun.guard_no rfl rfl rfl rfl ?_
                refine ARun.guard_no rfl rfl rfl rfl ?_
                refine ARun.guard_no rfl rfl rfl rfl ?_
                refine ARun.qv (q_pick_f rfl rfl) rfl ?_
                refine ARun.qv (q_move rfl) rfl ?_
                refine ARun.guard_no rfl rfl rfl rfl ?_
                refine ARun.guard_no rfl rfl rfl rfl ?_
                refine ARun.guard_no rfl rfl rfl rfl ?_
                refine ARun.qv (q_pick_f rfl rfl) rfl ?_
                refine ARun.qv (q_move rfl) rfl ?_
                refine ARun.guard_no rfl rfl rfl rfl ?_
                refine ARun.guard_no rfl rfl rfl rfl ?_
                refine ARun.guard_no rfl rfl rfl rfl ?_
                refine ARun.qv (q_pick_f rfl rfl) rfl ?_
                refine ARun.qv (q_move rfl) rfl ?_
                refine ARun.guard_no rfl rfl rfl rfl ?_
                refine ARun.qv (q_pick_f rfl rfl) rfl ?_
                refine ARun.qv (q_assign rfl) rfl ?_
                refine ARun.nil ?_
                refine ATodo.stop ?_
                exact ImpX.lessP (by exact ⟨rfl, True.intro⟩) (.nil) (ImpX.here ⟨false, h, rfl⟩)
            · replace h := iteF hc h
              refine ARun.guard_no rfl rfl rfl rfl ?_
              refine ARun.guard_no rfl rfl rfl rfl ?_
              refine ARun.qv (q_pick_f rfl rfl) rfl ?_
              refine ARun.qv (q_move rfl) rfl ?_
              refine ARun.guard_no rfl rfl rfl rfl ?_
              refine ARun.guard_no rfl rfl rfl rfl ?_
              refine ARun.guard_no rfl rfl rfl rfl ?_
              refine ARun.qv (q_pick_f rfl rfl) rfl ?_
              refine ARun.qv (q_move rfl) rfl ?_
              refine ARun.guard_no rfl rfl rfl rfl ?_
              refine ARun.guard_no rfl rfl rfl rfl ?_
              refine ARun.guard_no rfl rfl rfl rfl ?_
              refine ARun.qv (q_pick_f rfl rfl) rfl ?_
              refine ARun.qv (q_move rfl) rfl ?_
              refine ARun.guard_no rfl rfl rfl rfl ?_
              refine ARun.guard_no rfl rfl rfl rfl ?_
              refine ARun.guard_no rfl rfl rfl rfl ?_
              refine ARun.qv (q_pick_f rfl rfl) rfl ?_
              refine ARun.qv (q_move rfl) rfl ?_
              refine ARun.guard_no rfl rfl rfl rfl ?_
              refine ARun.guard_no rfl rfl rfl rfl ?_
              refine ARun.guard_no rfl rfl rfl rfl ?_
              refine ARun.qv (q_pick_f rfl rfl) rfl ?_
              refine ARun.qv (q_move rfl) rfl ?_
              refine ARun.guard_no rfl rfl rfl rfl ?_
              refine ARun.qv (q_pick_f rfl rfl) rfl ?_
              refine ARun.qv (q_assign rfl) rfl ?_
              refine ARun.nil ?_
              refine ATodo.stop ?_
              exact ImpX.lessP (by exact ⟨rfl, True.intro⟩) (.nil) (ImpX.here ⟨false, h, rfl⟩)
          · rintro σ' ⟨c34, h, rfl⟩
            unfold L_ValuesHeld_j5 at h
            refine ATodo.ret ?_
            obtain rfl := Option.some.inj h
            exact ImpX.here ⟨_, .cons (.tmp _ _ rfl) .nil, rfl⟩

end Go.Proofs.Ytnnljbpmkcefaaa
