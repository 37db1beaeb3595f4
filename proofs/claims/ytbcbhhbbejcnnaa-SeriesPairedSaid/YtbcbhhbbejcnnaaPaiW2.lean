/- The code computes the plain functions: proofs written by shal.py. -/
import Derived.Test.YtbcbhhbbejcnnaaPaiW1
set_option maxRecDepth 100000
set_option linter.unusedVariables false
set_option linter.unusedSimpArgs false
namespace Go.Proofs.Ytbcbhhbbejcnnaa
open Go Go.Eng Go.Proofs Go.Beacon
attribute [local irreducible] ARun ATodo AQ QV ACall ImpX AWp AM
set_option maxHeartbeats 4000000 in
theorem L_when_c {p0x0 : Bool} {p1x0 : Int} {r : Int} (h : L_when p0x0 p1x0 = r) : Pu Try.prog 17 [.bool p0x0, I p1x0] (I r) := by
  unfold L_when at h
  refine ACall.bodyN Try.func17 rfl Try.ntmps17 Try.results17 rfl rfl ?_
  refine ATodo.seq ?_
  refine ATodo.region ?_
  refine ARun.qv (q_assign rfl) rfl ?_
  refine ARun.nil ?_
  refine ATodo.seq ?_
  refine ATodo.seq ?_
  refine ATodo.region ?_
  refine ARun.qv (q_move rfl) rfl ?_
  refine ARun.nil ?_
  refine ATodo.cond rfl (fun hc => ?_) (fun hc => ?_)
  · replace h := iteT hc h
    refine ATodo.seq ?_
    refine ATodo.region ?_
    refine ARun.qv (q_move rfl) rfl ?_
    refine ARun.qv (q_assign rfl) rfl ?_
    refine ARun.nil ?_
    refine ATodo.ret ?_
    obtain rfl := h
    exact ImpX.here ⟨_, .cons (.tmp _ _ rfl) .nil, rfl⟩
  · replace h := iteFb hc h
    refine ATodo.skip ?_
    refine ATodo.seq ?_
    refine ATodo.region ?_
    refine ARun.qv (q_assign rfl) rfl ?_
    refine ARun.nil ?_
    refine ATodo.ret ?_
    obtain rfl := h
    exact ImpX.here ⟨_, .cons (.tmp _ _ rfl) .nil, rfl⟩

set_option maxHeartbeats 4000000 in
theorem L_errs_c {p0x0 : List Int} {r : Int} (h : L_errs p0x0 = some r) : Pu Try.prog 14 [.list 1 (p0x0.map I)] (I r) := by
  unfold L_errs at h
  refine ACall.bodyN Try.func14 rfl Try.ntmps14 Try.results14 rfl rfl ?_
  refine ATodo.seq ?_
  refine ATodo.region ?_
  refine ARun.qv (q_assign rfl) rfl ?_
  refine ARun.nil ?_
  refine ATodo.seq ?_
  refine ATodo.seq ?_
  refine ATodo.region ?_
  refine ARun.qv (q_move rfl) rfl ?_
  refine ARun.qv (t_len rfl) rfl ?_
  refine ARun.qv (q_move rfl) rfl ?_
  refine ARun.nil ?_
  refine ATodo.block ?_
  refine ATodo.loopI (fun x : Int => L_errs_b1 p0x0 x) (fun x σ' => σ' = ⟨15, [(5, .list 1 (p0x0.map I)), (6, I (p0x0.length : Int)), (7, I x)], []⟩) h ?_ ?_
  · exact ImpX.lessP (by exact ⟨rfl, rfl, rfl, True.intro⟩) (.nil) (ImpX.here rfl)
  · intro n2 z1 σ' J1 hmk h hJ1 hA1
    obtain rfl := hmk
    replace h : L_errs_b1 p0x0 n2 = some z1 := h
    unfold L_errs_b1 at h
    refine ATodo.seq ?_
    refine ATodo.region ?_
    refine ARun.qv (q_lss rfl rfl) rfl ?_
    refine ARun.nil ?_
    refine ATodo.seq ?_
    refine ATodo.cond_d rfl (fun hc => ?_) (fun hc => ?_)
    · replace h := iteT hc h
      refine ATodo.skip ?_
      refine ATodo.seq ?_
      refine ATodo.block ?_
      refine ATodo.seq ?_
      refine ATodo.region ?_
      obtain ⟨v3, e1, h⟩ := bnd h
      refine ARun.qv (t_index rfl rfl rfl e1 rfl rfl) rfl ?_
      refine ARun.qv (q_load_rptr rfl rfl rfl) rfl ?_
      refine ARun.qv (q_assign rfl) rfl ?_
      refine ARun.nil ?_
      refine ATodo.seq ?_
      refine ATodo.region ?_
      refine ARun.qv (q_move rfl) rfl ?_
      refine ARun.qv (q_neq rfl rfl) rfl ?_
      refine ARun.nil ?_
      refine ATodo.cond_d rfl (fun hc => ?_) (fun hc => ?_)
      · replace h := iteT hc h
        refine ATodo.seq ?_
        refine ATodo.region ?_
        refine ARun.qv (q_move rfl) rfl ?_
        refine ARun.qv (q_assign rfl) rfl ?_
        refine ARun.nil ?_
        refine ATodo.ret ?_
        replace h := outL h hA1
        obtain rfl := Option.some.inj h
        exact ImpX.here ⟨_, .cons (.tmp _ _ rfl) .nil, rfl⟩
      · replace h := iteF hc h
        refine ATodo.skip ?_
        refine ATodo.blk ?_
        refine ATodo.region ?_
        refine ARun.qv (q_addw rfl rfl) rfl ?_
        refine ARun.qv (q_move rfl) rfl ?_
        refine ARun.nil ?_
        refine ATodo.stop ?_
        obtain rfl := Option.some.inj h
        refine hJ1 _ _ rfl ?_
        exact ImpX.lessP (by exact ⟨rfl, rfl, rfl, True.intro⟩) (.nil) (ImpX.here rfl)
    · replace h := iteF hc h
      refine ATodo.exit rfl ?_
      replace h := outL h hA1
      refine ATodo.seq ?_
      refine ATodo.region ?_
      refine ARun.qv (q_assign rfl) rfl ?_
      refine ARun.nil ?_
      refine ATodo.ret ?_
      obtain rfl := Option.some.inj h
      exact ImpX.here ⟨_, .cons (.tmp _ _ rfl) .nil, rfl⟩

set_option maxHeartbeats 4000000 in
theorem Q_PairsOf_c {p0x0 : List Sample} {p1x0 : List Sample} {p2x0 : Int} {r : (List Pairing)} (h : Q_PairsOf p0x0 p1x0 p2x0 = some r) : ACall Try.prog 61 [.list 4 (p0x0.map Sample.av), .list 4 (p1x0.map Sample.av), I p2x0] [] (T1 (fun d_0 => [(d_0, .arr 8 (r.map Pairing.av))]) (fun d_0 => .sl 8 d_0 0 r.length)) := by
  unfold Q_PairsOf at h
  refine ACall.lessH ?_
  refine ACall.bodyN Try.func61 rfl Try.ntmps61 Try.results61 rfl rfl ?_
  refine ATodo.seq ?_
  refine ATodo.region ?_
  refine ARun.qv (q_assign rfl) rfl ?_
  refine ARun.nil ?_
  refine ATodo.seq ?_
  refine ATodo.region ?_
  refine ARun.qv (q_assign rfl) rfl ?_
  refine ARun.nil ?_
  refine ATodo.seq ?_
  refine ATodo.seq ?_
  refine ATodo.region ?_
  refine ARun.qv (q_move rfl) rfl ?_
  refine ARun.qv (t_len rfl) rfl ?_
  refine ARun.qv (q_move rfl) rfl ?_
  refine ARun.nil ?_
  refine ATodo.block ?_
  refine ATodo.loopI (fun x : (List Pairing) × Int => Q_PairsOf_b1 p0x0 p1x0 p2x0 x.1 x.2) (fun x σ' => ∃ (b4 : Bk), σ' = ⟨81, [(1, .list 4 (p1x0.map Sample.av)), (2, I p2x0), (7, .sl 8 b4 0 x.1.length), (14, .list 4 (p0x0.map Sample.av)), (15, I (p0x0.length : Int)), (16, I x.2)], [(b4, .arr 8 (x.1.map Pairing.av))]⟩) h ?_ ?_
  · refine ImpX.arr (s := 7) 8 rfl (fun b7 => ?_)
    exact ImpX.lessP (by exact ⟨rfl, rfl, rfl, rfl, rfl, rfl, True.intro⟩) (.cons .here .nil) (ImpX.here ⟨b7, rfl⟩)
  · intro x z1 σ' J1 hmk h hJ1 hA1
    obtain ⟨l5, n6⟩ := x
    obtain ⟨b4, rfl⟩ := hmk
    replace h : Q_PairsOf_b1 p0x0 p1x0 p2x0 l5 n6 = some z1 := h
    unfold Q_PairsOf_b1 at h
    refine ATodo.seq ?_
    refine ATodo.region ?_
    refine ARun.qv (q_lss rfl rfl) rfl ?_
    refine ARun.nil ?_
    refine ATodo.seq ?_
    refine ATodo.cond_d rfl (fun hc => ?_) (fun hc => ?_)
    · replace h := iteT hc h
      refine ATodo.skip ?_
      refine ATodo.seq ?_
      refine ATodo.block ?_
      refine ATodo.seq ?_
      refine ATodo.region ?_
      obtain ⟨v8, e1, h⟩ := bnd h
      refine ARun.qv (t_index rfl rfl rfl e1 rfl rfl) rfl ?_
      refine ARun.qv (q_load_rptr_agg rfl rfl rfl) rfl ?_
      refine n_alloc rfl rfl rfl rfl (fun b9 => ?_)
      refine n_store_ptr rfl rfl rfl rfl .here rfl rfl ?_
      refine ARun.nil ?_
      refine ATodo.seq ?_
      refine ATodo.region ?_
      refine ARun.qv (q_assign rfl) rfl ?_
      refine ARun.nil ?_
      refine ATodo.seq ?_
      refine ATodo.seq ?_
      refine ATodo.region ?_
      refine ARun.qv (q_move rfl) rfl ?_
      refine ARun.qv (t_len rfl) rfl ?_
      refine ARun.qv (q_move rfl) rfl ?_
      refine ARun.nil ?_
      refine ATodo.block ?_
      refine ATodo.loopI (fun x : Int × Int => Q_PairsOf_b2 p1x0 p2x0 l5 n6 v8 x.1 x.2) (fun x σ' => σ' = ⟨81, [(1, .list 4 (p1x0.map Sample.av)), (2, I p2x0), (7, .sl 8 b4 0 l5.length), (9, .ptr b9 0), (10, I x.1), (14, .list 4 (p0x0.map Sample.av)), (15, I (p0x0.length : Int)), (16, I n6), (20, .list 4 (p1x0.map Sample.av)), (21, I (p1x0.length : Int)), (22, I x.2)], [(b4, .arr 8 (l5.map Pairing.av)), (b9, .cells [.str v8.Device, .str v8.Metric, I v8.At, I v8.Value])]⟩) h ?_ ?_
      · exact ImpX.lessP (by exact ⟨rfl, rfl, rfl, rfl, rfl, rfl, rfl, rfl, rfl, rfl, rfl, True.intro⟩) (.cons (.next .here) (.cons .here .nil)) (ImpX.here rfl)
      · intro x z2 σ' J2 hmk h hJ2 hA2
        obtain ⟨n12, n13⟩ := x
        obtain rfl := hmk
        replace h : Q_PairsOf_b2 p1x0 p2x0 l5 n6 v8 n12 n13 = some z2 := h
        unfold Q_PairsOf_b2 at h
        refine ATodo.seq ?_
        refine ATodo.region ?_
        refine ARun.qv (q_lss rfl rfl) rfl ?_
        refine ARun.nil ?_
        refine ATodo.seq ?_
        refine ATodo.cond_d rfl (fun hc => ?_) (fun hc => ?_)
        · replace h := iteT hc h
          refine ATodo.skip ?_
          refine ATodo.seq ?_
          refine ATodo.block ?_
          refine ATodo.seq ?_
          refine ATodo.region ?_
          refine ARun.qv (q_move rfl) rfl ?_
          obtain ⟨v14, e2, h⟩ := bnd h
          refine ARun.qv (t_index rfl rfl rfl e2 rfl rfl) rfl ?_
          refine ARun.qv (q_load_rptr_agg rfl rfl rfl) rfl ?_
          refine n_alloc rfl rfl rfl rfl (fun b15 => ?_)
          refine ARun.qv (q_assign rfl) rfl ?_
          refine n_store_ptr rfl rfl rfl rfl .here rfl rfl ?_
          refine ARun.nil ?_
          refine ATodo.seq ?_
          refine ATodo.region ?_
          refine ARun.qv (n_field_ptr rfl rfl) rfl ?_
          refine ARun.qv (q_load_ptr rfl rfl (.next (.next .here)) rfl) rfl ?_
          refine ARun.qv (n_field_ptr rfl rfl) rfl ?_
          refine ARun.qv (q_load_ptr rfl rfl .here rfl) rfl ?_
          refine ARun.qv (q_subw rfl rfl) rfl ?_
          refine ARun.qv (n_field_ptr rfl rfl) rfl ?_
          refine ARun.qv (q_load_ptr rfl rfl .here rfl) rfl ?_
          refine ARun.qv (n_field_ptr rfl rfl) rfl ?_
          refine ARun.qv (q_load_ptr rfl rfl (.next (.next .here)) rfl) rfl ?_
          refine ARun.qv (q_subw rfl rfl) rfl ?_
          refine ARun.qv (q_max rfl rfl) rfl ?_
          refine ARun.qv (q_assign rfl) rfl ?_
          refine ARun.nil ?_
          refine ATodo.seq ?_
          refine ATodo.cut (fun σ' => ∃ (c16 : Bool), Q_PairsOf_j1 n12 n13 c16 = some z2 ∧ σ' = ⟨81, [(1, .list 4 (p1x0.map Sample.av)), (2, I p2x0), (7, .sl 8 b4 0 l5.length), (9, .ptr b9 0), (10, I n12), (11, I n13), (14, .list 4 (p0x0.map Sample.av)), (15, I (p0x0.length : Int)), (16, I n6), (20, .list 4 (p1x0.map Sample.av)), (21, I (p1x0.length : Int)), (22, I n13), (65, .bool c16)], [(b4, .arr 8 (l5.map Pairing.av)), (b9, .cells [.str v8.Device, .str v8.Metric, I v8.At, I v8.Value])]⟩) ?_ ?_
          · refine ATodo.regionM (id := 10) (A := [0, 0, 3, 7, 15, 31, 63, 127, 127, 383, 127, 127, 3199, 7295, 15487, 32639, 127, 127, 196735, 458879, 983167, 127, 2097279, 8323199, 16777087, 33554431, 67108863, 134217727]) 28 mixed rfl (by kernel_rfl) (by kernel_rfl) ?_
            refine AM.qv (q_move rfl) rfl ?_
            refine AM.qv (q_move rfl) rfl ?_
            refine AM.qv (q_leq rfl rfl) rfl ?_
            refine AM.qv (q_move rfl) rfl ?_
            refine AM.guard_dt rfl rfl rfl (fun hc => ?_) (fun hc => ?_)
            · replace h := iteT hc h
              refine AM.qv (q_move rfl) rfl ?_
              refine AM.guard_yes rfl rfl rfl ?_
              refine AM.qv (q_lss rfl rfl) rfl ?_
              refine AM.guard_yes rfl rfl rfl ?_
              refine AM.qv (q_move rfl) rfl ?_
              refine AM.guard_df rfl rfl rfl (fun hc => ?_) (fun hc => ?_)
              · replace h := iteF hc h
                refine AM.qv (q_move rfl) rfl ?_
                refine AM.guard_yes rfl rfl rfl ?_
                refine AM.qv (n_field_ptr rfl rfl) rfl ?_
                refine AM.guard_yes rfl rfl rfl ?_
                refine AM.qv (q_load_ptr rfl rfl (.next (.next .here)) rfl) rfl ?_
                refine AM.guard_yes rfl rfl rfl ?_
                refine AM.qv (q_move rfl) rfl ?_
                refine AM.guard_yes rfl rfl rfl ?_
                refine AM.qv (q_move rfl) rfl ?_
                refine AM.guard_yes rfl rfl rfl ?_
                obtain ⟨v17, e3, h⟩ := bnd h
                refine AM.qv (t_index rfl rfl rfl e3 rfl rfl) rfl ?_
                refine AM.guard_yes rfl rfl rfl ?_
                refine AM.qv (n_field_rptr rfl rfl) rfl ?_
                refine AM.guard_yes rfl rfl rfl ?_
                refine AM.qv (q_load_rptr rfl rfl rfl) rfl ?_
                refine AM.guard_yes rfl rfl rfl ?_
                refine AM.qv (q_subw rfl rfl) rfl ?_
                refine AM.guard_yes rfl rfl rfl ?_
                refine AM.qv (q_move rfl) rfl ?_
                refine AM.guard_yes rfl rfl rfl ?_
                refine AM.qv (q_move rfl) rfl ?_
                refine AM.guard_yes rfl rfl rfl ?_
                obtain ⟨v18, e4, h⟩ := bnd h
                refine AM.qv (t_index rfl rfl rfl e4 rfl rfl) rfl ?_
                refine AM.guard_yes rfl rfl rfl ?_
                refine AM.qv (n_field_rptr rfl rfl) rfl ?_
                refine AM.guard_yes rfl rfl rfl ?_
                refine AM.qv (q_load_rptr rfl rfl rfl) rfl ?_
                refine AM.guard_yes rfl rfl rfl ?_
                refine AM.qv (n_field_ptr rfl rfl) rfl ?_
                refine AM.guard_yes rfl rfl rfl ?_
                refine AM.qv (q_load_ptr rfl rfl (.next (.next .here)) rfl) rfl ?_
                refine AM.guard_yes rfl rfl rfl ?_
                refine AM.qv (q_subw rfl rfl) rfl ?_
                refine AM.guard_yes rfl rfl rfl ?_
                refine AM.qv (q_max rfl rfl) rfl ?_
                refine AM.guard_yes rfl rfl rfl ?_
                refine AM.qv (q_lss rfl rfl) rfl ?_
                refine AM.guard_yes rfl rfl rfl ?_
                refine AM.qv (q_pick_f rfl rfl) rfl ?_
                refine AM.qv (q_pick_t rfl rfl) rfl ?_
                refine AM.nil ?_
                refine ARun.nil ?_
                refine ATodo.stop ?_
                exact ImpX.lessP (by exact ⟨rfl, rfl, rfl, rfl, rfl, rfl, rfl, rfl, rfl, rfl, rfl, rfl, rfl, True.intro⟩) (.cons (.next .here) (.cons (.next .here) .nil)) (ImpX.here ⟨decide ((max (w64 (v8.At - v14.At)) (w64 (v14.At - v8.At))) < (max (w64 (v8.At - v17.At)) (w64 (v18.At - v8.At)))), h, rfl⟩)
              · replace h := iteT hc h
                refine AM.guard_no rfl rfl rfl rfl ?_
                refine AM.guard_no rfl rfl rfl rfl ?_
                refine AM.guard_no rfl rfl rfl rfl ?_
                refine AM.guard_no rfl rfl rfl rfl ?_
                refine AM.guard_no rfl rfl rfl rfl ?_
                refine AM.guard_no rfl rfl rfl rfl ?_
                refine AM.guard_no rfl rfl rfl rfl ?_
                refine AM.guard_no rfl rfl rfl rfl ?_
                refine AM.guard_no rfl rfl rfl rfl ?_
                refine AM.guard_no rfl rfl rfl rfl ?_
                refine AM.guard_no rfl rfl rfl rfl ?_
                refine AM.guard_no rfl rfl rfl rfl ?_
                refine AM.guard_no rfl rfl rfl rfl ?_
                refine AM.guard_no rfl rfl rfl rfl ?_
                refine AM.guard_no rfl rfl rfl rfl ?_
                refine AM.guard_no rfl rfl rfl rfl ?_
                refine AM.guard_no rfl rfl rfl rfl ?_
                refine AM.guard_no rfl rfl rfl rfl ?_
                refine AM.guard_yes rfl rfl rfl ?_
                refine AM.qv (q_pick_t rfl rfl) rfl ?_
                refine AM.qv (q_pick_t rfl rfl) rfl ?_
                refine AM.nil ?_
                refine ARun.nil ?_
                refine ATodo.stop ?_
                exact ImpX.lessP (by exact ⟨rfl, rfl, rfl, rfl, rfl, rfl, rfl, rfl, rfl, rfl, rfl, rfl, rfl, True.intro⟩) (.cons (.next .here) (.cons (.next .here) .nil)) (ImpX.here ⟨true, h, rfl⟩)
            · replace h := iteF hc h
              refine AM.guard_no rfl rfl rfl rfl ?_
              refine AM.guard_no rfl rfl rfl rfl ?_
              refine AM.guard_und rfl rfl rfl ?_
              refine AM.guard_und rfl rfl rfl ?_
              refine AM.guard_und rfl rfl rfl ?_
              refine AM.guard_und rfl rfl rfl ?_
              refine AM.guard_und rfl rfl rfl ?_
              refine AM.guard_und rfl rfl rfl ?_
              refine AM.guard_und rfl rfl rfl ?_
              refine AM.guard_und rfl rfl rfl ?_
              refine AM.guard_und rfl rfl rfl ?_
              refine AM.guard_und rfl rfl rfl ?_
              refine AM.guard_und rfl rfl rfl ?_
              refine AM.guard_und rfl rfl rfl ?_
              refine AM.guard_und rfl rfl rfl ?_
              refine AM.guard_und rfl rfl rfl ?_
              refine AM.guard_und rfl rfl rfl ?_
              refine AM.guard_und rfl rfl rfl ?_
              refine AM.guard_und rfl rfl rfl ?_
              refine AM.guard_und rfl rfl rfl ?_
              refine AM.guard_und rfl rfl rfl ?_
              refine AM.guard_no rfl rfl rfl rfl ?_
              refine AM.qv (q_pick_f rfl rfl) rfl ?_
              refine AM.nil ?_
              refine ARun.nil ?_
              refine ATodo.stop ?_
              exact ImpX.lessP (by exact ⟨rfl, rfl, rfl, rfl, rfl, rfl, rfl, rfl, rfl, rfl, rfl, rfl, rfl, True.intro⟩) (.cons (.next .here) (.cons (.next .here) .nil)) (ImpX.here ⟨false, h, rfl⟩)
          · rintro σ' ⟨c16, h, rfl⟩
            unfold Q_PairsOf_j1 at h
            refine ATodo.cut (fun σ' => ∃ (n19 : Int), Q_PairsOf_j2 n13 n19 = some z2 ∧ σ' = ⟨81, [(1, .list 4 (p1x0.map Sample.av)), (2, I p2x0), (7, .sl 8 b4 0 l5.length), (9, .ptr b9 0), (10, I n19), (14, .list 4 (p0x0.map Sample.av)), (15, I (p0x0.length : Int)), (16, I n6), (20, .list 4 (p1x0.map Sample.av)), (21, I (p1x0.length : Int)), (22, I n13)], [(b4, .arr 8 (l5.map Pairing.av)), (b9, .cells [.str v8.Device, .str v8.Metric, I v8.At, I v8.Value])]⟩) ?_ ?_
            · refine ATodo.cond rfl (fun hc => ?_) (fun hc => ?_)
              · replace h := iteT hc h
                refine ATodo.region ?_
                refine ARun.qv (q_move rfl) rfl ?_
                refine ARun.qv (q_assign rfl) rfl ?_
                refine ARun.nil ?_
                refine ATodo.stop ?_
                exact ImpX.lessP (by exact ⟨rfl, rfl, rfl, rfl, rfl, rfl, rfl, rfl, rfl, rfl, rfl, True.intro⟩) (.cons .here (.cons .here .nil)) (ImpX.here ⟨n13, h, rfl⟩)
              · replace h := iteFb hc h
                refine ATodo.skip ?_
                refine ATodo.stop ?_
                exact ImpX.lessP (by exact ⟨rfl, rfl, rfl, rfl, rfl, rfl, rfl, rfl, rfl, rfl, rfl, True.intro⟩) (.cons .here (.cons .here .nil)) (ImpX.here ⟨n12, h, rfl⟩)
            · rintro σ' ⟨n19, h, rfl⟩
              unfold Q_PairsOf_j2 at h
              refine ATodo.blk ?_
              refine ATodo.region ?_
              refine ARun.qv (q_addw rfl rfl) rfl ?_
              refine ARun.qv (q_move rfl) rfl ?_
              refine ARun.nil ?_
              refine ATodo.stop ?_
              obtain rfl := Option.some.inj h
              refine hJ2 _ _ rfl ?_
              exact ImpX.lessP (by exact ⟨rfl, rfl, rfl, rfl, rfl, rfl, rfl, rfl, rfl, rfl, rfl, True.intro⟩) (.cons .here (.cons .here .nil)) (ImpX.here rfl)
        · replace h := iteF hc h
          refine ATodo.exit rfl ?_
          replace h := outL h hA2
          unfold Q_PairsOf_k4 at h
          refine ATodo.seq ?_
          refine ATodo.region ?_
          refine ARun.qv (q_move rfl) rfl ?_
          refine ARun.qv (q_geq rfl rfl) rfl ?_
          refine ARun.nil ?_
          refine ATodo.cut (fun σ' => ∃ (b20 : Bk) (l21 : List Pairing), Q_PairsOf_j3 n6 l21 = some z1 ∧ σ' = ⟨81, [(1, .list 4 (p1x0.map Sample.av)), (2, I p2x0), (7, .sl 8 b20 0 l21.length), (14, .list 4 (p0x0.map Sample.av)), (15, I (p0x0.length : Int)), (16, I n6)], [(b20, .arr 8 (l21.map Pairing.av))]⟩) ?_ ?_
          · refine ATodo.cond_d rfl (fun hc => ?_) (fun hc => ?_)
            · replace h := iteT hc h
              refine ATodo.regionM (id := 14) (A := [0, 0, 0, 0, 12, 28, 62, 126, 255, 511]) 8 mixed rfl (by kernel_rfl) (by kernel_rfl) ?_
              refine AM.qv (q_move rfl) rfl ?_
              refine AM.qv (q_load_ptr_all rfl rfl (.next .here) rfl) rfl ?_
              refine AM.qv (q_move rfl) rfl ?_
              refine AM.qv (q_move rfl) rfl ?_
              obtain ⟨v22, e5, h⟩ := bnd h
              refine AM.qv (t_index rfl rfl rfl e5 rfl rfl) rfl ?_
              refine AM.qv (q_load_rptr_agg rfl rfl rfl) rfl ?_
              refine AM.qv (n_build rfl rfl rfl rfl rfl) rfl ?_
              refine AM.buildSliceL (xs := ([(⟨v8, v22⟩ : Pairing)]).map Pairing.av) rfl rfl rfl rfl rfl rfl ?_
              refine AM.nil ?_
              obtain ⟨l23, e6, h⟩ := bnd h
              refine t_append (g := Pairing.av) rfl rfl rfl rfl rfl rfl rfl rfl (.list _) e6 (fun _ => .here) rfl (fun b24 => ?_)
              refine ARun.qv (q_assign rfl) rfl ?_
              refine ARun.nil ?_
              refine ATodo.stop ?_
              exact ImpX.lessP (by exact ⟨rfl, rfl, rfl, rfl, rfl, rfl, True.intro⟩) (.cons .here .nil) (ImpX.here ⟨b24, l23, h, rfl⟩)
            · replace h := iteF hc h
              refine ATodo.skip ?_
              refine ATodo.stop ?_
              exact ImpX.lessP (by exact ⟨rfl, rfl, rfl, rfl, rfl, rfl, True.intro⟩) (.cons .here .nil) (ImpX.here ⟨b4, l5, h, rfl⟩)
          · rintro σ' ⟨b20, l21, h, rfl⟩
            unfold Q_PairsOf_j3 at h
            refine ATodo.blk ?_
            refine ATodo.region ?_
            refine ARun.qv (q_addw rfl rfl) rfl ?_
            refine ARun.qv (q_move rfl) rfl ?_
            refine ARun.nil ?_
            refine ATodo.stop ?_
            obtain rfl := Option.some.inj h
            refine hJ1 _ _ rfl ?_
            exact ImpX.lessP (by exact ⟨rfl, rfl, rfl, rfl, rfl, rfl, True.intro⟩) (.cons .here .nil) (ImpX.here ⟨b20, rfl⟩)
    · replace h := iteF hc h
      refine ATodo.exit rfl ?_
      replace h := outL h hA1
      refine ATodo.seq ?_
      refine ATodo.region ?_
      refine ARun.qv (q_move rfl) rfl ?_
      refine ARun.qv (q_assign rfl) rfl ?_
      refine ARun.nil ?_
      refine ATodo.ret ?_
      obtain rfl := Option.some.inj h
      exact ImpX.here ⟨_, .cons (.tmp _ _ rfl) .nil, _, .cons .here .nil, ⟨b4, rfl, rfl⟩⟩

set_option maxHeartbeats 4000000 in
theorem Q_ThinOf_1x_c {p0x0 : Int} {p1x0 : Int} {p2x0 : Int} {r : Int} (h : Q_ThinOf_1x p0x0 p1x0 p2x0 = some r) : Pu Try.prog 124 [I p0x0, .rptr [I p1x0], .rptr [I p2x0]] (I r) := by
  unfold Q_ThinOf_1x at h
  refine ACall.bodyN Try.func124 rfl Try.ntmps124 Try.results124 rfl rfl ?_
  refine ATodo.seq ?_
  refine ATodo.region ?_
  refine ARun.qv (q_assign rfl) rfl ?_
  refine ARun.nil ?_
  refine ATodo.seq ?_
  refine ATodo.region ?_
  refine ARun.qv (q_move rfl) rfl ?_
  refine ARun.qv (q_load_rptr rfl rfl rfl) rfl ?_
  refine ARun.qv (q_subw rfl rfl) rfl ?_
  refine ARun.qv (q_mulw rfl rfl) rfl ?_
  refine ARun.qv (q_load_rptr rfl rfl rfl) rfl ?_
  refine ARun.qv (q_subw rfl rfl) rfl ?_
  obtain ⟨n1, e1, h⟩ := bnd h
  refine ARun.qv (t_quoS rfl rfl e1) rfl ?_
  refine ARun.qv (q_addw rfl rfl) rfl ?_
  refine ARun.qv (q_assign rfl) rfl ?_
  refine ARun.nil ?_
  refine ATodo.ret ?_
  obtain rfl := Option.some.inj h
  exact ImpX.here ⟨_, .cons (.tmp _ _ rfl) .nil, rfl⟩

set_option maxHeartbeats 4000000 in
theorem Q_floor_c {p0x0 : Int} {p1x0 : Int} {r : Int} (h : Q_floor p0x0 p1x0 = some r) : Pu Try.prog 74 [I p0x0, I p1x0] (I r) := by
  unfold Q_floor at h
  refine ACall.bodyN Try.func74 rfl Try.ntmps74 Try.results74 rfl rfl ?_
  refine ATodo.seq ?_
  refine ATodo.region ?_
  refine ARun.qv (q_assign rfl) rfl ?_
  refine ARun.nil ?_
  refine ATodo.seq ?_
  refine ATodo.seq ?_
  refine ATodo.region ?_
  refine ARun.qv (q_move rfl) rfl ?_
  refine ARun.qv (q_move rfl) rfl ?_
  obtain ⟨n1, e1, h⟩ := bnd h
  refine ARun.qv (t_remS rfl rfl e1) rfl ?_
  refine ARun.qv (q_lss rfl rfl) rfl ?_
  refine ARun.nil ?_
  refine ATodo.cond_d rfl (fun hc => ?_) (fun hc => ?_)
  · replace h := iteT hc h
    refine ATodo.seq ?_
    refine ATodo.region ?_
    refine ARun.qv (q_move rfl) rfl ?_
    refine ARun.qv (q_move rfl) rfl ?_
    obtain ⟨n2, e2, h⟩ := bnd h
    refine ARun.qv (t_quoS rfl rfl e2) rfl ?_
    refine ARun.qv (q_subw rfl rfl) rfl ?_
    refine ARun.qv (q_assign rfl) rfl ?_
    refine ARun.nil ?_
    refine ATodo.ret ?_
    obtain rfl := Option.some.inj h
    exact ImpX.here ⟨_, .cons (.tmp _ _ rfl) .nil, rfl⟩
  · replace h := iteF hc h
    refine ATodo.skip ?_
    refine ATodo.seq ?_
    refine ATodo.region ?_
    refine ARun.qv (q_move rfl) rfl ?_
    refine ARun.qv (q_move rfl) rfl ?_
    obtain ⟨n3, e3, h⟩ := bnd h
    refine ARun.qv (t_quoS rfl rfl e3) rfl ?_
    refine ARun.qv (q_assign rfl) rfl ?_
    refine ARun.nil ?_
    refine ATodo.ret ?_
    obtain rfl := Option.some.inj h
    exact ImpX.here ⟨_, .cons (.tmp _ _ rfl) .nil, rfl⟩

set_option maxHeartbeats 4000000 in
theorem Q_ThinOf_c {p0x0 : List Sample} {p1x0 : Int} {r : (List Sample) × Int} (h : Q_ThinOf p0x0 p1x0 = some r) : ACall Try.prog 62 [.list 4 (p0x0.map Sample.av), I p1x0] [] (T1 (fun d_0 => [(d_0, .arr 4 (r.1.map Sample.av))]) (fun d_0 => .tup [.sl 4 d_0 0 r.1.length, I r.2])) := by
  unfold Q_ThinOf at h
  refine ACall.lessH ?_
  refine ACall.bodyN Try.func62 rfl Try.ntmps62 Try.results62 rfl rfl ?_
  refine ATodo.seq ?_
  refine ATodo.region ?_
  refine n_box rfl rfl rfl rfl (fun b1 => ?_)
  refine ARun.qv (q_assign rfl) rfl ?_
  refine ARun.qv (q_assign rfl) rfl ?_
  refine ARun.nil ?_
  refine ATodo.seq ?_
  refine ATodo.region ?_
  refine ARun.qv (q_move rfl) rfl ?_
  refine ARun.qv (t_len rfl) rfl ?_
  refine n_alloc rfl rfl rfl rfl (fun b2 => ?_)
  refine n_store_ptr rfl rfl rfl rfl .here rfl rfl ?_
  refine ARun.nil ?_
  refine ATodo.seq ?_
  refine ATodo.seq ?_
  refine ATodo.region ?_
  refine ARun.qv (q_load_ptr rfl rfl .here rfl) rfl ?_
  refine ARun.qv (q_load_ptr rfl rfl (.next .here) rfl) rfl ?_
  refine ARun.qv (q_leq rfl rfl) rfl ?_
  refine ARun.nil ?_
  refine ATodo.cond_d rfl (fun hc => ?_) (fun hc => ?_)
  · replace h := iteT hc h
    refine ATodo.seq ?_
    refine ATodo.region ?_
    refine ARun.qv (q_move rfl) rfl ?_
    obtain ⟨v3, e1, h⟩ := bnd h
    refine t_call1 rfl (slices_Clone_Sample_Sample_c e1) (CoL.refl _) .nil (fun _ => rfl) rfl (fun b4 => ?_)
    refine ARun.qv (q_assign rfl) rfl ?_
    refine ARun.qv (q_assign rfl) rfl ?_
    refine ARun.nil ?_
    refine ATodo.ret ?_
    obtain rfl := Option.some.inj h
    exact ImpX.here ⟨_, .cons (.tmp _ _ rfl) (.cons (.tmp _ _ rfl) .nil), _, .cons .here .nil, ⟨b4, rfl, rfl⟩⟩
  · replace h := iteF hc h
    refine ATodo.skip ?_
    refine ATodo.seq ?_
    refine ATodo.seq ?_
    refine ATodo.regionM (id := 4) (A := [0, 0, 2, 7, 15, 31, 0, 64, 192, 448, 1023, 2047]) 12 mixed rfl (by kernel_rfl) (by kernel_rfl) ?_
    refine AM.qv (q_move rfl) rfl ?_
    refine AM.qv (q_load_ptr rfl rfl .here rfl) rfl ?_
    refine AM.qv (q_subw rfl rfl) rfl ?_
    obtain ⟨v5, e2, h⟩ := bnd h
    refine AM.qv (t_index rfl rfl rfl e2 rfl rfl) rfl ?_
    refine AM.qv (n_field_rptr rfl rfl) rfl ?_
    refine AM.qv (q_load_rptr rfl rfl rfl) rfl ?_
    refine AM.qv (q_move rfl) rfl ?_
    obtain ⟨v6, e3, h⟩ := bnd h
    refine AM.qv (t_index rfl rfl rfl e3 rfl rfl) rfl ?_
    refine AM.qv (n_field_rptr rfl rfl) rfl ?_
    refine AM.qv (q_load_rptr rfl rfl rfl) rfl ?_
    refine AM.qv (q_subw rfl rfl) rfl ?_
    refine AM.qv (q_gtr rfl rfl) rfl ?_
    refine AM.nil ?_
    refine ARun.nil ?_
    refine ATodo.cond_d rfl (fun hc => ?_) (fun hc => ?_)
    · replace h := iteT hc h
      refine ATodo.seq ?_
      refine ATodo.region ?_
      refine ARun.qv (q_assign rfl) rfl ?_
      refine ARun.qv (q_assign rfl) rfl ?_
      refine ARun.nil ?_
      refine ATodo.ret ?_
      obtain rfl := Option.some.inj h
      refine ImpX.arr (s := 4) 4 rfl (fun b7 => ?_)
      exact ImpX.here ⟨_, .cons (.tmp _ _ rfl) (.cons (.tmp _ _ rfl) .nil), _, .cons .here .nil, ⟨b7, rfl, rfl⟩⟩
    · replace h := iteF hc h
      refine ATodo.skip ?_
      refine ATodo.seq ?_
      refine ATodo.region ?_
      refine ARun.qv (q_makeFunc rfl) rfl ?_
      refine ARun.qv (q_assign rfl) rfl ?_
      refine ARun.nil ?_
      refine ATodo.seq ?_
      refine ATodo.region ?_
      refine ARun.qv (q_move rfl) rfl ?_
      obtain ⟨v8, e4, h⟩ := bnd h
      refine ARun.qv (t_index rfl rfl rfl e4 rfl rfl) rfl ?_
      refine ARun.qv (q_load_rptr_agg rfl rfl rfl) rfl ?_
      refine n_buildSlice rfl rfl rfl rfl rfl rfl (fun b9 => ?_)
      refine ARun.qv (q_assign rfl) rfl ?_
      refine ARun.nil ?_
      refine ATodo.seq ?_
      refine ATodo.seq ?_
      refine ATodo.region ?_
      refine ARun.qv (q_load_ptr rfl rfl (.next (.next .here)) rfl) rfl ?_
      refine ARun.qv (q_subw rfl rfl) rfl ?_
      refine ARun.qv (q_move rfl) rfl ?_
      refine ARun.nil ?_
      refine ATodo.block ?_
      refine ATodo.loopI (fun x : (List Sample) × Int => Q_ThinOf_b1 p0x0 p1x0 x.1 x.2) (fun x σ' => ∃ (b13 : Bk), σ' = ⟨165, [(0, .list 4 (p0x0.map Sample.av)), (3, .ptr b1 0), (6, .ptr b2 0), (7, .func (.func 124) [.ptr b2 0, .ptr b1 0]), (8, .sl 4 b13 0 x.1.length), (46, I (w64 (p1x0 - (2 : Int)))), (47, I x.2)], [(b1, .cells [I p1x0]), (b2, .cells [I (p0x0.length : Int)]), (b13, .arr 4 (x.1.map Sample.av))]⟩) h ?_ ?_
      · exact ImpX.lessP (by exact ⟨rfl, rfl, rfl, rfl, rfl, rfl, rfl, True.intro⟩) (.cons (.next (.next .here)) (.cons (.next .here) (.cons .here .nil))) (ImpX.here ⟨b9, rfl⟩)
      · intro x z1 σ' J1 hmk h hJ1 hA1
        obtain ⟨l14, n15⟩ := x
        obtain ⟨b13, rfl⟩ := hmk
        replace h : Q_ThinOf_b1 p0x0 p1x0 l14 n15 = some z1 := h
        unfold Q_ThinOf_b1 at h
        refine ATodo.seq ?_
        refine ATodo.region ?_
        refine ARun.qv (q_lss rfl rfl) rfl ?_
        refine ARun.nil ?_
        refine ATodo.seq ?_
        refine ATodo.cond_d rfl (fun hc => ?_) (fun hc => ?_)
        · replace h := iteT hc h
          refine ATodo.skip ?_
          refine ATodo.seq ?_
          refine ATodo.block ?_
          refine ATodo.seq ?_
          refine ATodo.region ?_
          refine ARun.qv (q_move rfl) rfl ?_
          refine ARun.qv (q_assign rfl) rfl ?_
          refine ARun.nil ?_
          refine ATodo.seq ?_
          refine ATodo.region ?_
          refine ARun.qv (q_move rfl) rfl ?_
          refine ARun.qv (q_load_ptr rfl rfl (.next .here) rfl) rfl ?_
          refine ARun.qv (q_subw rfl rfl) rfl ?_
          obtain ⟨v16, e5, h⟩ := bnd h
          refine ARun.qv (t_index rfl rfl rfl e5 rfl rfl) rfl ?_
          refine ARun.qv (q_load_rptr_agg rfl rfl rfl) rfl ?_
          refine n_alloc rfl rfl rfl rfl (fun b17 => ?_)
          refine n_store_ptr rfl rfl rfl rfl .here rfl rfl ?_
          refine ARun.nil ?_
          refine ATodo.seq ?_
          refine ATodo.seq ?_
          refine ATodo.region ?_
          refine ARun.qv (q_move rfl) rfl ?_
          refine ARun.qv (q_load_ptr rfl rfl (.next .here) rfl) rfl ?_
          refine ARun.qv (q_subw rfl rfl) rfl ?_
          refine ARun.qv (q_lss rfl rfl) rfl ?_
          refine ARun.nil ?_
          refine ATodo.cut (fun σ' => ∃ (n18 : Int) (n19 : Int), Q_ThinOf_j1 p0x0 p1x0 l14 n15 n18 n19 = some z1 ∧ σ' = ⟨165, [(0, .list 4 (p0x0.map Sample.av)), (3, .ptr b1 0), (6, .ptr b2 0), (7, .func (.func 124) [.ptr b2 0, .ptr b1 0]), (8, .sl 4 b13 0 l14.length), (9, I n15), (10, .ptr b17 0), (46, I (w64 (p1x0 - (2 : Int)))), (47, I n15)], [(b1, .cells [I p1x0]), (b2, .cells [I (p0x0.length : Int)]), (b13, .arr 4 (l14.map Sample.av)), (b17, .cells [.str v16.Device, .str v16.Metric, I n18, I n19])]⟩) ?_ ?_
          · refine ATodo.cond_d rfl (fun hc => ?_) (fun hc => ?_)
            · replace h := iteT hc h
              refine ATodo.seq ?_
              refine ATodo.region ?_
              refine ARun.qv (q_move rfl) rfl ?_
              refine ARun.qv (q_move rfl) rfl ?_
              refine ARun.qv (q_move rfl) rfl ?_
              refine ARun.qv (q_addw rfl rfl) rfl ?_
              obtain ⟨v20, e6, h⟩ := bnd h
              refine r_callvpB rfl rfl (Q_ThinOf_1x_c e6) (.cons (.co (.refl _)) (.cons (.boxL _ _ _ (.next (.next .here)) (.cons (.co (.refl _)) .nil)) (.cons (.boxL _ _ _ (.next .here) (.cons (.co (.refl _)) .nil)) .nil))) rfl rfl ?_
              refine ARun.qv (q_move rfl) rfl ?_
              refine ARun.qv (q_move rfl) rfl ?_
              refine ARun.qv (q_addw rfl rfl) rfl ?_
              obtain ⟨v21, e7, h⟩ := bnd h
              refine r_callvpB rfl rfl (Q_ThinOf_1x_c e7) (.cons (.co (.refl _)) (.cons (.boxL _ _ _ (.next (.next .here)) (.cons (.co (.refl _)) .nil)) (.cons (.boxL _ _ _ (.next .here) (.cons (.co (.refl _)) .nil)) .nil))) rfl rfl ?_
              obtain ⟨l22, e8, h⟩ := bnd h
              refine ARun.qv (t_slice_list rfl rfl (.some _ _ _ rfl) (.some _ _ _ rfl) rfl rfl e8) rfl ?_
              refine ARun.qv (q_assign rfl) rfl ?_
              refine ARun.nil ?_
              refine ATodo.seq ?_
              refine ATodo.region ?_
              refine ARun.qv (q_assign rfl) rfl ?_
              refine ARun.qv (q_assign rfl) rfl ?_
              refine ARun.nil ?_
              refine ATodo.seq ?_
              refine ATodo.seq ?_
              refine ATodo.region ?_
              refine ARun.qv (q_move rfl) rfl ?_
              refine ARun.qv (t_len rfl) rfl ?_
              refine ARun.qv (q_move rfl) rfl ?_
              refine ARun.nil ?_
              refine ATodo.block ?_
              refine ATodo.loopI (fun x : Int × Int × Int => Q_ThinOf_b2 p0x0 p1x0 l14 n15 l22 x.1 x.2.1 x.2.2) (fun x σ' => σ' = ⟨165, [(0, .list 4 (p0x0.map Sample.av)), (3, .ptr b1 0), (6, .ptr b2 0), (7, .func (.func 124) [.ptr b2 0, .ptr b1 0]), (8, .sl 4 b13 0 l14.length), (9, I n15), (10, .ptr b17 0), (11, .list 4 (l22.map Sample.av)), (12, I x.1), (13, I x.2.1), (46, I (w64 (p1x0 - (2 : Int)))), (47, I n15), (69, .list 4 (l22.map Sample.av)), (70, I (l22.length : Int)), (71, I x.2.2)], [(b1, .cells [I p1x0]), (b2, .cells [I (p0x0.length : Int)]), (b13, .arr 4 (l14.map Sample.av)), (b17, .cells [.str v16.Device, .str v16.Metric, I v16.At, I v16.Value])]⟩) h ?_ ?_
              · exact ImpX.lessP (by exact ⟨rfl, rfl, rfl, rfl, rfl, rfl, rfl, rfl, rfl, rfl, rfl, rfl, rfl, rfl, rfl, True.intro⟩) (.cons (.next .here) (.cons (.next .here) (.cons (.next .here) (.cons .here .nil)))) (ImpX.here rfl)
              · intro x z2 σ' J2 hmk h hJ2 hA2
                obtain ⟨n26, n27, n28⟩ := x
                obtain rfl := hmk
                replace h : Q_ThinOf_b2 p0x0 p1x0 l14 n15 l22 n26 n27 n28 = some z2 := h
                unfold Q_ThinOf_b2 at h
                refine ATodo.seq ?_
                refine ATodo.region ?_
                refine ARun.qv (q_lss rfl rfl) rfl ?_
                refine ARun.nil ?_
                refine ATodo.seq ?_
                refine ATodo.cond_d rfl (fun hc => ?_) (fun hc => ?_)
                · replace h := iteT hc h
                  refine ATodo.skip ?_
                  refine ATodo.seq ?_
                  refine ATodo.block ?_
                  refine ATodo.seq ?_
                  refine ATodo.region ?_
                  obtain ⟨v29, e9, h⟩ := bnd h
                  refine ARun.qv (t_index rfl rfl rfl e9 rfl rfl) rfl ?_
                  refine ARun.qv (q_load_rptr_agg rfl rfl rfl) rfl ?_
                  refine n_alloc rfl rfl rfl rfl (fun b30 => ?_)
                  refine n_store_ptr rfl rfl rfl rfl .here rfl rfl ?_
                  refine ARun.nil ?_
                  refine ATodo.seq ?_
                  refine ATodo.region ?_
                  refine ARun.qv (q_move rfl) rfl ?_
                  refine ARun.qv (n_field_ptr rfl rfl) rfl ?_
                  refine ARun.qv (q_load_ptr rfl rfl .here rfl) rfl ?_
                  refine ARun.qv (q_addw rfl rfl) rfl ?_
                  refine ARun.qv (q_assign rfl) rfl ?_
                  refine ARun.nil ?_
                  refine ATodo.region ?_
                  refine ARun.qv (q_move rfl) rfl ?_
                  refine ARun.qv (n_field_ptr rfl rfl) rfl ?_
                  refine ARun.qv (q_load_ptr rfl rfl .here rfl) rfl ?_
                  refine ARun.qv (q_addw rfl rfl) rfl ?_
                  refine ARun.qv (q_assign rfl) rfl ?_
                  refine ARun.nil ?_
                  refine ATodo.blk ?_
                  refine ATodo.region ?_
                  refine ARun.qv (q_addw rfl rfl) rfl ?_
                  refine ARun.qv (q_move rfl) rfl ?_
                  refine ARun.nil ?_
                  refine ATodo.stop ?_
                  obtain rfl := Option.some.inj h
                  refine hJ2 _ _ rfl ?_
                  exact ImpX.lessP (by exact ⟨rfl, rfl, rfl, rfl, rfl, rfl, rfl, rfl, rfl, rfl, rfl, rfl, rfl, rfl, rfl, True.intro⟩) (.cons (.next .here) (.cons (.next .here) (.cons (.next .here) (.cons (.next .here) .nil)))) (ImpX.here rfl)
                · replace h := iteF hc h
                  refine ATodo.exit rfl ?_
                  replace h := outL h hA2
                  unfold Q_ThinOf_k2 at h
                  refine ATodo.region ?_
                  refine ARun.qv (q_move rfl) rfl ?_
                  refine ARun.qv (q_move rfl) rfl ?_
                  refine ARun.qv (t_len rfl) rfl ?_
                  obtain ⟨v31, e10, h⟩ := bnd h
                  refine r_callp rfl (Q_floor_c e10) (CoL.refl _) rfl ?_
                  refine ARun.qv (q_move rfl) rfl ?_
                  refine ARun.qv (q_move rfl) rfl ?_
                  refine ARun.qv (t_len rfl) rfl ?_
                  obtain ⟨v32, e11, h⟩ := bnd h
                  refine r_callp rfl (Q_floor_c e11) (CoL.refl _) rfl ?_
                  refine ARun.qv (n_field_ptr rfl rfl) rfl ?_
                  refine n_store_ptr rfl rfl rfl rfl (.next (.next (.next .here))) rfl rfl ?_
                  refine ARun.qv (n_field_ptr rfl rfl) rfl ?_
                  refine n_store_ptr rfl rfl rfl rfl (.next (.next (.next .here))) rfl rfl ?_
                  refine ARun.nil ?_
                  refine ATodo.stop ?_
                  exact ImpX.lessP (by exact ⟨rfl, rfl, rfl, rfl, rfl, rfl, rfl, rfl, rfl, True.intro⟩) (.cons .here (.cons .here (.cons .here (.cons .here .nil)))) (ImpX.here ⟨v31, v32, h, rfl⟩)
            · replace h := iteF hc h
              refine ATodo.skip ?_
              refine ATodo.stop ?_
              exact ImpX.lessP (by exact ⟨rfl, rfl, rfl, rfl, rfl, rfl, rfl, rfl, rfl, True.intro⟩) (.cons (.next .here) (.cons (.next .here) (.cons (.next .here) (.cons .here .nil)))) (ImpX.here ⟨v16.At, v16.Value, h, rfl⟩)
          · rintro σ' ⟨n18, n19, h, rfl⟩
            unfold Q_ThinOf_j1 at h
            refine ATodo.seq ?_
            refine ATodo.region ?_
            refine ARun.qv (q_move rfl) rfl ?_
            refine ARun.qv (q_move rfl) rfl ?_
            refine ARun.qv (t_len_sl rfl) rfl ?_
            refine ARun.qv (q_subw rfl rfl) rfl ?_
            obtain ⟨v33, e12, h⟩ := bnd h
            refine ARun.qv (t_index_sl rfl rfl rfl e12) rfl ?_
            refine ARun.qv (t_load_aptr_agg (g := Sample.av) rfl rfl (.inl (.next (.next .here))) rfl e12 rfl) rfl ?_
            refine n_alloc rfl rfl rfl rfl (fun b34 => ?_)
            refine n_store_ptr rfl rfl rfl rfl .here rfl rfl ?_
            refine ARun.qv (q_assign rfl) rfl ?_
            refine ARun.qv (q_assign rfl) rfl ?_
            refine ARun.nil ?_
            refine ATodo.seq ?_
            refine ATodo.seq ?_
            refine ATodo.region ?_
            refine ARun.qv (q_move rfl) rfl ?_
            refine ARun.qv (q_move rfl) rfl ?_
            obtain ⟨v35, e13, h⟩ := bnd h
            refine r_callvpB rfl rfl (Q_ThinOf_1x_c e13) (.cons (.co (.refl _)) (.cons (.boxL _ _ _ (.next (.next .here)) (.cons (.co (.refl _)) .nil)) (.cons (.boxL _ _ _ (.next .here) (.cons (.co (.refl _)) .nil)) .nil))) rfl rfl ?_
            refine ARun.qv (q_assign rfl) rfl ?_
            refine ARun.nil ?_
            refine ATodo.block ?_
            refine ATodo.loopI (fun x : Int × Int × Int => Q_ThinOf_b3 p0x0 p1x0 l14 n15 n18 n19 v33 x.1 x.2.1 x.2.2) (fun x σ' => σ' = ⟨165, [(0, .list 4 (p0x0.map Sample.av)), (3, .ptr b1 0), (6, .ptr b2 0), (7, .func (.func 124) [.ptr b2 0, .ptr b1 0]), (8, .sl 4 b13 0 l14.length), (9, I n15), (10, .ptr b17 0), (16, .ptr b34 0), (17, I x.1), (18, I x.2.1), (19, I x.2.2), (46, I (w64 (p1x0 - (2 : Int)))), (47, I n15)], [(b1, .cells [I p1x0]), (b2, .cells [I (p0x0.length : Int)]), (b13, .arr 4 (l14.map Sample.av)), (b17, .cells [.str v16.Device, .str v16.Metric, I n18, I n19]), (b34, .cells [.str v33.Device, .str v33.Metric, I v33.At, I v33.Value])]⟩) h ?_ ?_
            · exact ImpX.lessP (by exact ⟨rfl, rfl, rfl, rfl, rfl, rfl, rfl, rfl, rfl, rfl, rfl, rfl, rfl, True.intro⟩) (.cons (.next .here) (.cons (.next .here) (.cons (.next .here) (.cons (.next .here) (.cons .here .nil))))) (ImpX.here rfl)
            · intro x z3 σ' J3 hmk h hJ3 hA3
              obtain ⟨n39, n40, n41⟩ := x
              obtain rfl := hmk
              replace h : Q_ThinOf_b3 p0x0 p1x0 l14 n15 n18 n19 v33 n39 n40 n41 = some z3 := h
              unfold Q_ThinOf_b3 at h
              refine ATodo.seq ?_
              refine ATodo.seq ?_
              refine ATodo.region ?_
              refine ARun.qv (q_move rfl) rfl ?_
              refine ARun.qv (q_move rfl) rfl ?_
              refine ARun.qv (q_move rfl) rfl ?_
              refine ARun.qv (q_addw rfl rfl) rfl ?_
              obtain ⟨v42, e14, h⟩ := bnd h
              refine r_callvpB rfl rfl (Q_ThinOf_1x_c e14) (.cons (.co (.refl _)) (.cons (.boxL _ _ _ (.next .here) (.cons (.co (.refl _)) .nil)) (.cons (.boxL _ _ _ .here (.cons (.co (.refl _)) .nil)) .nil))) rfl rfl ?_
              refine ARun.qv (q_lss rfl rfl) rfl ?_
              refine ARun.nil ?_
              refine ATodo.cond_d rfl (fun hc => ?_) (fun hc => ?_)
              · replace h := iteT hc h
                refine ATodo.skip ?_
                refine ATodo.seq ?_
                refine ATodo.block ?_
                refine ATodo.seq ?_
                refine ATodo.regionM (id := 26) (A := [0, 0, 3, 7, 15, 0, 32, 127, 0, 256, 0, 1024, 3840, 8191, 0, 0, 49152, 114688, 245760, 0, 524288, 2080768, 0, 4194304, 0, 16777216, 62914560, 134201344, 268435455, 536870911]) 30 mixed rfl (by kernel_rfl) (by kernel_rfl) ?_
                refine AM.qv (q_move rfl) rfl ?_
                refine AM.qv (q_move rfl) rfl ?_
                obtain ⟨v43, e15, h⟩ := bnd h
                refine AM.qv (t_index rfl rfl rfl e15 rfl rfl) rfl ?_
                refine AM.qv (n_field_rptr rfl rfl) rfl ?_
                refine AM.qv (q_load_rptr rfl rfl rfl) rfl ?_
                refine AM.qv (n_field_ptr rfl rfl) rfl ?_
                refine AM.qv (q_load_ptr rfl rfl (.next (.next (.next (.next .here)))) rfl) rfl ?_
                refine AM.qv (q_subw rfl rfl) rfl ?_
                refine AM.qv (n_field_ptr rfl rfl) rfl ?_
                refine AM.qv (q_load_ptr rfl rfl (.next (.next (.next .here))) rfl) rfl ?_
                refine AM.qv (n_field_ptr rfl rfl) rfl ?_
                refine AM.qv (q_load_ptr rfl rfl (.next (.next (.next (.next .here)))) rfl) rfl ?_
                refine AM.qv (q_subw rfl rfl) rfl ?_
                refine AM.qv (q_mulw rfl rfl) rfl ?_
                refine AM.qv (q_move rfl) rfl ?_
                refine AM.qv (q_move rfl) rfl ?_
                obtain ⟨v44, e16, h⟩ := bnd h
                refine AM.qv (t_index rfl rfl rfl e16 rfl rfl) rfl ?_
                refine AM.qv (n_field_rptr rfl rfl) rfl ?_
                refine AM.qv (q_load_rptr rfl rfl rfl) rfl ?_
                refine AM.qv (n_field_ptr rfl rfl) rfl ?_
                refine AM.qv (q_load_ptr rfl rfl (.next (.next (.next (.next .here)))) rfl) rfl ?_
                refine AM.qv (q_subw rfl rfl) rfl ?_
                refine AM.qv (n_field_ptr rfl rfl) rfl ?_
                refine AM.qv (q_load_ptr rfl rfl (.next (.next (.next .here))) rfl) rfl ?_
                refine AM.qv (n_field_ptr rfl rfl) rfl ?_
                refine AM.qv (q_load_ptr rfl rfl (.next (.next (.next (.next .here)))) rfl) rfl ?_
                refine AM.qv (q_subw rfl rfl) rfl ?_
                refine AM.qv (q_mulw rfl rfl) rfl ?_
                refine AM.qv (q_subw rfl rfl) rfl ?_
                refine AM.qv (q_assign rfl) rfl ?_
                refine AM.nil ?_
                refine ARun.nil ?_
                refine ATodo.seq ?_
                refine ATodo.region ?_
                refine ARun.qv (q_move rfl) rfl ?_
                refine ARun.qv (q_move rfl) rfl ?_
                refine ARun.qv (t_negw rfl) rfl ?_
                refine ARun.qv (q_max rfl rfl) rfl ?_
                refine ARun.qv (q_assign rfl) rfl ?_
                refine ARun.nil ?_
                refine ATodo.seq ?_
                refine ATodo.region ?_
                refine ARun.qv (q_move rfl) rfl ?_
                refine ARun.qv (q_move rfl) rfl ?_
                refine ARun.qv (q_gtr rfl rfl) rfl ?_
                refine ARun.nil ?_
                refine ATodo.cut (fun σ' => ∃ (n45 : Int) (n46 : Int), Q_ThinOf_j3 n41 n45 n46 = some z3 ∧ σ' = ⟨165, [(0, .list 4 (p0x0.map Sample.av)), (3, .ptr b1 0), (6, .ptr b2 0), (7, .func (.func 124) [.ptr b2 0, .ptr b1 0]), (8, .sl 4 b13 0 l14.length), (9, I n15), (10, .ptr b17 0), (16, .ptr b34 0), (17, I n45), (18, I n46), (19, I n41), (46, I (w64 (p1x0 - (2 : Int)))), (47, I n15)], [(b1, .cells [I p1x0]), (b2, .cells [I (p0x0.length : Int)]), (b13, .arr 4 (l14.map Sample.av)), (b17, .cells [.str v16.Device, .str v16.Metric, I n18, I n19]), (b34, .cells [.str v33.Device, .str v33.Metric, I v33.At, I v33.Value])]⟩) ?_ ?_
                · refine ATodo.cond_d rfl (fun hc => ?_) (fun hc => ?_)
                  · replace h := iteT hc h
                    refine ATodo.region ?_
                    refine ARun.qv (q_move rfl) rfl ?_
                    refine ARun.qv (q_move rfl) rfl ?_
                    refine ARun.qv (q_assign rfl) rfl ?_
                    refine ARun.qv (q_assign rfl) rfl ?_
                    refine ARun.nil ?_
                    refine ATodo.stop ?_
                    exact ImpX.lessP (by exact ⟨rfl, rfl, rfl, rfl, rfl, rfl, rfl, rfl, rfl, rfl, rfl, rfl, rfl, True.intro⟩) (.cons .here (.cons .here (.cons .here (.cons .here (.cons .here .nil))))) (ImpX.here ⟨n41, max (w64 ((w64 ((w64 (v43.At - v33.At)) * (w64 (n19 - v33.Value)))) - (w64 ((w64 (v44.Value - v33.Value)) * (w64 (n18 - v33.At)))))) (w64 (-(w64 ((w64 ((w64 (v43.At - v33.At)) * (w64 (n19 - v33.Value)))) - (w64 ((w64 (v44.Value - v33.Value)) * (w64 (n18 - v33.At)))))))), h, rfl⟩)
                  · replace h := iteF hc h
                    refine ATodo.skip ?_
                    refine ATodo.stop ?_
                    exact ImpX.lessP (by exact ⟨rfl, rfl, rfl, rfl, rfl, rfl, rfl, rfl, rfl, rfl, rfl, rfl, rfl, True.intro⟩) (.cons .here (.cons .here (.cons .here (.cons .here (.cons .here .nil))))) (ImpX.here ⟨n39, n40, h, rfl⟩)
                · rintro σ' ⟨n45, n46, h, rfl⟩
                  unfold Q_ThinOf_j3 at h
                  refine ATodo.blk ?_
                  refine ATodo.region ?_
                  refine ARun.qv (q_move rfl) rfl ?_
                  refine ARun.qv (q_addw rfl rfl) rfl ?_
                  refine ARun.qv (q_assign rfl) rfl ?_
                  refine ARun.nil ?_
                  refine ATodo.stop ?_
                  obtain rfl := Option.some.inj h
                  refine hJ3 _ _ rfl ?_
                  exact ImpX.lessP (by exact ⟨rfl, rfl, rfl, rfl, rfl, rfl, rfl, rfl, rfl, rfl, rfl, rfl, rfl, True.intro⟩) (.cons .here (.cons .here (.cons .here (.cons .here (.cons .here .nil))))) (ImpX.here rfl)
              · replace h := iteF hc h
                refine ATodo.exit rfl ?_
                replace h := outL h hA3
                unfold Q_ThinOf_k4 at h
                refine ATodo.region ?_
                refine ARun.qv (q_move rfl) rfl ?_
                refine ARun.qv (q_move rfl) rfl ?_
                refine ARun.qv (q_move rfl) rfl ?_
                obtain ⟨v47, e17, h⟩ := bnd h
                refine ARun.qv (t_index rfl rfl rfl e17 rfl rfl) rfl ?_
                refine ARun.qv (q_load_rptr_agg rfl rfl rfl) rfl ?_
                refine n_buildSliceL (xs := ([v47] : List Sample).map Sample.av) rfl rfl rfl rfl rfl rfl ?_
                obtain ⟨l48, e18, h⟩ := bnd h
                refine t_append (g := Sample.av) rfl rfl rfl rfl rfl rfl rfl rfl (.list _) e18 (fun _ => (.next (.next .here))) rfl (fun b49 => ?_)
                refine ARun.qv (q_assign rfl) rfl ?_
                refine ARun.nil ?_
                refine ATodo.blk ?_
                refine ATodo.region ?_
                refine ARun.qv (q_addw rfl rfl) rfl ?_
                refine ARun.qv (q_move rfl) rfl ?_
                refine ARun.nil ?_
                refine ATodo.stop ?_
                obtain rfl := Option.some.inj h
                refine hJ1 _ _ rfl ?_
                exact ImpX.lessP (by exact ⟨rfl, rfl, rfl, rfl, rfl, rfl, rfl, True.intro⟩) (.cons .here (.cons .here (.cons .here .nil))) (ImpX.here ⟨b49, rfl⟩)
        · replace h := iteF hc h
          refine ATodo.exit rfl ?_
          replace h := outL h hA1
          unfold Q_ThinOf_k5 at h
          refine ATodo.seq ?_
          refine ATodo.region ?_
          refine ARun.qv (q_move rfl) rfl ?_
          refine ARun.qv (q_move rfl) rfl ?_
          refine ARun.qv (q_load_ptr rfl rfl (.next .here) rfl) rfl ?_
          refine ARun.qv (q_subw rfl rfl) rfl ?_
          obtain ⟨v50, e19, h⟩ := bnd h
          refine ARun.qv (t_index rfl rfl rfl e19 rfl rfl) rfl ?_
          refine ARun.qv (q_load_rptr_agg rfl rfl rfl) rfl ?_
          refine n_buildSliceL (xs := ([v50] : List Sample).map Sample.av) rfl rfl rfl rfl rfl rfl ?_
          obtain ⟨l51, e20, h⟩ := bnd h
          refine t_append (g := Sample.av) rfl rfl rfl rfl rfl rfl rfl rfl (.list _) e20 (fun _ => (.next (.next .here))) rfl (fun b52 => ?_)
          refine ARun.qv (q_assign rfl) rfl ?_
          refine ARun.qv (q_assign rfl) rfl ?_
          refine ARun.nil ?_
          refine ATodo.ret ?_
          obtain rfl := Option.some.inj h
          exact ImpX.here ⟨_, .cons (.tmp _ _ rfl) (.cons (.tmp _ _ rfl) .nil), _, .cons (.next (.next .here)) .nil, ⟨b52, rfl, rfl⟩⟩

set_option maxHeartbeats 4000000 in
theorem slices_Equal_Pairing_Pairing_c {p0x0 : List Pairing} {p1x0 : List Pairing} {r : Bool} (h : slices_Equal_Pairing_Pairing p0x0 p1x0 = some r) : Pu Try.prog 63 [.list 8 (p0x0.map Pairing.av), .list 8 (p1x0.map Pairing.av)] (.bool r) := by
  unfold slices_Equal_Pairing_Pairing at h
  refine ACall.bodyN Try.func63 rfl Try.ntmps63 Try.results63 rfl rfl ?_
  refine ATodo.seq ?_
  refine ATodo.region ?_
  refine ARun.qv (q_assign rfl) rfl ?_
  refine ARun.nil ?_
  refine ATodo.seq ?_
  refine ATodo.seq ?_
  refine ATodo.region ?_
  refine ARun.qv (q_move rfl) rfl ?_
  refine ARun.qv (t_len rfl) rfl ?_
  refine ARun.qv (q_move rfl) rfl ?_
  refine ARun.qv (t_len rfl) rfl ?_
  refine ARun.qv (q_neq rfl rfl) rfl ?_
  refine ARun.nil ?_
  refine ATodo.cond_d rfl (fun hc => ?_) (fun hc => ?_)
  · replace h := iteT hc h
    refine ATodo.seq ?_
    refine ATodo.region ?_
    refine ARun.qv (q_assign rfl) rfl ?_
    refine ARun.nil ?_
    refine ATodo.ret ?_
    obtain rfl := Option.some.inj h
    exact ImpX.here ⟨_, .cons (.tmp _ _ rfl) .nil, rfl⟩
  · replace h := iteF hc h
    refine ATodo.skip ?_
    refine ATodo.seq ?_
    refine ATodo.seq ?_
    refine ATodo.region ?_
    refine ARun.qv (q_move rfl) rfl ?_
    refine ARun.qv (t_len rfl) rfl ?_
    refine ARun.qv (q_move rfl) rfl ?_
    refine ARun.nil ?_
    refine ATodo.block ?_
    refine ATodo.loopI (fun x : Int => slices_Equal_Pairing_Pairing_b1 p0x0 p1x0 x) (fun x σ' => σ' = ⟨26, [(0, .list 8 (p0x0.map Pairing.av)), (1, .list 8 (p1x0.map Pairing.av)), (12, I (p0x0.length : Int)), (13, I x)], []⟩) h ?_ ?_
    · exact ImpX.lessP (by exact ⟨rfl, rfl, rfl, rfl, True.intro⟩) (.nil) (ImpX.here rfl)
    · intro n2 z1 σ' J1 hmk h hJ1 hA1
      obtain rfl := hmk
      replace h : slices_Equal_Pairing_Pairing_b1 p0x0 p1x0 n2 = some z1 := h
      unfold slices_Equal_Pairing_Pairing_b1 at h
      refine ATodo.seq ?_
      refine ATodo.region ?_
      refine ARun.qv (q_lss rfl rfl) rfl ?_
      refine ARun.nil ?_
      refine ATodo.seq ?_
      refine ATodo.cond_d rfl (fun hc => ?_) (fun hc => ?_)
      · replace h := iteT hc h
        refine ATodo.skip ?_
        refine ATodo.seq ?_
        refine ATodo.block ?_
        refine ATodo.seq ?_
        refine ATodo.region ?_
        refine ARun.qv (q_move rfl) rfl ?_
        refine ARun.qv (q_assign rfl) rfl ?_
        refine ARun.nil ?_
        refine ATodo.seq ?_
        refine ATodo.regionM (id := 6) (A := [0, 0, 3, 7, 0, 0, 48, 112, 255]) 9 mixed rfl (by kernel_rfl) (by kernel_rfl) ?_
        refine AM.qv (q_move rfl) rfl ?_
        refine AM.qv (q_move rfl) rfl ?_
        obtain ⟨v3, e1, h⟩ := bnd h
        refine AM.qv (t_index rfl rfl rfl e1 rfl rfl) rfl ?_
        refine AM.qv (q_load_rptr_agg rfl rfl rfl) rfl ?_
        refine AM.qv (q_move rfl) rfl ?_
        refine AM.qv (q_move rfl) rfl ?_
        obtain ⟨v4, e2, h⟩ := bnd h
        refine AM.qv (t_index rfl rfl rfl e2 rfl rfl) rfl ?_
        refine AM.qv (q_load_rptr_agg rfl rfl rfl) rfl ?_
        refine AM.qv (t_tne (g := Pairing.av) (X := v3) (Y := v4) rfl rfl rfl rfl rfl) rfl ?_
        refine AM.nil ?_
        refine ARun.nil ?_
        refine ATodo.cond_d rfl (fun hc => ?_) (fun hc => ?_)
        · replace h := iteT hc h
          refine ATodo.seq ?_
          refine ATodo.region ?_
          refine ARun.qv (q_assign rfl) rfl ?_
          refine ARun.nil ?_
          refine ATodo.ret ?_
          replace h := outL h hA1
          obtain rfl := Option.some.inj h
          exact ImpX.here ⟨_, .cons (.tmp _ _ rfl) .nil, rfl⟩
        · replace h := iteF hc h
          refine ATodo.skip ?_
          refine ATodo.blk ?_
          refine ATodo.region ?_
          refine ARun.qv (q_addw rfl rfl) rfl ?_
          refine ARun.qv (q_move rfl) rfl ?_
          refine ARun.nil ?_
          refine ATodo.stop ?_
          obtain rfl := Option.some.inj h
          refine hJ1 _ _ rfl ?_
          exact ImpX.lessP (by exact ⟨rfl, rfl, rfl, rfl, True.intro⟩) (.nil) (ImpX.here rfl)
      · replace h := iteF hc h
        refine ATodo.exit rfl ?_
        replace h := outL h hA1
        refine ATodo.seq ?_
        refine ATodo.region ?_
        refine ARun.qv (q_assign rfl) rfl ?_
        refine ARun.nil ?_
        refine ATodo.ret ?_
        obtain rfl := Option.some.inj h
        exact ImpX.here ⟨_, .cons (.tmp _ _ rfl) .nil, rfl⟩

set_option maxHeartbeats 4000000 in
theorem slices_Equal_Sample_Sample_c {p0x0 : List Sample} {p1x0 : List Sample} {r : Bool} (h : slices_Equal_Sample_Sample p0x0 p1x0 = some r) : Pu Try.prog 19 [.list 4 (p0x0.map Sample.av), .list 4 (p1x0.map Sample.av)] (.bool r) := by
  unfold slices_Equal_Sample_Sample at h
  refine ACall.bodyN Try.func19 rfl Try.ntmps19 Try.results19 rfl rfl ?_
  refine ATodo.seq ?_
  refine ATodo.region ?_
  refine ARun.qv (q_assign rfl) rfl ?_
  refine ARun.nil ?_
  refine ATodo.seq ?_
  refine ATodo.seq ?_
  refine ATodo.region ?_
  refine ARun.qv (q_move rfl) rfl ?_
  refine ARun.qv (t_len rfl) rfl ?_
  refine ARun.qv (q_move rfl) rfl ?_
  refine ARun.qv (t_len rfl) rfl ?_
  refine ARun.qv (q_neq rfl rfl) rfl ?_
  refine ARun.nil ?_
  refine ATodo.cond_d rfl (fun hc => ?_) (fun hc => ?_)
  · replace h := iteT hc h
    refine ATodo.seq ?_
    refine ATodo.region ?_
    refine ARun.qv (q_assign rfl) rfl ?_
    refine ARun.nil ?_
    refine ATodo.ret ?_
    obtain rfl := Option.some.inj h
    exact ImpX.here ⟨_, .cons (.tmp _ _ rfl) .nil, rfl⟩
  · replace h := iteF hc h
    refine ATodo.skip ?_
    refine ATodo.seq ?_
    refine ATodo.seq ?_
    refine ATodo.region ?_
    refine ARun.qv (q_move rfl) rfl ?_
    refine ARun.qv (t_len rfl) rfl ?_
    refine ARun.qv (q_move rfl) rfl ?_
    refine ARun.nil ?_
    refine ATodo.block ?_
    refine ATodo.loopI (fun x : Int => slices_Equal_Sample_Sample_b1 p0x0 p1x0 x) (fun x σ' => σ' = ⟨26, [(0, .list 4 (p0x0.map Sample.av)), (1, .list 4 (p1x0.map Sample.av)), (12, I (p0x0.length : Int)), (13, I x)], []⟩) h ?_ ?_
    · exact ImpX.lessP (by exact ⟨rfl, rfl, rfl, rfl, True.intro⟩) (.nil) (ImpX.here rfl)
    · intro n2 z1 σ' J1 hmk h hJ1 hA1
      obtain rfl := hmk
      replace h : slices_Equal_Sample_Sample_b1 p0x0 p1x0 n2 = some z1 := h
      unfold slices_Equal_Sample_Sample_b1 at h
      refine ATodo.seq ?_
      refine ATodo.region ?_
      refine ARun.qv (q_lss rfl rfl) rfl ?_
      refine ARun.nil ?_
      refine ATodo.seq ?_
      refine ATodo.cond_d rfl (fun hc => ?_) (fun hc => ?_)
      · replace h := iteT hc h
        refine ATodo.skip ?_
        refine ATodo.seq ?_
        refine ATodo.block ?_
        refine ATodo.seq ?_
        refine ATodo.region ?_
        refine ARun.qv (q_move rfl) rfl ?_
        refine ARun.qv (q_assign rfl) rfl ?_
        refine ARun.nil ?_
        refine ATodo.seq ?_
        refine ATodo.regionM (id := 6) (A := [0, 0, 3, 7, 0, 0, 48, 112, 255]) 9 mixed rfl (by kernel_rfl) (by kernel_rfl) ?_
        refine AM.qv (q_move rfl) rfl ?_
        refine AM.qv (q_move rfl) rfl ?_
        obtain ⟨v3, e1, h⟩ := bnd h
        refine AM.qv (t_index rfl rfl rfl e1 rfl rfl) rfl ?_
        refine AM.qv (q_load_rptr_agg rfl rfl rfl) rfl ?_
        refine AM.qv (q_move rfl) rfl ?_
        refine AM.qv (q_move rfl) rfl ?_
        obtain ⟨v4, e2, h⟩ := bnd h
        refine AM.qv (t_index rfl rfl rfl e2 rfl rfl) rfl ?_
        refine AM.qv (q_load_rptr_agg rfl rfl rfl) rfl ?_
        refine AM.qv (t_tne (g := Sample.av) (X := v3) (Y := v4) rfl rfl rfl rfl rfl) rfl ?_
        refine AM.nil ?_
        refine ARun.nil ?_
        refine ATodo.cond_d rfl (fun hc => ?_) (fun hc => ?_)
        · replace h := iteT hc h
          refine ATodo.seq ?_
          refine ATodo.region ?_
          refine ARun.qv (q_assign rfl) rfl ?_
          refine ARun.nil ?_
          refine ATodo.ret ?_
          replace h := outL h hA1
          obtain rfl := Option.some.inj h
          exact ImpX.here ⟨_, .cons (.tmp _ _ rfl) .nil, rfl⟩
        · replace h := iteF hc h
          refine ATodo.skip ?_
          refine ATodo.blk ?_
          refine ATodo.region ?_
          refine ARun.qv (q_addw rfl rfl) rfl ?_
          refine ARun.qv (q_move rfl) rfl ?_
          refine ARun.nil ?_
          refine ATodo.stop ?_
          obtain rfl := Option.some.inj h
          refine hJ1 _ _ rfl ?_
          exact ImpX.lessP (by exact ⟨rfl, rfl, rfl, rfl, True.intro⟩) (.nil) (ImpX.here rfl)
      · replace h := iteF hc h
        refine ATodo.exit rfl ?_
        replace h := outL h hA1
        refine ATodo.seq ?_
        refine ATodo.region ?_
        refine ARun.qv (q_assign rfl) rfl ?_
        refine ARun.nil ?_
        refine ATodo.ret ?_
        obtain rfl := Option.some.inj h
        exact ImpX.here ⟨_, .cons (.tmp _ _ rfl) .nil, rfl⟩

set_option maxHeartbeats 4000000 in
theorem series_seven_n0x_c {p1x0 : Int} {r : (List Int)} (h : series_seven_n0x p1x0 = some r) : ACall Try.prog 132 [.nil, .int .u64 p1x0] [] (T1 (fun d_0 => [(d_0, .arr 1 (r.map (AV.int .u8)))]) (fun d_0 => .sl 1 d_0 0 r.length)) := by
  unfold series_seven_n0x at h
  refine ACall.lessH ?_
  refine ACall.bodyN Try.func132 rfl Try.ntmps132 Try.results132 rfl rfl ?_
  refine ATodo.seq ?_
  refine ATodo.region ?_
  refine ARun.qv (q_assign rfl) rfl ?_
  refine ARun.nil ?_
  refine ATodo.seq ?_
  refine ATodo.block ?_
  refine ATodo.loopI (fun x : (List Int) × Int => series_seven_n0x_b1 x.1 x.2) (fun x σ' => ∃ (b4 : Bk), σ' = ⟨21, [(0, .sl 1 b4 0 x.1.length), (1, .int .u64 x.2)], [(b4, .arr 1 (x.1.map (AV.int .u8)))]⟩) h ?_ ?_
  · refine ImpX.arr (s := 0) 1 rfl (fun b7 => ?_)
    exact ImpX.lessP (by exact ⟨rfl, rfl, True.intro⟩) (.cons .here .nil) (ImpX.here ⟨b7, rfl⟩)
  · intro x z1 σ' J1 hmk h hJ1 hA1
    obtain ⟨l5, n6⟩ := x
    obtain ⟨b4, rfl⟩ := hmk
    replace h : series_seven_n0x_b1 l5 n6 = some z1 := h
    unfold series_seven_n0x_b1 at h
    refine ATodo.seq ?_
    refine ATodo.seq ?_
    refine ATodo.region ?_
    refine ARun.qv (q_move rfl) rfl ?_
    refine ARun.qv (q_geq rfl rfl) rfl ?_
    refine ARun.nil ?_
    refine ATodo.cond_d rfl (fun hc => ?_) (fun hc => ?_)
    · replace h := iteT hc h
      refine ATodo.skip ?_
      refine ATodo.block ?_
      refine ATodo.region ?_
      refine ARun.qv (q_move rfl) rfl ?_
      refine ARun.qv (q_move rfl) rfl ?_
      refine ARun.qv (t_and rfl rfl) rfl ?_
      refine ARun.qv (q_conv_int rfl) rfl ?_
      refine ARun.qv (t_or rfl rfl) rfl ?_
      refine n_buildSliceL (xs := ([orI .u8 (IntKind.u8.wrap (andI .u64 n6 (127 : Int))) (128 : Int)]).map (AV.int .u8)) rfl rfl rfl rfl rfl rfl ?_
      obtain ⟨l8, e1, h⟩ := bnd h
      refine t_append (g := (AV.int .u8)) rfl rfl rfl rfl rfl rfl rfl rfl (.list _) e1 (fun _ => .here) rfl (fun b9 => ?_)
      refine ARun.qv (q_move rfl) rfl ?_
      refine ARun.qv (t_shr rfl rfl (by decide)) rfl ?_
      refine ARun.qv (q_assign rfl) rfl ?_
      refine ARun.qv (q_assign rfl) rfl ?_
      refine ARun.nil ?_
      refine ATodo.blk ?_
      refine ATodo.stop ?_
      obtain rfl := Option.some.inj h
      refine hJ1 _ _ rfl ?_
      exact ImpX.lessP (by exact ⟨rfl, rfl, True.intro⟩) (.cons .here .nil) (ImpX.here ⟨b9, rfl⟩)
    · replace h := iteF hc h
      refine ATodo.exit rfl ?_
      replace h := outL h hA1
      unfold series_seven_n0x_k1 at h
      refine ATodo.seq ?_
      refine ATodo.region ?_
      refine ARun.qv (q_move rfl) rfl ?_
      refine ARun.qv (q_move rfl) rfl ?_
      refine ARun.qv (q_conv_int rfl) rfl ?_
      refine n_buildSliceL (xs := ([IntKind.u8.wrap (n6)] : List Int).map (AV.int .u8)) rfl rfl rfl rfl rfl rfl ?_
      obtain ⟨l10, e2, h⟩ := bnd h
      refine t_append (g := (AV.int .u8)) rfl rfl rfl rfl rfl rfl rfl rfl (.list _) e2 (fun _ => .here) rfl (fun b11 => ?_)
      refine ARun.qv (q_assign rfl) rfl ?_
      refine ARun.nil ?_
      refine ATodo.ret ?_
      obtain rfl := Option.some.inj h
      exact ImpX.here ⟨_, .cons (.tmp _ _ rfl) .nil, _, .cons .here .nil, ⟨b11, rfl, rfl⟩⟩

set_option maxHeartbeats 4000000 in
theorem series_doubled_c {p0x0 : Int} {r : Int} (h : series_doubled p0x0 = r) : Pu Try.prog 133 [I p0x0] (.int .u64 r) := by
  unfold series_doubled at h
  refine ACall.bodyN Try.func133 rfl Try.ntmps133 Try.results133 rfl rfl ?_
  refine ATodo.seq ?_
  refine ATodo.region ?_
  refine ARun.qv (q_assign rfl) rfl ?_
  refine ARun.nil ?_
  refine ATodo.seq ?_
  refine ATodo.seq ?_
  refine ATodo.region ?_
  refine ARun.qv (q_move rfl) rfl ?_
  refine ARun.qv (q_lss rfl rfl) rfl ?_
  refine ARun.nil ?_
  refine ATodo.cond_d rfl (fun hc => ?_) (fun hc => ?_)
  · replace h := iteT hc h
    refine ATodo.seq ?_
    refine ATodo.region ?_
    refine ARun.qv (q_move rfl) rfl ?_
    refine ARun.qv (q_mulw rfl rfl) rfl ?_
    refine ARun.qv (q_subw rfl rfl) rfl ?_
    refine ARun.qv (q_conv_int rfl) rfl ?_
    refine ARun.qv (q_assign rfl) rfl ?_
    refine ARun.nil ?_
    refine ATodo.ret ?_
    obtain rfl := h
    exact ImpX.here ⟨_, .cons (.tmp _ _ rfl) .nil, rfl⟩
  · replace h := iteF hc h
    refine ATodo.skip ?_
    refine ATodo.seq ?_
    refine ATodo.region ?_
    refine ARun.qv (q_move rfl) rfl ?_
    refine ARun.qv (q_mulw rfl rfl) rfl ?_
    refine ARun.qv (q_conv_int rfl) rfl ?_
    refine ARun.qv (q_assign rfl) rfl ?_
    refine ARun.nil ?_
    refine ATodo.ret ?_
    obtain rfl := h
    exact ImpX.here ⟨_, .cons (.tmp _ _ rfl) .nil, rfl⟩

set_option maxHeartbeats 4000000 in
theorem series_seven_o0x_c {b_0 : Bk} {p0x0 : List Int} {p1x0 : Int} {r : (List Int)} (h : series_seven_o0x p0x0 p1x0 = some r) : ACall Try.prog 132 [.sl 1 b_0 0 p0x0.length, .int .u64 p1x0] [(b_0, .arr 1 (p0x0.map (AV.int .u8)))] (T1 (fun d_0 => [(d_0, .arr 1 (r.map (AV.int .u8)))]) (fun d_0 => .sl 1 d_0 0 r.length)) := by
  unfold series_seven_o0x at h
  refine ACall.lessH ?_
  refine ACall.bodyN Try.func132 rfl Try.ntmps132 Try.results132 rfl rfl ?_
  refine ATodo.seq ?_
  refine ATodo.region ?_
  refine ARun.qv (q_assign rfl) rfl ?_
  refine ARun.nil ?_
  refine ATodo.seq ?_
  refine ATodo.block ?_
  refine ATodo.loopI (fun x : (List Int) × Int => series_seven_o0x_b1 x.1 x.2) (fun x σ' => ∃ (b4 : Bk), σ' = ⟨21, [(0, .sl 1 b4 0 x.1.length), (1, .int .u64 x.2)], [(b4, .arr 1 (x.1.map (AV.int .u8)))]⟩) h ?_ ?_
  · exact ImpX.lessP (by exact ⟨rfl, rfl, True.intro⟩) (.cons .here .nil) (ImpX.here ⟨b_0, rfl⟩)
  · intro x z1 σ' J1 hmk h hJ1 hA1
    obtain ⟨l5, n6⟩ := x
    obtain ⟨b4, rfl⟩ := hmk
    replace h : series_seven_o0x_b1 l5 n6 = some z1 := h
    unfold series_seven_o0x_b1 at h
    refine ATodo.seq ?_
    refine ATodo.seq ?_
    refine ATodo.region ?_
    refine ARun.qv (q_move rfl) rfl ?_
    refine ARun.qv (q_geq rfl rfl) rfl ?_
    refine ARun.nil ?_
    refine ATodo.cond_d rfl (fun hc => ?_) (fun hc => ?_)
    · replace h := iteT hc h
      refine ATodo.skip ?_
      refine ATodo.block ?_
      refine ATodo.region ?_
      refine ARun.qv (q_move rfl) rfl ?_
      refine ARun.qv (q_move rfl) rfl ?_
      refine ARun.qv (t_and rfl rfl) rfl ?_
      refine ARun.qv (q_conv_int rfl) rfl ?_
      refine ARun.qv (t_or rfl rfl) rfl ?_
      refine n_buildSliceL (xs := ([orI .u8 (IntKind.u8.wrap (andI .u64 n6 (127 : Int))) (128 : Int)]).map (AV.int .u8)) rfl rfl rfl rfl rfl rfl ?_
      obtain ⟨l7, e1, h⟩ := bnd h
      refine t_append (g := (AV.int .u8)) rfl rfl rfl rfl rfl rfl rfl rfl (.list _) e1 (fun _ => .here) rfl (fun b8 => ?_)
      refine ARun.qv (q_move rfl) rfl ?_
      refine ARun.qv (t_shr rfl rfl (by decide)) rfl ?_
      refine ARun.qv (q_assign rfl) rfl ?_
      refine ARun.qv (q_assign rfl) rfl ?_
      refine ARun.nil ?_
      refine ATodo.blk ?_
      refine ATodo.stop ?_
      obtain rfl := Option.some.inj h
      refine hJ1 _ _ rfl ?_
      exact ImpX.lessP (by exact ⟨rfl, rfl, True.intro⟩) (.cons .here .nil) (ImpX.here ⟨b8, rfl⟩)
    · replace h := iteF hc h
      refine ATodo.exit rfl ?_
      replace h := outL h hA1
      unfold series_seven_o0x_k1 at h
      refine ATodo.seq ?_
      refine ATodo.region ?_
      refine ARun.qv (q_move rfl) rfl ?_
      refine ARun.qv (q_move rfl) rfl ?_
      refine ARun.qv (q_conv_int rfl) rfl ?_
      refine n_buildSliceL (xs := ([IntKind.u8.wrap (n6)] : List Int).map (AV.int .u8)) rfl rfl rfl rfl rfl rfl ?_
      obtain ⟨l9, e2, h⟩ := bnd h
      refine t_append (g := (AV.int .u8)) rfl rfl rfl rfl rfl rfl rfl rfl (.list _) e2 (fun _ => .here) rfl (fun b10 => ?_)
      refine ARun.qv (q_assign rfl) rfl ?_
      refine ARun.nil ?_
      refine ATodo.ret ?_
      obtain rfl := Option.some.inj h
      exact ImpX.here ⟨_, .cons (.tmp _ _ rfl) .nil, _, .cons .here .nil, ⟨b10, rfl, rfl⟩⟩

set_option maxHeartbeats 4000000 in
theorem series_pack_c {p0x0 : List Sample} {r : (List Int)} (h : series_pack p0x0 = some r) : ACall Try.prog 77 [.list 4 (p0x0.map Sample.av)] [] (T1 (fun d_0 => [(d_0, .arr 1 (r.map (AV.int .u8)))]) (fun d_0 => .sl 1 d_0 0 r.length)) := by
  unfold series_pack at h
  refine ACall.lessH ?_
  refine ACall.bodyN Try.func77 rfl Try.ntmps77 Try.results77 rfl rfl ?_
  refine ATodo.seq ?_
  refine ATodo.region ?_
  refine ARun.qv (q_assign rfl) rfl ?_
  refine ARun.nil ?_
  refine ATodo.seq ?_
  refine ATodo.region ?_
  refine ARun.qv (q_move rfl) rfl ?_
  refine ARun.qv (t_len rfl) rfl ?_
  refine ARun.qv (q_conv_int rfl) rfl ?_
  obtain ⟨v1, e1, h⟩ := bnd h
  refine t_call1 rfl (series_seven_n0x_c e1) (CoL.refl _) .nil (fun _ => rfl) rfl (fun b2 => ?_)
  refine ARun.qv (q_assign rfl) rfl ?_
  refine ARun.nil ?_
  refine ATodo.seq ?_
  refine ATodo.region ?_
  refine ARun.qv (q_assign rfl) rfl ?_
  refine ARun.qv (q_assign rfl) rfl ?_
  refine ARun.qv (q_assign rfl) rfl ?_
  refine ARun.nil ?_
  refine ATodo.seq ?_
  refine ATodo.seq ?_
  refine ATodo.region ?_
  refine ARun.qv (q_move rfl) rfl ?_
  refine ARun.qv (t_len rfl) rfl ?_
  refine ARun.qv (q_move rfl) rfl ?_
  refine ARun.nil ?_
  refine ATodo.block ?_
  refine ATodo.loopI (fun x : (List Int) × Int × Int × Int × Int => series_pack_b1 p0x0 x.1 x.2.1 x.2.2.1 x.2.2.2.1 x.2.2.2.2) (fun x σ' => ∃ (b9 : Bk), σ' = ⟨47, [(3, .sl 1 b9 0 x.1.length), (4, I x.2.1), (5, I x.2.2.1), (6, I x.2.2.2.1), (14, .list 4 (p0x0.map Sample.av)), (15, I (p0x0.length : Int)), (16, I x.2.2.2.2)], [(b9, .arr 1 (x.1.map (AV.int .u8)))]⟩) h ?_ ?_
  · exact ImpX.lessP (by exact ⟨rfl, rfl, rfl, rfl, rfl, rfl, rfl, True.intro⟩) (.cons .here .nil) (ImpX.here ⟨b2, rfl⟩)
  · intro x z1 σ' J1 hmk h hJ1 hA1
    obtain ⟨l10, n11, n12, n13, n14⟩ := x
    obtain ⟨b9, rfl⟩ := hmk
    replace h : series_pack_b1 p0x0 l10 n11 n12 n13 n14 = some z1 := h
    unfold series_pack_b1 at h
    refine ATodo.seq ?_
    refine ATodo.region ?_
    refine ARun.qv (q_lss rfl rfl) rfl ?_
    refine ARun.nil ?_
    refine ATodo.seq ?_
    refine ATodo.cond_d rfl (fun hc => ?_) (fun hc => ?_)
    · replace h := iteT hc h
      refine ATodo.skip ?_
      refine ATodo.seq ?_
      refine ATodo.block ?_
      refine ATodo.seq ?_
      refine ATodo.region ?_
      refine ARun.qv (q_move rfl) rfl ?_
      obtain ⟨v15, e2, h⟩ := bnd h
      refine ARun.qv (t_index rfl rfl rfl e2 rfl rfl) rfl ?_
      refine ARun.qv (q_load_rptr_agg rfl rfl rfl) rfl ?_
      refine n_alloc rfl rfl rfl rfl (fun b16 => ?_)
      refine ARun.qv (q_assign rfl) rfl ?_
      refine n_store_ptr rfl rfl rfl rfl .here rfl rfl ?_
      refine ARun.nil ?_
      refine ATodo.seq ?_
      refine ATodo.region ?_
      refine ARun.qv (n_field_ptr rfl rfl) rfl ?_
      refine ARun.qv (q_load_ptr rfl rfl .here rfl) rfl ?_
      refine ARun.qv (q_move rfl) rfl ?_
      refine ARun.qv (q_subw rfl rfl) rfl ?_
      refine ARun.qv (q_assign rfl) rfl ?_
      refine ARun.nil ?_
      refine ATodo.seq ?_
      refine ATodo.region ?_
      refine ARun.qv (q_move rfl) rfl ?_
      refine ARun.qv (q_move rfl) rfl ?_
      refine ARun.qv (q_move rfl) rfl ?_
      refine ARun.qv (q_subw rfl rfl) rfl ?_
      refine r_callp rfl (series_doubled_c rfl) (CoL.refl _) rfl ?_
      obtain ⟨v17, e3, h⟩ := bnd h
      refine t_call1 rfl (series_seven_o0x_c e3) (CoL.refl _) (.cons (.next .here) .nil) (fun _ => rfl) rfl (fun b18 => ?_)
      refine ARun.qv (q_assign rfl) rfl ?_
      refine ARun.nil ?_
      refine ATodo.seq ?_
      refine ATodo.region ?_
      refine ARun.qv (q_move rfl) rfl ?_
      refine ARun.qv (n_field_ptr rfl rfl) rfl ?_
      refine ARun.qv (q_load_ptr rfl rfl (.next .here) rfl) rfl ?_
      refine ARun.qv (q_move rfl) rfl ?_
      refine ARun.qv (q_subw rfl rfl) rfl ?_
      refine r_callp rfl (series_doubled_c rfl) (CoL.refl _) rfl ?_
      obtain ⟨v19, e4, h⟩ := bnd h
      refine t_call1 rfl (series_seven_o0x_c e4) (CoL.refl _) (.cons .here .nil) (fun _ => rfl) rfl (fun b20 => ?_)
      refine ARun.qv (q_assign rfl) rfl ?_
      refine ARun.nil ?_
      refine ATodo.seq ?_
      refine ATodo.seq ?_
      refine ATodo.region ?_
      refine ARun.qv (q_move rfl) rfl ?_
      refine ARun.qv (q_gtr rfl rfl) rfl ?_
      refine ARun.nil ?_
      refine ATodo.cut (fun σ' => ∃ (n21 : Int), series_pack_j1 n14 v15 v19 n21 = some z1 ∧ σ' = ⟨47, [(3, .sl 1 b20 0 v19.length), (5, I n21), (8, .ptr b16 0), (14, .list 4 (p0x0.map Sample.av)), (15, I (p0x0.length : Int)), (16, I n14)], [(b20, .arr 1 (v19.map (AV.int .u8))), (b16, .cells [.str v15.Device, .str v15.Metric, I v15.At, I v15.Value])]⟩) ?_ ?_
      · refine ATodo.cond_d rfl (fun hc => ?_) (fun hc => ?_)
        · replace h := iteT hc h
          refine ATodo.region ?_
          refine ARun.qv (q_move rfl) rfl ?_
          refine ARun.qv (q_assign rfl) rfl ?_
          refine ARun.nil ?_
          refine ATodo.stop ?_
          exact ImpX.lessP (by exact ⟨rfl, rfl, rfl, rfl, rfl, rfl, True.intro⟩) (.cons .here (.cons .here .nil)) (ImpX.here ⟨w64 (v15.At - n11), h, rfl⟩)
        · replace h := iteF hc h
          refine ATodo.skip ?_
          refine ATodo.stop ?_
          exact ImpX.lessP (by exact ⟨rfl, rfl, rfl, rfl, rfl, rfl, True.intro⟩) (.cons .here (.cons .here .nil)) (ImpX.here ⟨n12, h, rfl⟩)
      · rintro σ' ⟨n21, h, rfl⟩
        unfold series_pack_j1 at h
        refine ATodo.regionM (id := 11) (A := [0, 1, 0, 4, 3, 31]) 6 mixed rfl (by kernel_rfl) (by kernel_rfl) ?_
        refine AM.qv (n_field_ptr rfl rfl) rfl ?_
        refine AM.qv (q_load_ptr rfl rfl (.next .here) rfl) rfl ?_
        refine AM.qv (n_field_ptr rfl rfl) rfl ?_
        refine AM.qv (q_load_ptr rfl rfl (.next .here) rfl) rfl ?_
        refine AM.qv (q_assign rfl) rfl ?_
        refine AM.qv (q_assign rfl) rfl ?_
        refine AM.nil ?_
        refine ARun.nil ?_
        refine ATodo.blk ?_
        refine ATodo.region ?_
        refine ARun.qv (q_addw rfl rfl) rfl ?_
        refine ARun.qv (q_move rfl) rfl ?_
        refine ARun.nil ?_
        refine ATodo.stop ?_
        obtain rfl := Option.some.inj h
        refine hJ1 _ _ rfl ?_
        exact ImpX.lessP (by exact ⟨rfl, rfl, rfl, rfl, rfl, rfl, rfl, True.intro⟩) (.cons .here .nil) (ImpX.here ⟨b20, rfl⟩)
    · replace h := iteF hc h
      refine ATodo.exit rfl ?_
      replace h := outL h hA1
      refine ATodo.seq ?_
      refine ATodo.region ?_
      refine ARun.qv (q_move rfl) rfl ?_
      refine ARun.qv (q_assign rfl) rfl ?_
      refine ARun.nil ?_
      refine ATodo.ret ?_
      obtain rfl := Option.some.inj h
      exact ImpX.here ⟨_, .cons (.tmp _ _ rfl) .nil, _, .cons .here .nil, ⟨b9, rfl, rfl⟩⟩

set_option maxHeartbeats 4000000 in
theorem series_Pack_c {p0x0 : List Sample} {r : (List Int) × Int} (h : series_Pack p0x0 = some r) : ACall Try.prog 23 [.list 4 (p0x0.map Sample.av)] [] (T1 (fun d_0 => [(d_0, .arr 1 (r.1.map (AV.int .u8)))]) (fun d_0 => .tup [.sl 1 d_0 0 r.1.length, I r.2])) := by
  unfold series_Pack at h
  refine ACall.lessH ?_
  refine ACall.bodyN Try.func23 rfl Try.ntmps23 Try.results23 rfl rfl ?_
  refine ATodo.seq ?_
  refine ATodo.region ?_
  refine ARun.qv (q_assign rfl) rfl ?_
  refine ARun.qv (q_assign rfl) rfl ?_
  refine ARun.nil ?_
  refine ATodo.seq ?_
  refine ATodo.seq ?_
  refine ATodo.region ?_
  refine ARun.qv (q_move rfl) rfl ?_
  obtain ⟨v1, e1, h⟩ := bnd h
  refine r_callp rfl (series_CheckSeries_c e1) (CoL.refl _) rfl ?_
  refine ARun.qv (q_assign rfl) rfl ?_
  refine ARun.nil ?_
  refine ATodo.seq ?_
  refine ATodo.region ?_
  refine ARun.qv (q_move rfl) rfl ?_
  refine ARun.qv (q_neq rfl rfl) rfl ?_
  refine ARun.nil ?_
  refine ATodo.cond_d rfl (fun hc => ?_) (fun hc => ?_)
  · replace h := iteT hc h
    refine ATodo.seq ?_
    refine ATodo.region ?_
    refine ARun.qv (q_move rfl) rfl ?_
    refine ARun.qv (q_assign rfl) rfl ?_
    refine ARun.qv (q_assign rfl) rfl ?_
    refine ARun.nil ?_
    refine ATodo.ret ?_
    obtain rfl := Option.some.inj h
    refine ImpX.arr (s := 2) 1 rfl (fun b2 => ?_)
    exact ImpX.here ⟨_, .cons (.tmp _ _ rfl) (.cons (.tmp _ _ rfl) .nil), _, .cons .here .nil, ⟨b2, rfl, rfl⟩⟩
  · replace h := iteF hc h
    refine ATodo.skip ?_
    refine ATodo.seq ?_
    refine ATodo.region ?_
    refine ARun.qv (q_move rfl) rfl ?_
    obtain ⟨v3, e2, h⟩ := bnd h
    refine t_call1 rfl (series_pack_c e2) (CoL.refl _) .nil (fun _ => rfl) rfl (fun b4 => ?_)
    refine ARun.qv (q_assign rfl) rfl ?_
    refine ARun.qv (q_assign rfl) rfl ?_
    refine ARun.nil ?_
    refine ATodo.ret ?_
    obtain rfl := Option.some.inj h
    exact ImpX.here ⟨_, .cons (.tmp _ _ rfl) (.cons (.tmp _ _ rfl) .nil), _, .cons .here .nil, ⟨b4, rfl, rfl⟩⟩

set_option maxHeartbeats 4000000 in
theorem slices_Equal_byte_byte_c {p0x0 : List Int} {p1x0 : List Int} {r : Bool} (h : slices_Equal_byte_byte p0x0 p1x0 = some r) : Pu Try.prog 28 [.list 1 (p0x0.map (AV.int .u8)), .list 1 (p1x0.map (AV.int .u8))] (.bool r) := by
  unfold slices_Equal_byte_byte at h
  refine ACall.bodyN Try.func28 rfl Try.ntmps28 Try.results28 rfl rfl ?_
  refine ATodo.seq ?_
  refine ATodo.region ?_
  refine ARun.qv (q_assign rfl) rfl ?_
  refine ARun.nil ?_
  refine ATodo.seq ?_
  refine ATodo.seq ?_
  refine ATodo.region ?_
  refine ARun.qv (q_move rfl) rfl ?_
  refine ARun.qv (t_len rfl) rfl ?_
  refine ARun.qv (q_move rfl) rfl ?_
  refine ARun.qv (t_len rfl) rfl ?_
  refine ARun.qv (q_neq rfl rfl) rfl ?_
  refine ARun.nil ?_
  refine ATodo.cond_d rfl (fun hc => ?_) (fun hc => ?_)
  · replace h := iteT hc h
    refine ATodo.seq ?_
    refine ATodo.region ?_
    refine ARun.qv (q_assign rfl) rfl ?_
    refine ARun.nil ?_
    refine ATodo.ret ?_
    obtain rfl := Option.some.inj h
    exact ImpX.here ⟨_, .cons (.tmp _ _ rfl) .nil, rfl⟩
  · replace h := iteF hc h
    refine ATodo.skip ?_
    refine ATodo.seq ?_
    refine ATodo.seq ?_
    refine ATodo.region ?_
    refine ARun.qv (q_move rfl) rfl ?_
    refine ARun.qv (t_len rfl) rfl ?_
    refine ARun.qv (q_move rfl) rfl ?_
    refine ARun.nil ?_
    refine ATodo.block ?_
    refine ATodo.loopI (fun x : Int => slices_Equal_byte_byte_b1 p0x0 p1x0 x) (fun x σ' => σ' = ⟨26, [(0, .list 1 (p0x0.map (AV.int .u8))), (1, .list 1 (p1x0.map (AV.int .u8))), (12, I (p0x0.length : Int)), (13, I x)], []⟩) h ?_ ?_
    · exact ImpX.lessP (by exact ⟨rfl, rfl, rfl, rfl, True.intro⟩) (.nil) (ImpX.here rfl)
    · intro n2 z1 σ' J1 hmk h hJ1 hA1
      obtain rfl := hmk
      replace h : slices_Equal_byte_byte_b1 p0x0 p1x0 n2 = some z1 := h
      unfold slices_Equal_byte_byte_b1 at h
      refine ATodo.seq ?_
      refine ATodo.region ?_
      refine ARun.qv (q_lss rfl rfl) rfl ?_
      refine ARun.nil ?_
      refine ATodo.seq ?_
      refine ATodo.cond_d rfl (fun hc => ?_) (fun hc => ?_)
      · replace h := iteT hc h
        refine ATodo.skip ?_
        refine ATodo.seq ?_
        refine ATodo.block ?_
        refine ATodo.seq ?_
        refine ATodo.region ?_
        refine ARun.qv (q_move rfl) rfl ?_
        refine ARun.qv (q_assign rfl) rfl ?_
        refine ARun.nil ?_
        refine ATodo.seq ?_
        refine ATodo.regionM (id := 6) (A := [0, 0, 3, 7, 0, 0, 48, 112, 255]) 9 mixed rfl (by kernel_rfl) (by kernel_rfl) ?_
        refine AM.qv (q_move rfl) rfl ?_
        refine AM.qv (q_move rfl) rfl ?_
        obtain ⟨v3, e1, h⟩ := bnd h
        refine AM.qv (t_index rfl rfl rfl e1 rfl rfl) rfl ?_
        refine AM.qv (q_load_rptr rfl rfl rfl) rfl ?_
        refine AM.qv (q_move rfl) rfl ?_
        refine AM.qv (q_move rfl) rfl ?_
        obtain ⟨v4, e2, h⟩ := bnd h
        refine AM.qv (t_index rfl rfl rfl e2 rfl rfl) rfl ?_
        refine AM.qv (q_load_rptr rfl rfl rfl) rfl ?_
        refine AM.qv (q_neq rfl rfl) rfl ?_
        refine AM.nil ?_
        refine ARun.nil ?_
        refine ATodo.cond_d rfl (fun hc => ?_) (fun hc => ?_)
        · replace h := iteT hc h
          refine ATodo.seq ?_
          refine ATodo.region ?_
          refine ARun.qv (q_assign rfl) rfl ?_
          refine ARun.nil ?_
          refine ATodo.ret ?_
          replace h := outL h hA1
          obtain rfl := Option.some.inj h
          exact ImpX.here ⟨_, .cons (.tmp _ _ rfl) .nil, rfl⟩
        · replace h := iteF hc h
          refine ATodo.skip ?_
          refine ATodo.blk ?_
          refine ATodo.region ?_
          refine ARun.qv (q_addw rfl rfl) rfl ?_
          refine ARun.qv (q_move rfl) rfl ?_
          refine ARun.nil ?_
          refine ATodo.stop ?_
          obtain rfl := Option.some.inj h
          refine hJ1 _ _ rfl ?_
          exact ImpX.lessP (by exact ⟨rfl, rfl, rfl, rfl, True.intro⟩) (.nil) (ImpX.here rfl)
      · replace h := iteF hc h
        refine ATodo.exit rfl ?_
        replace h := outL h hA1
        refine ATodo.seq ?_
        refine ATodo.region ?_
        refine ARun.qv (q_assign rfl) rfl ?_
        refine ARun.nil ?_
        refine ATodo.ret ?_
        obtain rfl := Option.some.inj h
        exact ImpX.here ⟨_, .cons (.tmp _ _ rfl) .nil, rfl⟩

set_option maxHeartbeats 4000000 in
theorem L_measured_c {r : Bool} (h : L_measured = some r) : Pu Try.prog 20 [] (.bool r) := by
  unfold L_measured at h
  refine ACall.bodyN Try.func20 rfl Try.ntmps20 Try.results20 rfl rfl ?_
  refine ATodo.seq ?_
  refine ATodo.region ?_
  refine ARun.qv (q_assign rfl) rfl ?_
  refine ARun.nil ?_
  refine ATodo.seq ?_
  refine ATodo.region ?_
  refine ARun.qv (n_build rfl rfl rfl rfl rfl) rfl ?_
  refine n_buildSliceL (xs := ([(⟨([100] : Str), ([109] : Str), (1 : Int), (1 : Int)⟩ : Sample)]).map Sample.av) rfl rfl rfl rfl rfl rfl ?_
  obtain ⟨v1, e1, h⟩ := bnd h
  refine t_call1 rfl (series_Pack_c e1) (CoL.refl _) .nil (fun _ => rfl) rfl (fun b2 => ?_)
  refine ARun.qv (q_move rfl) rfl ?_
  refine ARun.qv (q_extract rfl rfl) rfl ?_
  refine ARun.qv (q_extract rfl rfl) rfl ?_
  refine ARun.qv (q_assign rfl) rfl ?_
  refine ARun.qv (q_assign rfl) rfl ?_
  refine ARun.nil ?_
  refine ATodo.seq ?_
  refine ATodo.cut (fun σ' => ∃ (c3 : Bool), L_measured_j1 c3 = some r ∧ σ' = ⟨16, [(0, .bool c3)], []⟩) ?_ ?_
  · refine ATodo.region ?_
    refine ARun.qv (q_move rfl) rfl ?_
    refine ARun.qv (q_eql rfl rfl) rfl ?_
    refine ARun.qv (q_move rfl) rfl ?_
    refine ARun.guard_dt rfl rfl rfl (fun hc => ?_) (fun hc => ?_)
    · replace h := iteT hc h
      refine ARun.qv (q_move rfl) rfl ?_
      refine ARun.guard_yes rfl rfl rfl ?_
      refine n_buildSliceL (xs := ([(1 : Int), (2 : Int), (2 : Int)]).map (AV.int .u8)) rfl rfl rfl rfl rfl rfl ?_
      refine ARun.guard_yes rfl rfl rfl ?_
      obtain ⟨v4, e2, h⟩ := bnd h
      refine r_callpB rfl (slices_Equal_byte_byte_c e2) (.cons (CoB.arrT .here) (.cons (.co (.refl _)) .nil)) rfl rfl ?_
      refine ARun.qv (q_pick_t rfl rfl) rfl ?_
      refine ARun.qv (q_assign rfl) rfl ?_
      refine ARun.nil ?_
      refine ATodo.stop ?_
      exact ImpX.lessP (by exact ⟨rfl, True.intro⟩) (.nil) (ImpX.here ⟨v4, h, rfl⟩)
    · replace h := iteF hc h
      refine ARun.guard_no rfl rfl rfl rfl ?_
      refine ARun.guard_no rfl rfl rfl rfl ?_
      refine ARun.qv (q_pick_f rfl rfl) rfl ?_
      refine ARun.qv (q_assign rfl) rfl ?_
      refine ARun.nil ?_
      refine ATodo.stop ?_
      exact ImpX.lessP (by exact ⟨rfl, True.intro⟩) (.nil) (ImpX.here ⟨false, h, rfl⟩)
  · rintro σ' ⟨c3, h, rfl⟩
    unfold L_measured_j1 at h
    refine ATodo.ret ?_
    obtain rfl := Option.some.inj h
    exact ImpX.here ⟨_, .cons (.tmp _ _ rfl) .nil, rfl⟩

set_option maxHeartbeats 4000000 in
theorem L_SeriesPaired_c {p0x0 : List Int} {r : Bool} (h : L_SeriesPaired p0x0 = some r) : Pu Try.prog 8 [.list 1 (p0x0.map I)] (.bool r) := by
  unfold L_SeriesPaired at h
  refine ACall.bodyN Try.func8 rfl Try.ntmps8 Try.results8 rfl rfl ?_
  refine ATodo.seq ?_
  refine ATodo.region ?_
  refine ARun.qv (q_assign rfl) rfl ?_
  refine ARun.nil ?_
  refine ATodo.seq ?_
  refine ATodo.region ?_
  refine ARun.qv (q_move rfl) rfl ?_
  refine ARun.qv (n_build rfl rfl rfl rfl rfl) rfl ?_
  refine n_box rfl rfl rfl rfl (fun b1 => ?_)
  refine ARun.qv (q_assign rfl) rfl ?_
  refine ARun.nil ?_
  refine ATodo.seq ?_
  refine ATodo.region ?_
  refine ARun.qv (q_move rfl) rfl ?_
  obtain ⟨v2, e1, h⟩ := bnd h
  refine t_call1 rfl (Stream_Series_c e1) (CoL.refl _) (.cons .here .nil) (fun _ => rfl) rfl (fun b3 => ?_)
  refine ARun.qv (q_move rfl) rfl ?_
  obtain ⟨v4, e2, h⟩ := bnd h
  refine t_call1 rfl (Stream_Series_c e2) (CoL.refl _) (.cons .here .nil) (fun _ => rfl) rfl (fun b5 => ?_)
  refine ARun.qv (q_move rfl) rfl ?_
  refine n_buildSliceL (xs := ([(0 : Int), (1 : Int), (5 : Int), (20 : Int), (345686400000 : Int), (-1 : Int), (345686400001 : Int)]).map I) rfl rfl rfl rfl rfl rfl ?_
  obtain ⟨v6, e3, h⟩ := bnd h
  refine t_call0 rfl (Stream_Pick_c e3) (CoL.refl _) (.cons .here .nil) rfl rfl ?_
  refine ARun.qv (q_move rfl) rfl ?_
  refine n_buildSliceL (xs := ([(3 : Int), (4 : Int), (5 : Int), (8 : Int), (5000 : Int), (2 : Int), (5001 : Int)]).map I) rfl rfl rfl rfl rfl rfl ?_
  obtain ⟨v7, e4, h⟩ := bnd h
  refine t_call0 rfl (Stream_Pick_c e4) (CoL.refl _) (.cons .here .nil) rfl rfl ?_
  refine ARun.qv (q_assign rfl) rfl ?_
  refine ARun.qv (q_assign rfl) rfl ?_
  refine ARun.qv (q_assign rfl) rfl ?_
  refine ARun.qv (q_assign rfl) rfl ?_
  refine ARun.nil ?_
  refine ATodo.seq ?_
  refine ATodo.region ?_
  refine ARun.qv (q_move rfl) rfl ?_
  refine ARun.qv (q_move rfl) rfl ?_
  refine ARun.qv (q_move rfl) rfl ?_
  obtain ⟨v8, e5, h⟩ := bnd h
  refine ARun.ghost (ImpX.freeze (.next (.next .here)) (ImpX.here ?_))
  refine ARun.ghost (ImpX.freeze (.next .here) (ImpX.here ?_))
  refine t_call1 rfl (series_Pair_c e5) (.cons (Co.froT (.next (.next .here))) (.cons (Co.froT (.next .here)) (.cons (.refl _) .nil))) .nil (fun _ => rfl) rfl (fun b9 => ?_)
  refine ARun.qv (q_move rfl) rfl ?_
  refine ARun.qv (q_extract rfl rfl) rfl ?_
  refine ARun.qv (q_extract rfl rfl) rfl ?_
  refine ARun.qv (q_assign rfl) rfl ?_
  refine ARun.qv (q_assign rfl) rfl ?_
  refine ARun.nil ?_
  refine ATodo.seq ?_
  refine ATodo.region ?_
  refine ARun.qv (q_move rfl) rfl ?_
  refine ARun.qv (q_move rfl) rfl ?_
  obtain ⟨v10, e6, h⟩ := bnd h
  refine t_call1 rfl (series_Thin_c e6) (.cons (Co.froT (.next (.next (.next .here)))) (.cons (.refl _) .nil)) .nil (fun _ => rfl) rfl (fun b11 => ?_)
  refine ARun.qv (q_move rfl) rfl ?_
  refine ARun.qv (q_extract rfl rfl) rfl ?_
  refine ARun.qv (q_extract rfl rfl) rfl ?_
  refine ARun.qv (q_assign rfl) rfl ?_
  refine ARun.qv (q_assign rfl) rfl ?_
  refine ARun.nil ?_
  refine ATodo.seq ?_
  refine ATodo.cut (fun σ' => ∃ (n12 : Int), L_SeriesPaired_j1 v2 v4 v6 v7 v8 v10 n12 = some r ∧ σ' = ⟨101, [(4, .sl 4 b3 0 v2.1.length), (5, .sl 4 b5 0 v4.1.length), (6, I v6.1), (7, I v7.1), (8, .sl 8 b9 0 v8.1.length), (9, I v8.2), (10, .sl 4 b11 0 v10.1.length), (11, I v10.2), (12, I n12)], [(b3, .fro 4 (v2.1.map Sample.av)), (b5, .fro 4 (v4.1.map Sample.av)), (b9, .arr 8 (v8.1.map Pairing.av)), (b11, .arr 4 (v10.1.map Sample.av))]⟩) ?_ ?_
  · refine ATodo.region ?_
    refine ARun.qv (q_move rfl) rfl ?_
    obtain ⟨v13, e7, h⟩ := bnd h
    refine r_callp rfl (Q_SeriesFault_c e7) (.cons (Co.froT (.next (.next (.next (.next .here))))) .nil) rfl ?_
    refine ARun.qv (q_move rfl) rfl ?_
    obtain ⟨v14, e8, h⟩ := bnd h
    refine r_callp rfl (Q_SeriesFault_c e8) (.cons (Co.froT (.next (.next (.next .here)))) .nil) rfl ?_
    refine ARun.qv (q_move rfl) rfl ?_
    refine ARun.qv (q_lss rfl rfl) rfl ?_
    refine ARun.qv (q_move rfl) rfl ?_
    refine ARun.guard_df rfl rfl rfl (fun hc => ?_) (fun hc => ?_)
    · replace h := iteF hc h
      refine ARun.qv (q_move rfl) rfl ?_
      refine ARun.guard_yes rfl rfl rfl ?_
      refine ARun.qv (q_gtr rfl rfl) rfl ?_
      refine ARun.qv (q_pick_f rfl rfl) rfl ?_
      refine r_callp rfl (L_when_c rfl) (CoL.refl _) rfl ?_
      refine n_buildSliceL (xs := ([v13, v14, (L_when (decide ((345686400000 : Int) < v6.1)) (1 : Int))]).map I) rfl rfl rfl rfl rfl rfl ?_
      obtain ⟨v15, e9, h⟩ := bnd h
      refine r_callp rfl (L_errs_c e9) (CoL.refl _) rfl ?_
      refine ARun.qv (q_assign rfl) rfl ?_
      refine ARun.nil ?_
      refine ATodo.stop ?_
      exact ImpX.lessP (by exact ⟨rfl, rfl, rfl, rfl, rfl, rfl, rfl, rfl, rfl, True.intro⟩) (.cons (.next (.next (.next (.next .here)))) (.cons (.next (.next (.next .here))) (.cons (.next .here) (.cons .here .nil)))) (ImpX.here ⟨v15, h, rfl⟩)
    · replace h := iteT hc h
      refine ARun.guard_no rfl rfl rfl rfl ?_
      refine ARun.qv (q_pick_t rfl rfl) rfl ?_
      refine r_callp rfl (L_when_c rfl) (CoL.refl _) rfl ?_
      refine n_buildSliceL (xs := ([v13, v14, (L_when true (1 : Int))]).map I) rfl rfl rfl rfl rfl rfl ?_
      obtain ⟨v16, e10, h⟩ := bnd h
      refine r_callp rfl (L_errs_c e10) (CoL.refl _) rfl ?_
      refine ARun.qv (q_assign rfl) rfl ?_
      refine ARun.nil ?_
      refine ATodo.stop ?_
      exact ImpX.lessP (by exact ⟨rfl, rfl, rfl, rfl, rfl, rfl, rfl, rfl, rfl, True.intro⟩) (.cons (.next (.next (.next (.next .here)))) (.cons (.next (.next (.next .here))) (.cons (.next .here) (.cons .here .nil)))) (ImpX.here ⟨v16, h, rfl⟩)
  · rintro σ' ⟨n12, h, rfl⟩
    unfold L_SeriesPaired_j1 at h
    refine ATodo.seq ?_
    refine ATodo.cut (fun σ' => ∃ (n17 : Int), L_SeriesPaired_j2 v2 v4 v6 v7 v8 v10 n12 n17 = some r ∧ σ' = ⟨101, [(4, .sl 4 b3 0 v2.1.length), (5, .sl 4 b5 0 v4.1.length), (6, I v6.1), (7, I v7.1), (8, .sl 8 b9 0 v8.1.length), (9, I v8.2), (10, .sl 4 b11 0 v10.1.length), (11, I v10.2), (12, I n12), (13, I n17)], [(b3, .fro 4 (v2.1.map Sample.av)), (b5, .fro 4 (v4.1.map Sample.av)), (b9, .arr 8 (v8.1.map Pairing.av)), (b11, .arr 4 (v10.1.map Sample.av))]⟩) ?_ ?_
    · refine ATodo.region ?_
      refine ARun.qv (q_move rfl) rfl ?_
      obtain ⟨v18, e11, h⟩ := bnd h
      refine r_callp rfl (Q_SeriesFault_c e11) (.cons (Co.froT .here) .nil) rfl ?_
      refine ARun.qv (q_move rfl) rfl ?_
      refine ARun.qv (q_lss rfl rfl) rfl ?_
      refine ARun.qv (q_move rfl) rfl ?_
      refine ARun.guard_df rfl rfl rfl (fun hc => ?_) (fun hc => ?_)
      · replace h := iteF hc h
        refine ARun.qv (q_move rfl) rfl ?_
        refine ARun.guard_yes rfl rfl rfl ?_
        refine ARun.qv (q_gtr rfl rfl) rfl ?_
        refine ARun.qv (q_pick_f rfl rfl) rfl ?_
        refine r_callp rfl (L_when_c rfl) (CoL.refl _) rfl ?_
        refine n_buildSliceL (xs := ([v18, (L_when (decide ((5000 : Int) < v7.1)) (1 : Int))]).map I) rfl rfl rfl rfl rfl rfl ?_
        obtain ⟨v19, e12, h⟩ := bnd h
        refine r_callp rfl (L_errs_c e12) (CoL.refl _) rfl ?_
        refine ARun.qv (q_assign rfl) rfl ?_
        refine ARun.nil ?_
        refine ATodo.stop ?_
        exact ImpX.lessP (by exact ⟨rfl, rfl, rfl, rfl, rfl, rfl, rfl, rfl, rfl, rfl, True.intro⟩) (.cons .here (.cons .here (.cons .here (.cons .here .nil)))) (ImpX.here ⟨v19, h, rfl⟩)
      · replace h := iteT hc h
        refine ARun.guard_no rfl rfl rfl rfl ?_
        refine ARun.qv (q_pick_t rfl rfl) rfl ?_
        refine r_callp rfl (L_when_c rfl) (CoL.refl _) rfl ?_
        refine n_buildSliceL (xs := ([v18, (L_when true (1 : Int))]).map I) rfl rfl rfl rfl rfl rfl ?_
        obtain ⟨v20, e13, h⟩ := bnd h
        refine r_callp rfl (L_errs_c e13) (CoL.refl _) rfl ?_
        refine ARun.qv (q_assign rfl) rfl ?_
        refine ARun.nil ?_
        refine ATodo.stop ?_
        exact ImpX.lessP (by exact ⟨rfl, rfl, rfl, rfl, rfl, rfl, rfl, rfl, rfl, rfl, True.intro⟩) (.cons .here (.cons .here (.cons .here (.cons .here .nil)))) (ImpX.here ⟨v20, h, rfl⟩)
    · rintro σ' ⟨n17, h, rfl⟩
      unfold L_SeriesPaired_j2 at h
      refine ATodo.seq ?_
      refine ATodo.region ?_
      refine ARun.qv (q_assign rfl) rfl ?_
      refine ARun.nil ?_
      refine ATodo.seq ?_
      refine ATodo.seq ?_
      refine ATodo.region ?_
      refine ARun.qv (q_move rfl) rfl ?_
      refine ARun.qv (q_eql rfl rfl) rfl ?_
      refine ARun.nil ?_
      refine ATodo.cut (fun σ' => ∃ (b21 : Bk) (l22 : List Pairing), L_SeriesPaired_j3 v2 v7 v8 v10 n12 n17 l22 = some r ∧ σ' = ⟨101, [(4, .sl 4 b3 0 v2.1.length), (7, I v7.1), (8, .sl 8 b9 0 v8.1.length), (9, I v8.2), (10, .sl 4 b11 0 v10.1.length), (11, I v10.2), (12, I n12), (13, I n17), (14, .sl 8 b21 0 l22.length)], [(b3, .fro 4 (v2.1.map Sample.av)), (b9, .arr 8 (v8.1.map Pairing.av)), (b11, .arr 4 (v10.1.map Sample.av)), (b21, .arr 8 (l22.map Pairing.av))]⟩) ?_ ?_
      · refine ATodo.cond_d rfl (fun hc => ?_) (fun hc => ?_)
        · replace h := iteT hc h
          refine ATodo.region ?_
          refine ARun.qv (q_move rfl) rfl ?_
          refine ARun.qv (q_move rfl) rfl ?_
          refine ARun.qv (q_move rfl) rfl ?_
          obtain ⟨v23, e14, h⟩ := bnd h
          refine t_call1 rfl (Q_PairsOf_c e14) (.cons (Co.froT .here) (.cons (Co.froT (.next .here)) (.cons (.refl _) .nil))) .nil (fun _ => rfl) rfl (fun b24 => ?_)
          refine ARun.qv (q_assign rfl) rfl ?_
          refine ARun.nil ?_
          refine ATodo.stop ?_
          exact ImpX.lessP (by exact ⟨rfl, rfl, rfl, rfl, rfl, rfl, rfl, rfl, rfl, True.intro⟩) (.cons (.next .here) (.cons (.next (.next .here)) (.cons (.next (.next .here)) (.cons .here .nil)))) (ImpX.here ⟨b24, v23, h, rfl⟩)
        · replace h := iteF hc h
          refine ATodo.skip ?_
          refine ATodo.stop ?_
          refine ImpX.arr (s := 14) 8 rfl (fun b25 => ?_)
          exact ImpX.lessP (by exact ⟨rfl, rfl, rfl, rfl, rfl, rfl, rfl, rfl, rfl, True.intro⟩) (.cons (.next .here) (.cons (.next (.next .here)) (.cons (.next (.next .here)) (.cons .here .nil)))) (ImpX.here ⟨b25, [], h, rfl⟩)
      · rintro σ' ⟨b21, l22, h, rfl⟩
        unfold L_SeriesPaired_j3 at h
        refine ATodo.seq ?_
        refine ATodo.region ?_
        refine ARun.qv (q_assign rfl) rfl ?_
        refine ARun.nil ?_
        refine ATodo.seq ?_
        refine ATodo.seq ?_
        refine ATodo.region ?_
        refine ARun.qv (q_move rfl) rfl ?_
        refine ARun.qv (q_eql rfl rfl) rfl ?_
        refine ARun.nil ?_
        refine ATodo.cut (fun σ' => ∃ (b27 : Bk) (n26 : Int) (l28 : List Sample), L_SeriesPaired_j4 v8 v10 n12 l22 n26 l28 = some r ∧ σ' = ⟨101, [(8, .sl 8 b9 0 v8.1.length), (9, I v8.2), (10, .sl 4 b11 0 v10.1.length), (11, I v10.2), (12, I n12), (13, I n26), (14, .sl 8 b21 0 l22.length), (15, .sl 4 b27 0 l28.length)], [(b9, .arr 8 (v8.1.map Pairing.av)), (b11, .arr 4 (v10.1.map Sample.av)), (b21, .arr 8 (l22.map Pairing.av)), (b27, .arr 4 (l28.map Sample.av))]⟩) ?_ ?_
        · refine ATodo.cond_d rfl (fun hc => ?_) (fun hc => ?_)
          · replace h := iteT hc h
            refine ATodo.region ?_
            refine ARun.qv (q_move rfl) rfl ?_
            refine ARun.qv (q_move rfl) rfl ?_
            obtain ⟨v29, e15, h⟩ := bnd h
            refine t_call1 rfl (Q_ThinOf_c e15) (.cons (Co.froT .here) (.cons (.refl _) .nil)) .nil (fun _ => rfl) rfl (fun b30 => ?_)
            refine ARun.qv (q_move rfl) rfl ?_
            refine ARun.qv (q_extract rfl rfl) rfl ?_
            refine ARun.qv (q_extract rfl rfl) rfl ?_
            refine ARun.qv (q_assign rfl) rfl ?_
            refine ARun.qv (q_assign rfl) rfl ?_
            refine ARun.nil ?_
            refine ATodo.stop ?_
            exact ImpX.lessP (by exact ⟨rfl, rfl, rfl, rfl, rfl, rfl, rfl, rfl, True.intro⟩) (.cons (.next (.next .here)) (.cons (.next (.next .here)) (.cons (.next (.next .here)) (.cons .here .nil)))) (ImpX.here ⟨b30, v29.2, v29.1, h, rfl⟩)
          · replace h := iteF hc h
            refine ATodo.skip ?_
            refine ATodo.stop ?_
            refine ImpX.arr (s := 15) 4 rfl (fun b31 => ?_)
            exact ImpX.lessP (by exact ⟨rfl, rfl, rfl, rfl, rfl, rfl, rfl, rfl, True.intro⟩) (.cons (.next (.next .here)) (.cons (.next (.next .here)) (.cons (.next (.next .here)) (.cons .here .nil)))) (ImpX.here ⟨b31, n17, [], h, rfl⟩)
        · rintro σ' ⟨b27, n26, l28, h, rfl⟩
          unfold L_SeriesPaired_j4 at h
          refine ATodo.seq ?_
          refine ATodo.cut (fun σ' => ∃ (c32 : Bool), L_SeriesPaired_j5 c32 = some r ∧ σ' = ⟨101, [(2, .bool c32)], []⟩) ?_ ?_
          · refine ATodo.region ?_
            refine ARun.qv (q_move rfl) rfl ?_
            refine ARun.qv (q_move rfl) rfl ?_
            refine ARun.qv (q_eql rfl rfl) rfl ?_
            refine ARun.qv (q_move rfl) rfl ?_
            refine ARun.guard_dt rfl rfl rfl (fun hc => ?_) (fun hc => ?_)
            · replace h := iteT hc h
              refine ARun.qv (q_move rfl) rfl ?_
              refine ARun.guard_yes rfl rfl rfl ?_
              refine ARun.qv (q_move rfl) rfl ?_
              refine ARun.guard_yes rfl rfl rfl ?_
              obtain ⟨v33, e16, h⟩ := bnd h
              refine r_callpB rfl (slices_Equal_Pairing_Pairing_c e16) (.cons (CoB.arrT .here) (.cons (CoB.arrT (.next (.next .here))) .nil)) rfl rfl ?_
              refine ARun.qv (q_pick_t rfl rfl) rfl ?_
              refine ARun.qv (q_move rfl) rfl ?_
              refine ARun.guard rfl rfl rfl (fun hc => ?_) (fun hc => ?_)
              · replace h := iteT hc h
                refine ARun.qv (q_move rfl) rfl ?_
                refine ARun.guard_yes rfl rfl rfl ?_
                refine ARun.qv (q_move rfl) rfl ?_
                refine ARun.guard_yes rfl rfl rfl ?_
                refine ARun.qv (q_eql rfl rfl) rfl ?_
                refine ARun.qv (q_pick_t rfl rfl) rfl ?_
                refine ARun.qv (q_move rfl) rfl ?_
                refine ARun.guard_dt rfl rfl rfl (fun hc => ?_) (fun hc => ?_)
                · replace h := iteT hc h
                  refine ARun.qv (q_move rfl) rfl ?_
                  refine ARun.guard_yes rfl rfl rfl ?_
                  refine ARun.qv (q_move rfl) rfl ?_
                  refine ARun.guard_yes rfl rfl rfl ?_
                  obtain ⟨v34, e17, h⟩ := bnd h
                  refine r_callpB rfl (slices_Equal_Sample_Sample_c e17) (.cons (CoB.arrT (.next .here)) (.cons (CoB.arrT (.next (.next (.next .here)))) .nil)) rfl rfl ?_
                  refine ARun.qv (q_pick_t rfl rfl) rfl ?_
                  refine ARun.qv (q_move rfl) rfl ?_
                  refine ARun.guard rfl rfl rfl (fun hc => ?_) (fun hc => ?_)
                  · replace h := iteT hc h
                    obtain ⟨v35, e18, h⟩ := bnd h
                    refine r_callp rfl (L_measured_c e18) (CoL.refl _) rfl ?_
                    refine ARun.qv (q_pick_t rfl rfl) rfl ?_
                    refine ARun.qv (q_assign rfl) rfl ?_
                    refine ARun.nil ?_
                    refine ATodo.stop ?_
                    exact ImpX.lessP (by exact ⟨rfl, True.intro⟩) (.nil) (ImpX.here ⟨v35, h, rfl⟩)
                  · replace h := iteFb hc h
                    refine ARun.qv (q_pick_f rfl rfl) rfl ?_
                    refine ARun.qv (q_assign rfl) rfl ?_
                    refine ARun.nil ?_
                    refine ATodo.stop ?_
                    exact ImpX.lessP (by exact ⟨rfl, True.intro⟩) (.nil) (ImpX.here ⟨false, h, rfl⟩)
                · replace h := iteF hc h
                  refine ARun.guard_no rfl rfl rfl rfl ?_
                  refine ARun.guard_no rfl rfl rfl rfl ?_
                  refine ARun.qv (q_pick_f rfl rfl) rfl ?_
                  refine ARun.qv (q_move rfl) rfl ?_
                  refine ARun.guard_no rfl rfl rfl rfl ?_
                  refine ARun.qv (q_pick_f rfl rfl) rfl ?_
                  refine ARun.qv (q_assign rfl) rfl ?_
                  refine ARun.nil ?_
                  refine ATodo.stop ?_
                  exact ImpX.lessP (by exact ⟨rfl, True.intro⟩) (.nil) (ImpX.here ⟨false, h, rfl⟩)
              · replace h := iteFb hc h
                refine ARun.guard_no rfl rfl rfl rfl ?_
                refine ARun.guard_no rfl rfl rfl rfl ?_
                refine ARun.qv (q_pick_f rfl rfl) rfl ?_
                refine ARun.qv (q_move rfl) rfl ?_
                refine ARun.guard_no rfl rfl rfl rfl ?_
                refine ARun.guard_no rfl rfl rfl rfl ?_
                refine ARun.guard_no rfl rfl rfl rfl ?_
                refine ARun.qv (q_pick_f rfl rfl) rfl ?_
                refine ARun.qv (q_move rfl) rfl ?_
                refine ARun.guard_no rfl rfl rfl rfl ?_
                refine ARun.qv (q_pick_f rfl rfl) rfl ?_
                refine ARun.qv (q_assign rfl) rfl ?_
                refine ARun.nil ?_
                refine ATodo.stop ?_
                exact ImpX.lessP (by exact ⟨rfl, True.intro⟩) (.nil) (ImpX.here ⟨false, h, rfl⟩)
            · replace h := iteF hc h
              refine ARun.guard_no rfl rfl rfl rfl ?_
              refine ARun.guard_no rfl rfl rfl rfl ?_
              refine ARun.qv (q_pick_f rfl rfl) rfl ?_
              refine ARun.qv (q_move rfl) rfl ?_
              refine ARun.guard_no rfl rfl rfl rfl ?_
              refine ARun.guard_no rfl rfl rfl rfl ?_
              refine ARun.guard_no rfl rfl rfl rfl ?_
              refine ARun.qv (q_pick_f rfl rfl) rfl ?_
              refine ARun.qv (q_move rfl) rfl ?_
              refine ARun.guard_no rfl rfl rfl rfl ?_
              refine ARun.guard_no rfl rfl rfl rfl ?_
              refine ARun.guard_no rfl rfl rfl rfl ?_
              refine ARun.qv (q_pick_f rfl rfl) rfl ?_
              refine ARun.qv (q_move rfl) rfl ?_
              refine ARun.guard_no rfl rfl rfl rfl ?_
              refine ARun.qv (q_pick_f rfl rfl) rfl ?_
              refine ARun.qv (q_assign rfl) rfl ?_
              refine ARun.nil ?_
              refine ATodo.stop ?_
              exact ImpX.lessP (by exact ⟨rfl, True.intro⟩) (.nil) (ImpX.here ⟨false, h, rfl⟩)
          · rintro σ' ⟨c32, h, rfl⟩
            unfold L_SeriesPaired_j5 at h
            refine ATodo.ret ?_
            obtain rfl := Option.some.inj h
            exact ImpX.here ⟨_, .cons (.tmp _ _ rfl) .nil, rfl⟩

end Go.Proofs.Ytbcbhhbbejcnnaa
