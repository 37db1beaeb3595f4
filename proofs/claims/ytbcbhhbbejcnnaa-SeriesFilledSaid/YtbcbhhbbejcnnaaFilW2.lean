/- The code computes the plain functions: proofs written by shal.py. -/
import Derived.Test.YtbcbhhbbejcnnaaFilW1
set_option maxRecDepth 100000
set_option linter.unusedVariables false
set_option linter.unusedSimpArgs false
namespace Go.Proofs.Ytbcbhhbbejcnnaa
open Go Go.Eng Go.Proofs Go.Beacon
attribute [local irreducible] ARun ATodo AQ QV ACall ImpX AWp AM
set_option maxHeartbeats 4000000 in
theorem slices_Equal_Sample_Sample_c {p0x0 : List Sample} {p1x0 : List Sample} {r : Bool} (h : slices_Equal_Sample_Sample p0x0 p1x0 = some r) : Pu Try.prog 19 [.list 4 (p0x0.map Sample.av), .list 4 (p1x0.map Sample.av)] (.bool r) := by
  unfold slices_Equal_Sample_Sample at h
  refine ACall.bodyN Try.func19 rfl Try.ntmps19 Try.results19 rfl rfl ?_
  refine ATodo.seq ?_
  refine ATodo.region ?_
  refine ARun.qv (q_assign rfl) rfl ?_
  refine ARun.nil ?_
  refine ATodo.seq ?_
  refine ATodo.seq ?_
  refine ATodo.region ?_
  refine ARun.qv (q_move rfl) rfl ?_
  refine ARun.qv (t_len rfl) rfl ?_
  refine ARun.qv (q_move rfl) rfl ?_
  refine ARun.qv (t_len rfl) rfl ?_
  refine ARun.qv (q_neq rfl rfl) rfl ?_
  refine ARun.nil ?_
  refine ATodo.cond_d rfl (fun hc => ?_) (fun hc => ?_)
  · replace h := iteT hc h
    refine ATodo.seq ?_
    refine ATodo.region ?_
    refine ARun.qv (q_assign rfl) rfl ?_
    refine ARun.nil ?_
    refine ATodo.ret ?_
    obtain rfl := Option.some.inj h
    exact ImpX.here ⟨_, .cons (.tmp _ _ rfl) .nil, rfl⟩
  · replace h := iteF hc h
    refine ATodo.skip ?_
    refine ATodo.seq ?_
    refine ATodo.seq ?_
    refine ATodo.region ?_
    refine ARun.qv (q_move rfl) rfl ?_
    refine ARun.qv (t_len rfl) rfl ?_
    refine ARun.qv (q_move rfl) rfl ?_
    refine ARun.nil ?_
    refine ATodo.block ?_
    refine ATodo.loopI (fun x : Int => slices_Equal_Sample_Sample_b1 p0x0 p1x0 x) (fun x σ' => σ' = ⟨26, [(0, .list 4 (p0x0.map Sample.av)), (1, .list 4 (p1x0.map Sample.av)), (12, I (p0x0.length : Int)), (13, I x)], []⟩) h ?_ ?_
    · exact ImpX.lessP (by exact ⟨rfl, rfl, rfl, rfl, True.intro⟩) (.nil) (ImpX.here rfl)
    · intro n2 z1 σ' J1 hmk h hJ1 hA1
      obtain rfl := hmk
      replace h : slices_Equal_Sample_Sample_b1 p0x0 p1x0 n2 = some z1 := h
      unfold slices_Equal_Sample_Sample_b1 at h
      refine ATodo.seq ?_
      refine ATodo.region ?_
      refine ARun.qv (q_lss rfl rfl) rfl ?_
      refine ARun.nil ?_
      refine ATodo.seq ?_
      refine ATodo.cond_d rfl (fun hc => ?_) (fun hc => ?_)
      · replace h := iteT hc h
        refine ATodo.skip ?_
        refine ATodo.seq ?_
        refine ATodo.block ?_
        refine ATodo.seq ?_
        refine ATodo.region ?_
        refine ARun.qv (q_move rfl) rfl ?_
        refine ARun.qv (q_assign rfl) rfl ?_
        refine ARun.nil ?_
        refine ATodo.seq ?_
        refine ATodo.regionM (id := 6) (A := [0, 0, 3, 7, 0, 0, 48, 112, 255]) 9 mixed rfl (by kernel_rfl) (by kernel_rfl) ?_
        refine AM.qv (q_move rfl) rfl ?_
        refine AM.qv (q_move rfl) rfl ?_
        obtain ⟨v3, e1, h⟩ := bnd h
        refine AM.qv (t_index rfl rfl rfl e1 rfl rfl) rfl ?_
        refine AM.qv (q_load_rptr_agg rfl rfl rfl) rfl ?_
        refine AM.qv (q_move rfl) rfl ?_
        refine AM.qv (q_move rfl) rfl ?_
        obtain ⟨v4, e2, h⟩ := bnd h
        refine AM.qv (t_index rfl rfl rfl e2 rfl rfl) rfl ?_
        refine AM.qv (q_load_rptr_agg rfl rfl rfl) rfl ?_
        refine AM.qv (t_tne (g := Sample.av) (X := v3) (Y := v4) rfl rfl rfl rfl rfl) rfl ?_
        refine AM.nil ?_
        refine ARun.nil ?_
        refine ATodo.cond_d rfl (fun hc => ?_) (fun hc => ?_)
        · replace h := iteT hc h
          refine ATodo.seq ?_
          refine ATodo.region ?_
          refine ARun.qv (q_assign rfl) rfl ?_
          refine ARun.nil ?_
          refine ATodo.ret ?_
          replace h := outL h hA1
          obtain rfl := Option.some.inj h
          exact ImpX.here ⟨_, .cons (.tmp _ _ rfl) .nil, rfl⟩
        · replace h := iteF hc h
          refine ATodo.skip ?_
          refine ATodo.blk ?_
          refine ATodo.region ?_
          refine ARun.qv (q_addw rfl rfl) rfl ?_
          refine ARun.qv (q_move rfl) rfl ?_
          refine ARun.nil ?_
          refine ATodo.stop ?_
          obtain rfl := Option.some.inj h
          refine hJ1 _ _ rfl ?_
          exact ImpX.lessP (by exact ⟨rfl, rfl, rfl, rfl, True.intro⟩) (.nil) (ImpX.here rfl)
      · replace h := iteF hc h
        refine ATodo.exit rfl ?_
        replace h := outL h hA1
        refine ATodo.seq ?_
        refine ATodo.region ?_
        refine ARun.qv (q_assign rfl) rfl ?_
        refine ARun.nil ?_
        refine ATodo.ret ?_
        obtain rfl := Option.some.inj h
        exact ImpX.here ⟨_, .cons (.tmp _ _ rfl) .nil, rfl⟩

set_option maxHeartbeats 4000000 in
theorem series_seven_n0x_c {p1x0 : Int} {r : (List Int)} (h : series_seven_n0x p1x0 = some r) : ACall Try.prog 132 [.nil, .int .u64 p1x0] [] (T1 (fun d_0 => [(d_0, .arr 1 (r.map (AV.int .u8)))]) (fun d_0 => .sl 1 d_0 0 r.length)) := by
  unfold series_seven_n0x at h
  refine ACall.lessH ?_
  refine ACall.bodyN Try.func132 rfl Try.ntmps132 Try.results132 rfl rfl ?_
  refine ATodo.seq ?_
  refine ATodo.region ?_
  refine ARun.qv (q_assign rfl) rfl ?_
  refine ARun.nil ?_
  refine ATodo.seq ?_
  refine ATodo.block ?_
  refine ATodo.loopI (fun x : (List Int) × Int => series_seven_n0x_b1 x.1 x.2) (fun x σ' => ∃ (b4 : Bk), σ' = ⟨21, [(0, .sl 1 b4 0 x.1.length), (1, .int .u64 x.2)], [(b4, .arr 1 (x.1.map (AV.int .u8)))]⟩) h ?_ ?_
  · refine ImpX.arr (s := 0) 1 rfl (fun b7 => ?_)
    exact ImpX.lessP (by exact ⟨rfl, rfl, True.intro⟩) (.cons .here .nil) (ImpX.here ⟨b7, rfl⟩)
  · intro x z1 σ' J1 hmk h hJ1 hA1
    obtain ⟨l5, n6⟩ := x
    obtain ⟨b4, rfl⟩ := hmk
    replace h : series_seven_n0x_b1 l5 n6 = some z1 := h
    unfold series_seven_n0x_b1 at h
    refine ATodo.seq ?_
    refine ATodo.seq ?_
    refine ATodo.region ?_
    refine ARun.qv (q_move rfl) rfl ?_
    refine ARun.qv (q_geq rfl rfl) rfl ?_
    refine ARun.nil ?_
    refine ATodo.cond_d rfl (fun hc => ?_) (fun hc => ?_)
    · replace h := iteT hc h
      refine ATodo.skip ?_
      refine ATodo.block ?_
      refine ATodo.region ?_
      refine ARun.qv (q_move rfl) rfl ?_
      refine ARun.qv (q_move rfl) rfl ?_
      refine ARun.qv (t_and rfl rfl) rfl ?_
      refine ARun.qv (q_conv_int rfl) rfl ?_
      refine ARun.qv (t_or rfl rfl) rfl ?_
      refine n_buildSliceL rfl rfl rfl rfl rfl rfl ?_
      obtain ⟨l8, e1, h⟩ := bnd h
      refine t_append (g := (AV.int .u8)) rfl rfl rfl rfl rfl rfl rfl rfl (.list _) e1 (fun _ => .here) rfl (fun b9 => ?_)
      refine ARun.qv (q_move rfl) rfl ?_
      refine ARun.qv (t_shr rfl rfl (by decide)) rfl ?_
      refine ARun.qv (q_assign rfl) rfl ?_
      refine ARun.qv (q_assign rfl) rfl ?_
      refine ARun.nil ?_
      refine ATodo.blk ?_
      refine ATodo.stop ?_
      obtain rfl := Option.some.inj h
      refine hJ1 _ _ rfl ?_
      exact ImpX.lessP (by exact ⟨rfl, rfl, True.intro⟩) (.cons .here .nil) (ImpX.here ⟨b9, rfl⟩)
    · replace h := iteF hc h
      refine ATodo.exit rfl ?_
      replace h := outL h hA1
      unfold series_seven_n0x_k1 at h
      refine ATodo.seq ?_
      refine ATodo.region ?_
      refine ARun.qv (q_move rfl) rfl ?_
      refine ARun.qv (q_move rfl) rfl ?_
      refine ARun.qv (q_conv_int rfl) rfl ?_
      refine n_buildSliceL rfl rfl rfl rfl rfl rfl ?_
      obtain ⟨l10, e2, h⟩ := bnd h
      refine t_append (g := (AV.int .u8)) rfl rfl rfl rfl rfl rfl rfl rfl (.list _) e2 (fun _ => .here) rfl (fun b11 => ?_)
      refine ARun.qv (q_assign rfl) rfl ?_
      refine ARun.nil ?_
      refine ATodo.ret ?_
      obtain rfl := Option.some.inj h
      exact ImpX.here ⟨_, .cons (.tmp _ _ rfl) .nil, _, .cons .here .nil, ⟨b11, rfl, rfl⟩⟩

set_option maxHeartbeats 4000000 in
theorem series_doubled_c {p0x0 : Int} {r : Int} (h : series_doubled p0x0 = r) : Pu Try.prog 133 [I p0x0] (.int .u64 r) := by
  unfold series_doubled at h
  refine ACall.bodyN Try.func133 rfl Try.ntmps133 Try.results133 rfl rfl ?_
  refine ATodo.seq ?_
  refine ATodo.region ?_
  refine ARun.qv (q_assign rfl) rfl ?_
  refine ARun.nil ?_
  refine ATodo.seq ?_
  refine ATodo.seq ?_
  refine ATodo.region ?_
  refine ARun.qv (q_move rfl) rfl ?_
  refine ARun.qv (q_lss rfl rfl) rfl ?_
  refine ARun.nil ?_
  refine ATodo.cond_d rfl (fun hc => ?_) (fun hc => ?_)
  · replace h := iteT hc h
    refine ATodo.seq ?_
    refine ATodo.region ?_
    refine ARun.qv (q_move rfl) rfl ?_
    refine ARun.qv (q_mulw rfl rfl) rfl ?_
    refine ARun.qv (q_subw rfl rfl) rfl ?_
    refine ARun.qv (q_conv_int rfl) rfl ?_
    refine ARun.qv (q_assign rfl) rfl ?_
    refine ARun.nil ?_
    refine ATodo.ret ?_
    obtain rfl := h
    exact ImpX.here ⟨_, .cons (.tmp _ _ rfl) .nil, rfl⟩
  · replace h := iteF hc h
    refine ATodo.skip ?_
    refine ATodo.seq ?_
    refine ATodo.region ?_
    refine ARun.qv (q_move rfl) rfl ?_
    refine ARun.qv (q_mulw rfl rfl) rfl ?_
    refine ARun.qv (q_conv_int rfl) rfl ?_
    refine ARun.qv (q_assign rfl) rfl ?_
    refine ARun.nil ?_
    refine ATodo.ret ?_
    obtain rfl := h
    exact ImpX.here ⟨_, .cons (.tmp _ _ rfl) .nil, rfl⟩

set_option maxHeartbeats 4000000 in
theorem series_seven_o0x_c {b_0 : Bk} {p0x0 : List Int} {p1x0 : Int} {r : (List Int)} (h : series_seven_o0x p0x0 p1x0 = some r) : ACall Try.prog 132 [.sl 1 b_0 0 p0x0.length, .int .u64 p1x0] [(b_0, .arr 1 (p0x0.map (AV.int .u8)))] (T1 (fun d_0 => [(d_0, .arr 1 (r.map (AV.int .u8)))]) (fun d_0 => .sl 1 d_0 0 r.length)) := by
  unfold series_seven_o0x at h
  refine ACall.lessH ?_
  refine ACall.bodyN Try.func132 rfl Try.ntmps132 Try.results132 rfl rfl ?_
  refine ATodo.seq ?_
  refine ATodo.region ?_
  refine ARun.qv (q_assign rfl) rfl ?_
  refine ARun.nil ?_
  refine ATodo.seq ?_
  refine ATodo.block ?_
  refine ATodo.loopI (fun x : (List Int) × Int => series_seven_o0x_b1 x.1 x.2) (fun x σ' => ∃ (b4 : Bk), σ' = ⟨21, [(0, .sl 1 b4 0 x.1.length), (1, .int .u64 x.2)], [(b4, .arr 1 (x.1.map (AV.int .u8)))]⟩) h ?_ ?_
  · exact ImpX.lessP (by exact ⟨rfl, rfl, True.intro⟩) (.cons .here .nil) (ImpX.here ⟨b_0, rfl⟩)
  · intro x z1 σ' J1 hmk h hJ1 hA1
    obtain ⟨l5, n6⟩ := x
    obtain ⟨b4, rfl⟩ := hmk
    replace h : series_seven_o0x_b1 l5 n6 = some z1 := h
    unfold series_seven_o0x_b1 at h
    refine ATodo.seq ?_
    refine ATodo.seq ?_
    refine ATodo.region ?_
    refine ARun.qv (q_move rfl) rfl ?_
    refine ARun.qv (q_geq rfl rfl) rfl ?_
    refine ARun.nil ?_
    refine ATodo.cond_d rfl (fun hc => ?_) (fun hc => ?_)
    · replace h := iteT hc h
      refine ATodo.skip ?_
      refine ATodo.block ?_
      refine ATodo.region ?_
      refine ARun.qv (q_move rfl) rfl ?_
      refine ARun.qv (q_move rfl) rfl ?_
      refine ARun.qv (t_and rfl rfl) rfl ?_
      refine ARun.qv (q_conv_int rfl) rfl ?_
      refine ARun.qv (t_or rfl rfl) rfl ?_
      refine n_buildSliceL rfl rfl rfl rfl rfl rfl ?_
      obtain ⟨l7, e1, h⟩ := bnd h
      refine t_append (g := (AV.int .u8)) rfl rfl rfl rfl rfl rfl rfl rfl (.list _) e1 (fun _ => .here) rfl (fun b8 => ?_)
      refine ARun.qv (q_move rfl) rfl ?_
      refine ARun.qv (t_shr rfl rfl (by decide)) rfl ?_
      refine ARun.qv (q_assign rfl) rfl ?_
      refine ARun.qv (q_assign rfl) rfl ?_
      refine ARun.nil ?_
      refine ATodo.blk ?_
      refine ATodo.stop ?_
      obtain rfl := Option.some.inj h
      refine hJ1 _ _ rfl ?_
      exact ImpX.lessP (by exact ⟨rfl, rfl, True.intro⟩) (.cons .here .nil) (ImpX.here ⟨b8, rfl⟩)
    · replace h := iteF hc h
      refine ATodo.exit rfl ?_
      replace h := outL h hA1
      unfold series_seven_o0x_k1 at h
      refine ATodo.seq ?_
      refine ATodo.region ?_
      refine ARun.qv (q_move rfl) rfl ?_
      refine ARun.qv (q_move rfl) rfl ?_
      refine ARun.qv (q_conv_int rfl) rfl ?_
      refine n_buildSliceL rfl rfl rfl rfl rfl rfl ?_
      obtain ⟨l9, e2, h⟩ := bnd h
      refine t_append (g := (AV.int .u8)) rfl rfl rfl rfl rfl rfl rfl rfl (.list _) e2 (fun _ => .here) rfl (fun b10 => ?_)
      refine ARun.qv (q_assign rfl) rfl ?_
      refine ARun.nil ?_
      refine ATodo.ret ?_
      obtain rfl := Option.some.inj h
      exact ImpX.here ⟨_, .cons (.tmp _ _ rfl) .nil, _, .cons .here .nil, ⟨b10, rfl, rfl⟩⟩

set_option maxHeartbeats 4000000 in
theorem series_pack_c {p0x0 : List Sample} {r : (List Int)} (h : series_pack p0x0 = some r) : ACall Try.prog 77 [.list 4 (p0x0.map Sample.av)] [] (T1 (fun d_0 => [(d_0, .arr 1 (r.map (AV.int .u8)))]) (fun d_0 => .sl 1 d_0 0 r.length)) := by
  unfold series_pack at h
  refine ACall.lessH ?_
  refine ACall.bodyN Try.func77 rfl Try.ntmps77 Try.results77 rfl rfl ?_
  refine ATodo.seq ?_
  refine ATodo.region ?_
  refine ARun.qv (q_assign rfl) rfl ?_
  refine ARun.nil ?_
  refine ATodo.seq ?_
  refine ATodo.region ?_
  refine ARun.qv (q_move rfl) rfl ?_
  refine ARun.qv (t_len rfl) rfl ?_
  refine ARun.qv (q_conv_int rfl) rfl ?_
  obtain ⟨v1, e1, h⟩ := bnd h
  refine t_call1 rfl (series_seven_n0x_c e1) (CoL.refl _) .nil (fun _ => rfl) rfl (fun b2 => ?_)
  refine ARun.qv (q_assign rfl) rfl ?_
  refine ARun.nil ?_
  refine ATodo.seq ?_
  refine ATodo.region ?_
  refine ARun.qv (q_assign rfl) rfl ?_
  refine ARun.qv (q_assign rfl) rfl ?_
  refine ARun.qv (q_assign rfl) rfl ?_
  refine ARun.nil ?_
  refine ATodo.seq ?_
  refine ATodo.seq ?_
  refine ATodo.region ?_
  refine ARun.qv (q_move rfl) rfl ?_
  refine ARun.qv (t_len rfl) rfl ?_
  refine ARun.qv (q_move rfl) rfl ?_
  refine ARun.nil ?_
  refine ATodo.block ?_
  refine ATodo.loopI (fun x : (List Int) × Int × Int × Int × Int => series_pack_b1 p0x0 x.1 x.2.1 x.2.2.1 x.2.2.2.1 x.2.2.2.2) (fun x σ' => ∃ (b9 : Bk), σ' = ⟨47, [(3, .sl 1 b9 0 x.1.length), (4, I x.2.1), (5, I x.2.2.1), (6, I x.2.2.2.1), (14, .list 4 (p0x0.map Sample.av)), (15, I (p0x0.length : Int)), (16, I x.2.2.2.2)], [(b9, .arr 1 (x.1.map (AV.int .u8)))]⟩) h ?_ ?_
  · exact ImpX.lessP (by exact ⟨rfl, rfl, rfl, rfl, rfl, rfl, rfl, True.intro⟩) (.cons .here .nil) (ImpX.here ⟨b2, rfl⟩)
  · intro x z1 σ' J1 hmk h hJ1 hA1
    obtain ⟨l10, n11, n12, n13, n14⟩ := x
    obtain ⟨b9, rfl⟩ := hmk
    replace h : series_pack_b1 p0x0 l10 n11 n12 n13 n14 = some z1 := h
    unfold series_pack_b1 at h
    refine ATodo.seq ?_
    refine ATodo.region ?_
    refine ARun.qv (q_lss rfl rfl) rfl ?_
    refine ARun.nil ?_
    refine ATodo.seq ?_
    refine ATodo.cond_d rfl (fun hc => ?_) (fun hc => ?_)
    · replace h := iteT hc h
      refine ATodo.skip ?_
      refine ATodo.seq ?_
      refine ATodo.block ?_
      refine ATodo.seq ?_
      refine ATodo.region ?_
      refine ARun.qv (q_move rfl) rfl ?_
      obtain ⟨v15, e2, h⟩ := bnd h
      refine ARun.qv (t_index rfl rfl rfl e2 rfl rfl) rfl ?_
      refine ARun.qv (q_load_rptr_agg rfl rfl rfl) rfl ?_
      refine n_alloc rfl rfl rfl rfl (fun b16 => ?_)
      refine ARun.qv (q_assign rfl) rfl ?_
      refine n_store_ptr rfl rfl rfl rfl .here rfl rfl ?_
      refine ARun.nil ?_
      refine ATodo.seq ?_
      refine ATodo.region ?_
      refine ARun.qv (n_field_ptr rfl rfl) rfl ?_
      refine ARun.qv (q_load_ptr rfl rfl .here rfl) rfl ?_
      refine ARun.qv (q_move rfl) rfl ?_
      refine ARun.qv (q_subw rfl rfl) rfl ?_
      refine ARun.qv (q_assign rfl) rfl ?_
      refine ARun.nil ?_
      refine ATodo.seq ?_
      refine ATodo.region ?_
      refine ARun.qv (q_move rfl) rfl ?_
      refine ARun.qv (q_move rfl) rfl ?_
      refine ARun.qv (q_move rfl) rfl ?_
      refine ARun.qv (q_subw rfl rfl) rfl ?_
      refine r_callp rfl (series_doubled_c rfl) (CoL.refl _) rfl ?_
      obtain ⟨v17, e3, h⟩ := bnd h
      refine t_call1 rfl (series_seven_o0x_c e3) (CoL.refl _) (.cons (.next .here) .nil) (fun _ => rfl) rfl (fun b18 => ?_)
      refine ARun.qv (q_assign rfl) rfl ?_
      refine ARun.nil ?_
      refine ATodo.seq ?_
      refine ATodo.region ?_
      refine ARun.qv (q_move rfl) rfl ?_
      refine ARun.qv (n_field_ptr rfl rfl) rfl ?_
      refine ARun.qv (q_load_ptr rfl rfl (.next .here) rfl) rfl ?_
      refine ARun.qv (q_move rfl) rfl ?_
      refine ARun.qv (q_subw rfl rfl) rfl ?_
      refine r_callp rfl (series_doubled_c rfl) (CoL.refl _) rfl ?_
      obtain ⟨v19, e4, h⟩ := bnd h
      refine t_call1 rfl (series_seven_o0x_c e4) (CoL.refl _) (.cons .here .nil) (fun _ => rfl) rfl (fun b20 => ?_)
      refine ARun.qv (q_assign rfl) rfl ?_
      refine ARun.nil ?_
      refine ATodo.seq ?_
      refine ATodo.seq ?_
      refine ATodo.region ?_
      refine ARun.qv (q_move rfl) rfl ?_
      refine ARun.qv (q_gtr rfl rfl) rfl ?_
      refine ARun.nil ?_
      refine ATodo.cut (fun σ' => ∃ (n21 : Int), series_pack_j1 n14 v15 v19 n21 = some z1 ∧ σ' = ⟨47, [(3, .sl 1 b20 0 v19.length), (5, I n21), (8, .ptr b16 0), (14, .list 4 (p0x0.map Sample.av)), (15, I (p0x0.length : Int)), (16, I n14)], [(b20, .arr 1 (v19.map (AV.int .u8))), (b16, .cells [.str v15.Device, .str v15.Metric, I v15.At, I v15.Value])]⟩) ?_ ?_
      · refine ATodo.cond_d rfl (fun hc => ?_) (fun hc => ?_)
        · replace h := iteT hc h
          refine ATodo.region ?_
          refine ARun.qv (q_move rfl) rfl ?_
          refine ARun.qv (q_assign rfl) rfl ?_
          refine ARun.nil ?_
          refine ATodo.stop ?_
          exact ImpX.lessP (by exact ⟨rfl, rfl, rfl, rfl, rfl, rfl, True.intro⟩) (.cons .here (.cons .here .nil)) (ImpX.here ⟨w64 (v15.At - n11), h, rfl⟩)
        · replace h := iteF hc h
          refine ATodo.skip ?_
          refine ATodo.stop ?_
          exact ImpX.lessP (by exact ⟨rfl, rfl, rfl, rfl, rfl, rfl, True.intro⟩) (.cons .here (.cons .here .nil)) (ImpX.here ⟨n12, h, rfl⟩)
      · rintro σ' ⟨n21, h, rfl⟩
        unfold series_pack_j1 at h
        refine ATodo.regionM (id := 11) (A := [0, 1, 0, 4, 3, 31]) 6 mixed rfl (by kernel_rfl) (by kernel_rfl) ?_
        refine AM.qv (n_field_ptr rfl rfl) rfl ?_
        refine AM.qv (q_load_ptr rfl rfl (.next .here) rfl) rfl ?_
        refine AM.qv (n_field_ptr rfl rfl) rfl ?_
        refine AM.qv (q_load_ptr rfl rfl (.next .here) rfl) rfl ?_
        refine AM.qv (q_assign rfl) rfl ?_
        refine AM.qv (q_assign rfl) rfl ?_
        refine AM.nil ?_
        refine ARun.nil ?_
        refine ATodo.blk ?_
        refine ATodo.region ?_
        refine ARun.qv (q_addw rfl rfl) rfl ?_
        refine ARun.qv (q_move rfl) rfl ?_
        refine ARun.nil ?_
        refine ATodo.stop ?_
        obtain rfl := Option.some.inj h
        refine hJ1 _ _ rfl ?_
        exact ImpX.lessP (by exact ⟨rfl, rfl, rfl, rfl, rfl, rfl, rfl, True.intro⟩) (.cons .here .nil) (ImpX.here ⟨b20, rfl⟩)
    · replace h := iteF hc h
      refine ATodo.exit rfl ?_
      replace h := outL h hA1
      refine ATodo.seq ?_
      refine ATodo.region ?_
      refine ARun.qv (q_move rfl) rfl ?_
      refine ARun.qv (q_assign rfl) rfl ?_
      refine ARun.nil ?_
      refine ATodo.ret ?_
      obtain rfl := Option.some.inj h
      exact ImpX.here ⟨_, .cons (.tmp _ _ rfl) .nil, _, .cons .here .nil, ⟨b9, rfl, rfl⟩⟩

set_option maxHeartbeats 4000000 in
theorem series_Pack_c {p0x0 : List Sample} {r : (List Int) × Int} (h : series_Pack p0x0 = some r) : ACall Try.prog 23 [.list 4 (p0x0.map Sample.av)] [] (T1 (fun d_0 => [(d_0, .arr 1 (r.1.map (AV.int .u8)))]) (fun d_0 => .tup [.sl 1 d_0 0 r.1.length, I r.2])) := by
  unfold series_Pack at h
  refine ACall.lessH ?_
  refine ACall.bodyN Try.func23 rfl Try.ntmps23 Try.results23 rfl rfl ?_
  refine ATodo.seq ?_
  refine ATodo.region ?_
  refine ARun.qv (q_assign rfl) rfl ?_
  refine ARun.qv (q_assign rfl) rfl ?_
  refine ARun.nil ?_
  refine ATodo.seq ?_
  refine ATodo.seq ?_
  refine ATodo.region ?_
  refine ARun.qv (q_move rfl) rfl ?_
  obtain ⟨v1, e1, h⟩ := bnd h
  refine r_callp rfl (series_CheckSeries_c e1) (CoL.refl _) rfl ?_
  refine ARun.qv (q_assign rfl) rfl ?_
  refine ARun.nil ?_
  refine ATodo.seq ?_
  refine ATodo.region ?_
  refine ARun.qv (q_move rfl) rfl ?_
  refine ARun.qv (q_neq rfl rfl) rfl ?_
  refine ARun.nil ?_
  refine ATodo.cond_d rfl (fun hc => ?_) (fun hc => ?_)
  · replace h := iteT hc h
    refine ATodo.seq ?_
    refine ATodo.region ?_
    refine ARun.qv (q_move rfl) rfl ?_
    refine ARun.qv (q_assign rfl) rfl ?_
    refine ARun.qv (q_assign rfl) rfl ?_
    refine ARun.nil ?_
    refine ATodo.ret ?_
    obtain rfl := Option.some.inj h
    refine ImpX.arr (s := 2) 1 rfl (fun b2 => ?_)
    exact ImpX.here ⟨_, .cons (.tmp _ _ rfl) (.cons (.tmp _ _ rfl) .nil), _, .cons .here .nil, ⟨b2, rfl, rfl⟩⟩
  · replace h := iteF hc h
    refine ATodo.skip ?_
    refine ATodo.seq ?_
    refine ATodo.region ?_
    refine ARun.qv (q_move rfl) rfl ?_
    obtain ⟨v3, e2, h⟩ := bnd h
    refine t_call1 rfl (series_pack_c e2) (CoL.refl _) .nil (fun _ => rfl) rfl (fun b4 => ?_)
    refine ARun.qv (q_assign rfl) rfl ?_
    refine ARun.qv (q_assign rfl) rfl ?_
    refine ARun.nil ?_
    refine ATodo.ret ?_
    obtain rfl := Option.some.inj h
    exact ImpX.here ⟨_, .cons (.tmp _ _ rfl) (.cons (.tmp _ _ rfl) .nil), _, .cons .here .nil, ⟨b4, rfl, rfl⟩⟩

set_option maxHeartbeats 4000000 in
theorem slices_Equal_byte_byte_c {p0x0 : List Int} {p1x0 : List Int} {r : Bool} (h : slices_Equal_byte_byte p0x0 p1x0 = some r) : Pu Try.prog 28 [.list 1 (p0x0.map (AV.int .u8)), .list 1 (p1x0.map (AV.int .u8))] (.bool r) := by
  unfold slices_Equal_byte_byte at h
  refine ACall.bodyN Try.func28 rfl Try.ntmps28 Try.results28 rfl rfl ?_
  refine ATodo.seq ?_
  refine ATodo.region ?_
  refine ARun.qv (q_assign rfl) rfl ?_
  refine ARun.nil ?_
  refine ATodo.seq ?_
  refine ATodo.seq ?_
  refine ATodo.region ?_
  refine ARun.qv (q_move rfl) rfl ?_
  refine ARun.qv (t_len rfl) rfl ?_
  refine ARun.qv (q_move rfl) rfl ?_
  refine ARun.qv (t_len rfl) rfl ?_
  refine ARun.qv (q_neq rfl rfl) rfl ?_
  refine ARun.nil ?_
  refine ATodo.cond_d rfl (fun hc => ?_) (fun hc => ?_)
  · replace h := iteT hc h
    refine ATodo.seq ?_
    refine ATodo.region ?_
    refine ARun.qv (q_assign rfl) rfl ?_
    refine ARun.nil ?_
    refine ATodo.ret ?_
    obtain rfl := Option.some.inj h
    exact ImpX.here ⟨_, .cons (.tmp _ _ rfl) .nil, rfl⟩
  · replace h := iteF hc h
    refine ATodo.skip ?_
    refine ATodo.seq ?_
    refine ATodo.seq ?_
    refine ATodo.region ?_
    refine ARun.qv (q_move rfl) rfl ?_
    refine ARun.qv (t_len rfl) rfl ?_
    refine ARun.qv (q_move rfl) rfl ?_
    refine ARun.nil ?_
    refine ATodo.block ?_
    refine ATodo.loopI (fun x : Int => slices_Equal_byte_byte_b1 p0x0 p1x0 x) (fun x σ' => σ' = ⟨26, [(0, .list 1 (p0x0.map (AV.int .u8))), (1, .list 1 (p1x0.map (AV.int .u8))), (12, I (p0x0.length : Int)), (13, I x)], []⟩) h ?_ ?_
    · exact ImpX.lessP (by exact ⟨rfl, rfl, rfl, rfl, True.intro⟩) (.nil) (ImpX.here rfl)
    · intro n2 z1 σ' J1 hmk h hJ1 hA1
      obtain rfl := hmk
      replace h : slices_Equal_byte_byte_b1 p0x0 p1x0 n2 = some z1 := h
      unfold slices_Equal_byte_byte_b1 at h
      refine ATodo.seq ?_
      refine ATodo.region ?_
      refine ARun.qv (q_lss rfl rfl) rfl ?_
      refine ARun.nil ?_
      refine ATodo.seq ?_
      refine ATodo.cond_d rfl (fun hc => ?_) (fun hc => ?_)
      · replace h := iteT hc h
        refine ATodo.skip ?_
        refine ATodo.seq ?_
        refine ATodo.block ?_
        refine ATodo.seq ?_
        refine ATodo.region ?_
        refine ARun.qv (q_move rfl) rfl ?_
        refine ARun.qv (q_assign rfl) rfl ?_
        refine ARun.nil ?_
        refine ATodo.seq ?_
        refine ATodo.regionM (id := 6) (A := [0, 0, 3, 7, 0, 0, 48, 112, 255]) 9 mixed rfl (by kernel_rfl) (by kernel_rfl) ?_
        refine AM.qv (q_move rfl) rfl ?_
        refine AM.qv (q_move rfl) rfl ?_
        obtain ⟨v3, e1, h⟩ := bnd h
        refine AM.qv (t_index rfl rfl rfl e1 rfl rfl) rfl ?_
        refine AM.qv (q_load_rptr rfl rfl rfl) rfl ?_
        refine AM.qv (q_move rfl) rfl ?_
        refine AM.qv (q_move rfl) rfl ?_
        obtain ⟨v4, e2, h⟩ := bnd h
        refine AM.qv (t_index rfl rfl rfl e2 rfl rfl) rfl ?_
        refine AM.qv (q_load_rptr rfl rfl rfl) rfl ?_
        refine AM.qv (q_neq rfl rfl) rfl ?_
        refine AM.nil ?_
        refine ARun.nil ?_
        refine ATodo.cond_d rfl (fun hc => ?_) (fun hc => ?_)
        · replace h := iteT hc h
          refine ATodo.seq ?_
          refine ATodo.region ?_
          refine ARun.qv (q_assign rfl) rfl ?_
          refine ARun.nil ?_
          refine ATodo.ret ?_
          replace h := outL h hA1
          obtain rfl := Option.some.inj h
          exact ImpX.here ⟨_, .cons (.tmp _ _ rfl) .nil, rfl⟩
        · replace h := iteF hc h
          refine ATodo.skip ?_
          refine ATodo.blk ?_
          refine ATodo.region ?_
          refine ARun.qv (q_addw rfl rfl) rfl ?_
          refine ARun.qv (q_move rfl) rfl ?_
          refine ARun.nil ?_
          refine ATodo.stop ?_
          obtain rfl := Option.some.inj h
          refine hJ1 _ _ rfl ?_
          exact ImpX.lessP (by exact ⟨rfl, rfl, rfl, rfl, True.intro⟩) (.nil) (ImpX.here rfl)
      · replace h := iteF hc h
        refine ATodo.exit rfl ?_
        replace h := outL h hA1
        refine ATodo.seq ?_
        refine ATodo.region ?_
        refine ARun.qv (q_assign rfl) rfl ?_
        refine ARun.nil ?_
        refine ATodo.ret ?_
        obtain rfl := Option.some.inj h
        exact ImpX.here ⟨_, .cons (.tmp _ _ rfl) .nil, rfl⟩

set_option maxHeartbeats 4000000 in
theorem L_measured_c {r : Bool} (h : L_measured = some r) : Pu Try.prog 20 [] (.bool r) := by
  unfold L_measured at h
  refine ACall.bodyN Try.func20 rfl Try.ntmps20 Try.results20 rfl rfl ?_
  refine ATodo.seq ?_
  refine ATodo.region ?_
  refine ARun.qv (q_assign rfl) rfl ?_
  refine ARun.nil ?_
  refine ATodo.seq ?_
  refine ATodo.region ?_
  refine ARun.qv (n_build rfl rfl rfl rfl rfl) rfl ?_
  refine n_buildSliceL rfl rfl rfl rfl rfl rfl ?_
  obtain ⟨v1, e1, h⟩ := bnd h
  refine t_call1 rfl (series_Pack_c e1) (CoL.refl _) .nil (fun _ => rfl) rfl (fun b2 => ?_)
  refine ARun.qv (q_move rfl) rfl ?_
  refine ARun.qv (q_extract rfl rfl) rfl ?_
  refine ARun.qv (q_extract rfl rfl) rfl ?_
  refine ARun.qv (q_assign rfl) rfl ?_
  refine ARun.qv (q_assign rfl) rfl ?_
  refine ARun.nil ?_
  refine ATodo.seq ?_
  refine ATodo.cut (fun σ' => ∃ (c3 : Bool), L_measured_j1 c3 = some r ∧ σ' = ⟨16, [(0, .bool c3)], []⟩) ?_ ?_
  · refine ATodo.region ?_
    refine ARun.qv (q_move rfl) rfl ?_
    refine ARun.qv (q_eql rfl rfl) rfl ?_
    refine ARun.qv (q_move rfl) rfl ?_
    refine ARun.guard_dt rfl rfl rfl (fun hc => ?_) (fun hc => ?_)
    · replace h := iteT hc h
      refine ARun.qv (q_move rfl) rfl ?_
      refine ARun.guard_yes rfl rfl rfl ?_
      refine n_buildSliceL rfl rfl rfl rfl rfl rfl ?_
      refine ARun.guard_yes rfl rfl rfl ?_
      obtain ⟨v4, e2, h⟩ := bnd h
      refine r_callpB rfl (slices_Equal_byte_byte_c e2) (.cons (CoB.arrT .here) (.cons (.co (.refl _)) .nil)) rfl rfl ?_
      refine ARun.qv (q_pick_t rfl rfl) rfl ?_
      refine ARun.qv (q_assign rfl) rfl ?_
      refine ARun.nil ?_
      refine ATodo.stop ?_
      exact ImpX.lessP (by exact ⟨rfl, True.intro⟩) (.nil) (ImpX.here ⟨v4, h, rfl⟩)
    · replace h := iteF hc h
      refine ARun.guard_no rfl rfl rfl rfl ?_
      refine ARun.guard_no rfl rfl rfl rfl ?_
      refine ARun.qv (q_pick_f rfl rfl) rfl ?_
      refine ARun.qv (q_assign rfl) rfl ?_
      refine ARun.nil ?_
      refine ATodo.stop ?_
      exact ImpX.lessP (by exact ⟨rfl, True.intro⟩) (.nil) (ImpX.here ⟨false, h, rfl⟩)
  · rintro σ' ⟨c3, h, rfl⟩
    unfold L_measured_j1 at h
    refine ATodo.ret ?_
    obtain rfl := Option.some.inj h
    exact ImpX.here ⟨_, .cons (.tmp _ _ rfl) .nil, rfl⟩

set_option maxHeartbeats 4000000 in
theorem L_SeriesFilled_c {p0x0 : List Int} {r : Bool} (h : L_SeriesFilled p0x0 = some r) : Pu Try.prog 3 [.list 1 (p0x0.map I)] (.bool r) := by
  unfold L_SeriesFilled at h
  refine ACall.bodyN Try.func3 rfl Try.ntmps3 Try.results3 rfl rfl ?_
  refine ATodo.seq ?_
  refine ATodo.region ?_
  refine ARun.qv (q_assign rfl) rfl ?_
  refine ARun.nil ?_
  refine ATodo.seq ?_
  refine ATodo.region ?_
  refine ARun.qv (q_move rfl) rfl ?_
  refine ARun.qv (n_build rfl rfl rfl rfl rfl) rfl ?_
  refine n_box rfl rfl rfl rfl (fun b1 => ?_)
  refine ARun.qv (q_assign rfl) rfl ?_
  refine ARun.nil ?_
  refine ATodo.seq ?_
  refine ATodo.region ?_
  refine ARun.qv (q_move rfl) rfl ?_
  obtain ⟨v2, e1, h⟩ := bnd h
  refine t_call1 rfl (Stream_Series_c e1) (CoL.refl _) (.cons .here .nil) (fun _ => rfl) rfl (fun b3 => ?_)
  refine ARun.qv (q_move rfl) rfl ?_
  obtain ⟨v4, e2, h⟩ := bnd h
  refine t_call0 rfl (Stream_Frame_c e2) (CoL.refl _) (.cons .here .nil) rfl rfl ?_
  refine ARun.qv (q_move rfl) rfl ?_
  refine n_buildSliceL rfl rfl rfl rfl rfl rfl ?_
  obtain ⟨v5, e3, h⟩ := bnd h
  refine t_call0 rfl (Stream_Pick_c e3) (CoL.refl _) (.cons .here .nil) rfl rfl ?_
  refine ARun.qv (q_move rfl) rfl ?_
  refine n_buildSliceL rfl rfl rfl rfl rfl rfl ?_
  obtain ⟨v6, e4, h⟩ := bnd h
  refine t_call0 rfl (Stream_Pick_c e4) (CoL.refl _) (.cons .here .nil) rfl rfl ?_
  refine n_alloc rfl rfl rfl rfl (fun b7 => ?_)
  refine ARun.qv (q_assign rfl) rfl ?_
  refine n_store_ptr rfl rfl rfl rfl .here rfl rfl ?_
  refine ARun.qv (q_assign rfl) rfl ?_
  refine ARun.qv (q_assign rfl) rfl ?_
  refine ARun.nil ?_
  refine ATodo.seq ?_
  refine ATodo.seq ?_
  refine ATodo.cut (fun σ' => ∃ (c8 : Bool), L_SeriesFilled_j1 v2 v4 v5 v6 c8 = some r ∧ σ' = ⟨91, [(4, .sl 4 b3 0 v2.1.length), (5, .ptr b7 0), (6, I v5.1), (7, I v6.1), (39, .bool c8)], [(b3, .arr 4 (v2.1.map Sample.av)), (b7, .cells [I v4.1.From, I v4.1.To])]⟩) ?_ ?_
  · refine ATodo.region ?_
    refine ARun.qv (q_move rfl) rfl ?_
    obtain ⟨v9, e5, h⟩ := bnd h
    refine t_call0 rfl (Stream_Flip_c e5) (CoL.refl _) (.cons (.next .here) .nil) rfl rfl ?_
    refine ARun.qv (q_move rfl) rfl ?_
    refine ARun.guard rfl rfl rfl (fun hc => ?_) (fun hc => ?_)
    · rw [andTb hc] at h
      refine ARun.qv (n_field_ptr rfl rfl) rfl ?_
      refine ARun.guard_yes rfl rfl rfl ?_
      refine ARun.qv (q_load_ptr rfl rfl (.next .here) rfl) rfl ?_
      refine ARun.guard_yes rfl rfl rfl ?_
      refine ARun.qv (q_leq rfl rfl) rfl ?_
      refine ARun.qv (q_pick_t rfl rfl) rfl ?_
      refine ARun.qv (q_move rfl) rfl ?_
      refine ARun.guard_dt rfl rfl rfl (fun hc => ?_) (fun hc => ?_)
      · rw [andTd hc] at h
        refine ARun.qv (n_field_ptr rfl rfl) rfl ?_
        refine ARun.guard_yes rfl rfl rfl ?_
        refine ARun.qv (q_load_ptr rfl rfl (.next .here) rfl) rfl ?_
        refine ARun.guard_yes rfl rfl rfl ?_
        refine ARun.qv (n_field_ptr rfl rfl) rfl ?_
        refine ARun.guard_yes rfl rfl rfl ?_
        refine ARun.qv (q_load_ptr rfl rfl (.next .here) rfl) rfl ?_
        refine ARun.guard_yes rfl rfl rfl ?_
        refine ARun.qv (q_subw rfl rfl) rfl ?_
        refine ARun.guard_yes rfl rfl rfl ?_
        refine ARun.qv (q_gtr rfl rfl) rfl ?_
        refine ARun.qv (q_pick_t rfl rfl) rfl ?_
        refine ARun.nil ?_
        refine ATodo.stop ?_
        exact ImpX.lessP (by exact ⟨rfl, rfl, rfl, rfl, rfl, True.intro⟩) (.cons (.next (.next .here)) (.cons (.next .here) .nil)) (ImpX.here ⟨decide ((400 : Int) < (w64 (v4.1.To - v4.1.From))), h, rfl⟩)
      · rw [andFd hc] at h
        refine ARun.guard_no rfl rfl rfl rfl ?_
        refine ARun.guard_no rfl rfl rfl rfl ?_
        refine ARun.guard_no rfl rfl rfl rfl ?_
        refine ARun.guard_no rfl rfl rfl rfl ?_
        refine ARun.guard_no rfl rfl rfl rfl ?_
        refine ARun.qv (q_pick_f rfl rfl) rfl ?_
        refine ARun.nil ?_
        refine ATodo.stop ?_
        exact ImpX.lessP (by exact ⟨rfl, rfl, rfl, rfl, rfl, True.intro⟩) (.cons (.next (.next .here)) (.cons (.next .here) .nil)) (ImpX.here ⟨false, h, rfl⟩)
    · rw [andFb hc] at h
      refine ARun.guard_no rfl rfl rfl rfl ?_
      refine ARun.guard_no rfl rfl rfl rfl ?_
      refine ARun.qv (q_pick_f rfl rfl) rfl ?_
      refine ARun.qv (q_move rfl) rfl ?_
      refine ARun.guard_no rfl rfl rfl rfl ?_
      refine ARun.guard_no rfl rfl rfl rfl ?_
      refine ARun.guard_no rfl rfl rfl rfl ?_
      refine ARun.guard_no rfl rfl rfl rfl ?_
      refine ARun.guard_no rfl rfl rfl rfl ?_
      refine ARun.guard_no rfl rfl rfl rfl ?_
      refine ARun.qv (q_pick_f rfl rfl) rfl ?_
      refine ARun.nil ?_
      refine ATodo.stop ?_
      exact ImpX.lessP (by exact ⟨rfl, rfl, rfl, rfl, rfl, True.intro⟩) (.cons (.next (.next .here)) (.cons (.next .here) .nil)) (ImpX.here ⟨false, h, rfl⟩)
  · rintro σ' ⟨c8, h, rfl⟩
    unfold L_SeriesFilled_j1 at h
    refine ATodo.cut (fun σ' => ∃ (n10 : Int), L_SeriesFilled_j2 v2 v4 v6 n10 = some r ∧ σ' = ⟨91, [(4, .sl 4 b3 0 v2.1.length), (5, .ptr b7 0), (6, I n10), (7, I v6.1)], [(b3, .arr 4 (v2.1.map Sample.av)), (b7, .cells [I v4.1.From, I v4.1.To])]⟩) ?_ ?_
    · refine ATodo.cond rfl (fun hc => ?_) (fun hc => ?_)
      · replace h := iteT hc h
        refine ATodo.region ?_
        refine ARun.qv (q_move rfl) rfl ?_
        refine ARun.qv (q_max rfl rfl) rfl ?_
        refine ARun.qv (q_assign rfl) rfl ?_
        refine ARun.nil ?_
        refine ATodo.stop ?_
        exact ImpX.lessP (by exact ⟨rfl, rfl, rfl, rfl, True.intro⟩) (.cons .here (.cons .here .nil)) (ImpX.here ⟨max v5.1 (100 : Int), h, rfl⟩)
      · replace h := iteFb hc h
        refine ATodo.skip ?_
        refine ATodo.stop ?_
        exact ImpX.lessP (by exact ⟨rfl, rfl, rfl, rfl, True.intro⟩) (.cons .here (.cons .here .nil)) (ImpX.here ⟨v5.1, h, rfl⟩)
    · rintro σ' ⟨n10, h, rfl⟩
      unfold L_SeriesFilled_j2 at h
      refine ATodo.seq ?_
      refine ATodo.region ?_
      refine ARun.qv (q_move rfl) rfl ?_
      refine ARun.qv (q_load_ptr_all rfl rfl (.next .here) rfl) rfl ?_
      refine ARun.qv (q_move rfl) rfl ?_
      refine ARun.qv (q_move rfl) rfl ?_
      obtain ⟨v11, e6, h⟩ := bnd h
      refine ARun.ghost (ImpX.freeze .here (ImpX.here ?_))
      refine t_call1 rfl (series_Fill_c e6) (.cons (Co.froT .here) (.cons (.refl _) (.cons (.refl _) (.cons (.refl _) .nil)))) .nil (fun _ => rfl) rfl (fun b12 => ?_)
      refine ARun.qv (q_move rfl) rfl ?_
      refine ARun.qv (q_extract rfl rfl) rfl ?_
      refine ARun.qv (q_extract rfl rfl) rfl ?_
      refine ARun.qv (q_assign rfl) rfl ?_
      refine ARun.qv (q_assign rfl) rfl ?_
      refine ARun.nil ?_
      refine ATodo.seq ?_
      refine ATodo.cut (fun σ' => ∃ (n13 : Int), L_SeriesFilled_j3 v2 v4 v6 n10 v11 n13 = some r ∧ σ' = ⟨91, [(4, .sl 4 b3 0 v2.1.length), (5, .ptr b7 0), (6, I n10), (7, I v6.1), (8, .sl 4 b12 0 v11.1.length), (9, I v11.2), (10, I n13)], [(b3, .fro 4 (v2.1.map Sample.av)), (b7, .cells [I v4.1.From, I v4.1.To]), (b12, .arr 4 (v11.1.map Sample.av))]⟩) ?_ ?_
      · refine ATodo.regionM (id := 6) (A := [0, 1, 0, 7, 0, 16, 63, 127, 255, 511, 1023, 0, 2048, 8191, 16383, 32767, 65535, 131071, 262143, 524287, 1048575]) 21 mixed rfl (by kernel_rfl) (by kernel_rfl) ?_
        refine AM.qv (q_move rfl) rfl ?_
        obtain ⟨v14, e7, h⟩ := bnd h
        refine AM.callp rfl (Q_SeriesFault_c e7) (.cons (Co.froT (.next .here)) .nil) rfl ?_
        refine AM.qv (q_load_ptr_all rfl rfl (.next (.next .here)) rfl) rfl ?_
        refine AM.callp rfl (Q_WindowFault_c rfl) (CoL.refl _) rfl ?_
        refine AM.qv (q_move rfl) rfl ?_
        refine AM.qv (q_lss rfl rfl) rfl ?_
        refine AM.qv (q_move rfl) rfl ?_
        refine AM.guard_df rfl rfl rfl (fun hc => ?_) (fun hc => ?_)
        · replace h := iteF hc h
          refine AM.qv (q_move rfl) rfl ?_
          refine AM.guard_yes rfl rfl rfl ?_
          refine AM.qv (q_gtr rfl rfl) rfl ?_
          refine AM.qv (q_pick_f rfl rfl) rfl ?_
          refine AM.callp rfl (L_when_c rfl) (CoL.refl _) rfl ?_
          refine AM.qv (q_move rfl) rfl ?_
          refine AM.qv (q_neq rfl rfl) rfl ?_
          refine AM.qv (q_move rfl) rfl ?_
          refine AM.guard_dt rfl rfl rfl (fun hc => ?_) (fun hc => ?_)
          · replace h := iteT hc h
            refine AM.qv (q_move rfl) rfl ?_
            refine AM.guard_yes rfl rfl rfl ?_
            refine AM.qv (q_neq rfl rfl) rfl ?_
            refine AM.qv (q_pick_t rfl rfl) rfl ?_
            refine AM.callp rfl (L_when_c rfl) (CoL.refl _) rfl ?_
            refine AM.buildSliceL rfl rfl rfl rfl rfl rfl ?_
            obtain ⟨v15, e8, h⟩ := bnd h
            refine AM.callp rfl (L_errs_c e8) (CoL.refl _) rfl ?_
            refine AM.qv (q_assign rfl) rfl ?_
            refine AM.nil ?_
            refine ARun.nil ?_
            refine ATodo.stop ?_
            exact ImpX.lessP (by exact ⟨rfl, rfl, rfl, rfl, rfl, rfl, rfl, True.intro⟩) (.cons (.next .here) (.cons (.next .here) (.cons .here .nil))) (ImpX.here ⟨v15, h, rfl⟩)
          · replace h := iteF hc h
            refine AM.guard_no rfl rfl rfl rfl ?_
            refine AM.qv (q_pick_f rfl rfl) rfl ?_
            refine AM.callp rfl (L_when_c rfl) (CoL.refl _) rfl ?_
            refine AM.buildSliceL rfl rfl rfl rfl rfl rfl ?_
            obtain ⟨v16, e9, h⟩ := bnd h
            refine AM.callp rfl (L_errs_c e9) (CoL.refl _) rfl ?_
            refine AM.qv (q_assign rfl) rfl ?_
            refine AM.nil ?_
            refine ARun.nil ?_
            refine ATodo.stop ?_
            exact ImpX.lessP (by exact ⟨rfl, rfl, rfl, rfl, rfl, rfl, rfl, True.intro⟩) (.cons (.next .here) (.cons (.next .here) (.cons .here .nil))) (ImpX.here ⟨v16, h, rfl⟩)
        · replace h := iteT hc h
          refine AM.guard_no rfl rfl rfl rfl ?_
          refine AM.qv (q_pick_t rfl rfl) rfl ?_
          refine AM.callp rfl (L_when_c rfl) (CoL.refl _) rfl ?_
          refine AM.qv (q_move rfl) rfl ?_
          refine AM.qv (q_neq rfl rfl) rfl ?_
          refine AM.qv (q_move rfl) rfl ?_
          refine AM.guard_dt rfl rfl rfl (fun hc => ?_) (fun hc => ?_)
          · replace h := iteT hc h
            refine AM.qv (q_move rfl) rfl ?_
            refine AM.guard_yes rfl rfl rfl ?_
            refine AM.qv (q_neq rfl rfl) rfl ?_
            refine AM.qv (q_pick_t rfl rfl) rfl ?_
            refine AM.callp rfl (L_when_c rfl) (CoL.refl _) rfl ?_
            refine AM.buildSliceL rfl rfl rfl rfl rfl rfl ?_
            obtain ⟨v17, e10, h⟩ := bnd h
            refine AM.callp rfl (L_errs_c e10) (CoL.refl _) rfl ?_
            refine AM.qv (q_assign rfl) rfl ?_
            refine AM.nil ?_
            refine ARun.nil ?_
            refine ATodo.stop ?_
            exact ImpX.lessP (by exact ⟨rfl, rfl, rfl, rfl, rfl, rfl, rfl, True.intro⟩) (.cons (.next .here) (.cons (.next .here) (.cons .here .nil))) (ImpX.here ⟨v17, h, rfl⟩)
          · replace h := iteF hc h
            refine AM.guard_no rfl rfl rfl rfl ?_
            refine AM.qv (q_pick_f rfl rfl) rfl ?_
            refine AM.callp rfl (L_when_c rfl) (CoL.refl _) rfl ?_
            refine AM.buildSliceL rfl rfl rfl rfl rfl rfl ?_
            obtain ⟨v18, e11, h⟩ := bnd h
            refine AM.callp rfl (L_errs_c e11) (CoL.refl _) rfl ?_
            refine AM.qv (q_assign rfl) rfl ?_
            refine AM.nil ?_
            refine ARun.nil ?_
            refine ATodo.stop ?_
            exact ImpX.lessP (by exact ⟨rfl, rfl, rfl, rfl, rfl, rfl, rfl, True.intro⟩) (.cons (.next .here) (.cons (.next .here) (.cons .here .nil))) (ImpX.here ⟨v18, h, rfl⟩)
      · rintro σ' ⟨n13, h, rfl⟩
        unfold L_SeriesFilled_j3 at h
        refine ATodo.seq ?_
        refine ATodo.region ?_
        refine ARun.qv (q_assign rfl) rfl ?_
        refine ARun.nil ?_
        refine ATodo.seq ?_
        refine ATodo.seq ?_
        refine ATodo.region ?_
        refine ARun.qv (q_move rfl) rfl ?_
        refine ARun.qv (q_eql rfl rfl) rfl ?_
        refine ARun.nil ?_
        refine ATodo.cut (fun σ' => ∃ (b20 : Bk) (n19 : Int) (l21 : List Sample), L_SeriesFilled_j4 v11 n19 l21 = some r ∧ σ' = ⟨91, [(8, .sl 4 b12 0 v11.1.length), (9, I v11.2), (10, I n19), (11, .sl 4 b20 0 l21.length)], [(b12, .arr 4 (v11.1.map Sample.av)), (b20, .arr 4 (l21.map Sample.av))]⟩) ?_ ?_
        · refine ATodo.cond_d rfl (fun hc => ?_) (fun hc => ?_)
          · replace h := iteT hc h
            refine ATodo.region ?_
            refine ARun.qv (q_move rfl) rfl ?_
            refine ARun.qv (q_load_ptr_all rfl rfl (.next .here) rfl) rfl ?_
            refine ARun.qv (q_move rfl) rfl ?_
            refine ARun.qv (q_move rfl) rfl ?_
            obtain ⟨v22, e12, h⟩ := bnd h
            refine t_call1 rfl (Q_FillOf_c e12) (.cons (Co.froT .here) (.cons (.refl _) (.cons (.refl _) (.cons (.refl _) .nil)))) .nil (fun _ => rfl) rfl (fun b23 => ?_)
            refine ARun.qv (q_move rfl) rfl ?_
            refine ARun.qv (q_extract rfl rfl) rfl ?_
            refine ARun.qv (q_extract rfl rfl) rfl ?_
            refine ARun.qv (q_assign rfl) rfl ?_
            refine ARun.qv (q_assign rfl) rfl ?_
            refine ARun.nil ?_
            refine ATodo.stop ?_
            exact ImpX.lessP (by exact ⟨rfl, rfl, rfl, rfl, True.intro⟩) (.cons (.next (.next (.next .here))) (.cons .here .nil)) (ImpX.here ⟨b23, v22.2, v22.1, h, rfl⟩)
          · replace h := iteF hc h
            refine ATodo.skip ?_
            refine ATodo.stop ?_
            refine ImpX.arr (s := 11) 4 rfl (fun b24 => ?_)
            exact ImpX.lessP (by exact ⟨rfl, rfl, rfl, rfl, True.intro⟩) (.cons (.next (.next (.next .here))) (.cons .here .nil)) (ImpX.here ⟨b24, n13, [], h, rfl⟩)
        · rintro σ' ⟨b20, n19, l21, h, rfl⟩
          unfold L_SeriesFilled_j4 at h
          refine ATodo.seq ?_
          refine ATodo.cut (fun σ' => ∃ (c25 : Bool), L_SeriesFilled_j5 c25 = some r ∧ σ' = ⟨91, [(2, .bool c25)], []⟩) ?_ ?_
          · refine ATodo.region ?_
            refine ARun.qv (q_move rfl) rfl ?_
            refine ARun.qv (q_move rfl) rfl ?_
            refine ARun.qv (q_eql rfl rfl) rfl ?_
            refine ARun.qv (q_move rfl) rfl ?_
            refine ARun.guard_dt rfl rfl rfl (fun hc => ?_) (fun hc => ?_)
            · replace h := iteT hc h
              refine ARun.qv (q_move rfl) rfl ?_
              refine ARun.guard_yes rfl rfl rfl ?_
              refine ARun.qv (q_move rfl) rfl ?_
              refine ARun.guard_yes rfl rfl rfl ?_
              obtain ⟨v26, e13, h⟩ := bnd h
              refine r_callpB rfl (slices_Equal_Sample_Sample_c e13) (.cons (CoB.arrT .here) (.cons (CoB.arrT (.next .here)) .nil)) rfl rfl ?_
              refine ARun.qv (q_pick_t rfl rfl) rfl ?_
              refine ARun.qv (q_move rfl) rfl ?_
              refine ARun.guard rfl rfl rfl (fun hc => ?_) (fun hc => ?_)
              · replace h := iteT hc h
                obtain ⟨v27, e14, h⟩ := bnd h
                refine r_callp rfl (L_measured_c e14) (CoL.refl _) rfl ?_
                refine ARun.qv (q_pick_t rfl rfl) rfl ?_
                refine ARun.qv (q_assign rfl) rfl ?_
                refine ARun.nil ?_
                refine ATodo.stop ?_
                exact ImpX.lessP (by exact ⟨rfl, True.intro⟩) (.nil) (ImpX.here ⟨v27, h, rfl⟩)
              · replace h := iteFb hc h
                refine ARun.qv (q_pick_f rfl rfl) rfl ?_
                refine ARun.qv (q_assign rfl) rfl ?_
                refine ARun.nil ?_
                refine ATodo.stop ?_
                exact ImpX.lessP (by exact ⟨rfl, True.intro⟩) (.nil) (ImpX.here ⟨false, h, rfl⟩)
            · replace h := iteF hc h
              refine ARun.guard_no rfl rfl rfl rfl ?_
              refine ARun.guard_no rfl rfl rfl rfl ?_
              refine ARun.qv (q_pick_f rfl rfl) rfl ?_
              refine ARun.qv (q_move rfl) rfl ?_
              refine ARun.guard_no rfl rfl rfl rfl ?_
              refine ARun.qv (q_pick_f rfl rfl) rfl ?_
              refine ARun.qv (q_assign rfl) rfl ?_
              refine ARun.nil ?_
              refine ATodo.stop ?_
              exact ImpX.lessP (by exact ⟨rfl, True.intro⟩) (.nil) (ImpX.here ⟨false, h, rfl⟩)
          · rintro σ' ⟨c25, h, rfl⟩
            unfold L_SeriesFilled_j5 at h
            refine ATodo.ret ?_
            obtain rfl := Option.some.inj h
            exact ImpX.here ⟨_, .cons (.tmp _ _ rfl) .nil, rfl⟩

end Go.Proofs.Ytbcbhhbbejcnnaa
