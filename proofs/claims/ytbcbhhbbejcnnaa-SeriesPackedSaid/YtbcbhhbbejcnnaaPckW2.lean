/- The code computes the plain functions: proofs written by shal.py. -/
import Derived.Test.YtbcbhhbbejcnnaaPckW1
set_option maxRecDepth 100000
set_option linter.unusedVariables false
set_option linter.unusedSimpArgs false
namespace Go.Proofs.Ytbcbhhbbejcnnaa
open Go Go.Eng Go.Proofs Go.Beacon
attribute [local irreducible] ARun ATodo AQ QV ACall ImpX AWp AM
set_option maxHeartbeats 4000000 in
theorem Q_SeriesFault_1x_c {p0x0 : Sample} {p1x0 : List Sample} {r : Bool} (h : Q_SeriesFault_1x p0x0 p1x0 = some r) : Pu Try.prog 72 [.agg [.str p0x0.Device, .str p0x0.Metric, I p0x0.At, I p0x0.Value], .rptr [.list 4 (p1x0.map Sample.av)]] (.bool r) := by
  unfold Q_SeriesFault_1x at h
  refine ACall.bodyN Try.func72 rfl Try.ntmps72 Try.results72 rfl rfl ?_
  refine ATodo.seq ?_
  refine ATodo.region ?_
  refine n_box rfl rfl rfl rfl (fun b1 => ?_)
  refine ARun.qv (q_assign rfl) rfl ?_
  refine ARun.nil ?_
  refine ATodo.seq ?_
  refine ATodo.cut (fun σ' => ∃ (c2 : Bool), Q_SeriesFault_1x_j1 c2 = some r ∧ σ' = ⟨20, [(3, .bool c2)], []⟩) ?_ ?_
  · refine ATodo.regionM (id := 1) (A := [0, 1, 0, 4, 12, 28, 63, 127, 255, 511, 255, 1279, 3327, 7423, 16383, 32767, 65535]) 17 mixed rfl (by kernel_rfl) (by kernel_rfl) ?_
    refine AM.qv (n_field_ptr rfl rfl) rfl ?_
    refine AM.qv (q_load_ptr rfl rfl .here rfl) rfl ?_
    refine AM.qv (q_load_rptr rfl rfl rfl) rfl ?_
    obtain ⟨v3, e1, h⟩ := bnd h
    refine AM.qv (t_index rfl rfl rfl e1 rfl rfl) rfl ?_
    refine AM.qv (n_field_rptr rfl rfl) rfl ?_
    refine AM.qv (q_load_rptr rfl rfl rfl) rfl ?_
    refine AM.qv (q_sne rfl rfl) rfl ?_
    refine AM.qv (q_move rfl) rfl ?_
    refine AM.guard_df rfl rfl rfl (fun hc => ?_) (fun hc => ?_)
    · replace h := iteF hc h
      refine AM.qv (n_field_ptr rfl rfl) rfl ?_
      refine AM.guard_yes rfl rfl rfl ?_
      refine AM.qv (q_load_ptr rfl rfl .here rfl) rfl ?_
      refine AM.guard_yes rfl rfl rfl ?_
      refine AM.qv (q_load_rptr rfl rfl rfl) rfl ?_
      refine AM.guard_yes rfl rfl rfl ?_
      obtain ⟨v4, e2, h⟩ := bnd h
      refine AM.qv (t_index rfl rfl rfl e2 rfl rfl) rfl ?_
      refine AM.guard_yes rfl rfl rfl ?_
      refine AM.qv (n_field_rptr rfl rfl) rfl ?_
      refine AM.guard_yes rfl rfl rfl ?_
      refine AM.qv (q_load_rptr rfl rfl rfl) rfl ?_
      refine AM.guard_yes rfl rfl rfl ?_
      refine AM.qv (q_sne rfl rfl) rfl ?_
      refine AM.qv (q_pick_f rfl rfl) rfl ?_
      refine AM.qv (q_assign rfl) rfl ?_
      refine AM.nil ?_
      refine ARun.nil ?_
      refine ATodo.stop ?_
      exact ImpX.lessP (by exact ⟨rfl, True.intro⟩) (.nil) (ImpX.here ⟨decide (p0x0.Metric ≠ v4.Metric), h, rfl⟩)
    · replace h := iteT hc h
      refine AM.guard_no rfl rfl rfl rfl ?_
      refine AM.guard_no rfl rfl rfl rfl ?_
      refine AM.guard_no rfl rfl rfl rfl ?_
      refine AM.guard_no rfl rfl rfl rfl ?_
      refine AM.guard_no rfl rfl rfl rfl ?_
      refine AM.guard_no rfl rfl rfl rfl ?_
      refine AM.qv (q_pick_t rfl rfl) rfl ?_
      refine AM.qv (q_assign rfl) rfl ?_
      refine AM.nil ?_
      refine ARun.nil ?_
      refine ATodo.stop ?_
      exact ImpX.lessP (by exact ⟨rfl, True.intro⟩) (.nil) (ImpX.here ⟨true, h, rfl⟩)
  · rintro σ' ⟨c2, h, rfl⟩
    unfold Q_SeriesFault_1x_j1 at h
    refine ATodo.ret ?_
    obtain rfl := Option.some.inj h
    exact ImpX.here ⟨_, .cons (.tmp _ _ rfl) .nil, rfl⟩

set_option maxHeartbeats 4000000 in
theorem Q_SeriesFault_c {p0x0 : List Sample} {r : Int} (h : Q_SeriesFault p0x0 = some r) : Pu Try.prog 15 [.list 4 (p0x0.map Sample.av)] (I r) := by
  unfold Q_SeriesFault at h
  refine ACall.bodyN Try.func15 rfl Try.ntmps15 Try.results15 rfl rfl ?_
  refine ATodo.seq ?_
  refine ATodo.region ?_
  refine n_box rfl rfl rfl rfl (fun b1 => ?_)
  refine ARun.qv (q_assign rfl) rfl ?_
  refine ARun.nil ?_
  refine ATodo.seq ?_
  refine ATodo.seq ?_
  refine ATodo.region ?_
  refine ARun.qv (q_load_ptr rfl rfl .here rfl) rfl ?_
  obtain ⟨v2, e1, h⟩ := bnd h
  refine r_callp rfl (Q_SamplesFault_c e1) (CoL.refl _) rfl ?_
  refine ARun.qv (q_assign rfl) rfl ?_
  refine ARun.nil ?_
  refine ATodo.seq ?_
  refine ATodo.region ?_
  refine ARun.qv (q_move rfl) rfl ?_
  refine ARun.qv (q_neq rfl rfl) rfl ?_
  refine ARun.nil ?_
  refine ATodo.cond_d rfl (fun hc => ?_) (fun hc => ?_)
  · replace h := iteT hc h
    refine ATodo.seq ?_
    refine ATodo.region ?_
    refine ARun.qv (q_move rfl) rfl ?_
    refine ARun.qv (q_assign rfl) rfl ?_
    refine ARun.nil ?_
    refine ATodo.ret ?_
    obtain rfl := Option.some.inj h
    exact ImpX.here ⟨_, .cons (.tmp _ _ rfl) .nil, rfl⟩
  · replace h := iteF hc h
    refine ATodo.skip ?_
    refine ATodo.seq ?_
    refine ATodo.seq ?_
    refine ATodo.region ?_
    refine ARun.qv (q_load_ptr rfl rfl .here rfl) rfl ?_
    refine ARun.qv (q_makeFunc rfl) rfl ?_
    obtain ⟨v3, e2, h⟩ := bnd h
    refine r_callpB rfl (slices_ContainsFunc_Sample_Sample_c (fun e => Q_SeriesFault_1x_c e) e2) (.cons (.co (.refl _)) (.cons (.funcL _ _ _ (.cons (.boxL _ _ _ .here (.cons (.co (.refl _)) .nil)) .nil)) .nil)) rfl rfl ?_
    refine ARun.nil ?_
    refine ATodo.cond rfl (fun hc => ?_) (fun hc => ?_)
    · replace h := iteT hc h
      refine ATodo.seq ?_
      refine ATodo.region ?_
      refine ARun.qv (q_assign rfl) rfl ?_
      refine ARun.nil ?_
      refine ATodo.ret ?_
      obtain rfl := Option.some.inj h
      exact ImpX.here ⟨_, .cons (.tmp _ _ rfl) .nil, rfl⟩
    · replace h := iteFb hc h
      refine ATodo.skip ?_
      refine ATodo.seq ?_
      refine ATodo.region ?_
      refine ARun.qv (q_assign rfl) rfl ?_
      refine ARun.nil ?_
      refine ATodo.ret ?_
      obtain rfl := Option.some.inj h
      exact ImpX.here ⟨_, .cons (.tmp _ _ rfl) .nil, rfl⟩

set_option maxHeartbeats 4000000 in
theorem L_when_c {p0x0 : Bool} {p1x0 : Int} {r : Int} (h : L_when p0x0 p1x0 = r) : Pu Try.prog 17 [.bool p0x0, I p1x0] (I r) := by
  unfold L_when at h
  refine ACall.bodyN Try.func17 rfl Try.ntmps17 Try.results17 rfl rfl ?_
  refine ATodo.seq ?_
  refine ATodo.region ?_
  refine ARun.qv (q_assign rfl) rfl ?_
  refine ARun.nil ?_
  refine ATodo.seq ?_
  refine ATodo.seq ?_
  refine ATodo.region ?_
  refine ARun.qv (q_move rfl) rfl ?_
  refine ARun.nil ?_
  refine ATodo.cond rfl (fun hc => ?_) (fun hc => ?_)
  · replace h := iteT hc h
    refine ATodo.seq ?_
    refine ATodo.region ?_
    refine ARun.qv (q_move rfl) rfl ?_
    refine ARun.qv (q_assign rfl) rfl ?_
    refine ARun.nil ?_
    refine ATodo.ret ?_
    obtain rfl := h
    exact ImpX.here ⟨_, .cons (.tmp _ _ rfl) .nil, rfl⟩
  · replace h := iteFb hc h
    refine ATodo.skip ?_
    refine ATodo.seq ?_
    refine ATodo.region ?_
    refine ARun.qv (q_assign rfl) rfl ?_
    refine ARun.nil ?_
    refine ATodo.ret ?_
    obtain rfl := h
    exact ImpX.here ⟨_, .cons (.tmp _ _ rfl) .nil, rfl⟩

set_option maxHeartbeats 4000000 in
theorem L_errs_c {p0x0 : List Int} {r : Int} (h : L_errs p0x0 = some r) : Pu Try.prog 14 [.list 1 (p0x0.map I)] (I r) := by
  unfold L_errs at h
  refine ACall.bodyN Try.func14 rfl Try.ntmps14 Try.results14 rfl rfl ?_
  refine ATodo.seq ?_
  refine ATodo.region ?_
  refine ARun.qv (q_assign rfl) rfl ?_
  refine ARun.nil ?_
  refine ATodo.seq ?_
  refine ATodo.seq ?_
  refine ATodo.region ?_
  refine ARun.qv (q_move rfl) rfl ?_
  refine ARun.qv (t_len rfl) rfl ?_
  refine ARun.qv (q_move rfl) rfl ?_
  refine ARun.nil ?_
  refine ATodo.block ?_
  refine ATodo.loopI (fun x : Int => L_errs_b1 p0x0 x) (fun x σ' => σ' = ⟨15, [(5, .list 1 (p0x0.map I)), (6, I (p0x0.length : Int)), (7, I x)], []⟩) h ?_ ?_
  · exact ImpX.lessP (by exact ⟨rfl, rfl, rfl, True.intro⟩) (.nil) (ImpX.here rfl)
  · intro n2 z1 σ' J1 hmk h hJ1 hA1
    obtain rfl := hmk
    replace h : L_errs_b1 p0x0 n2 = some z1 := h
    unfold L_errs_b1 at h
    refine ATodo.seq ?_
    refine ATodo.region ?_
    refine ARun.qv (q_lss rfl rfl) rfl ?_
    refine ARun.nil ?_
    refine ATodo.seq ?_
    refine ATodo.cond_d rfl (fun hc => ?_) (fun hc => ?_)
    · replace h := iteT hc h
      refine ATodo.skip ?_
      refine ATodo.seq ?_
      refine ATodo.block ?_
      refine ATodo.seq ?_
      refine ATodo.region ?_
      obtain ⟨v3, e1, h⟩ := bnd h
      refine ARun.qv (t_index rfl rfl rfl e1 rfl rfl) rfl ?_
      refine ARun.qv (q_load_rptr rfl rfl rfl) rfl ?_
      refine ARun.qv (q_assign rfl) rfl ?_
      refine ARun.nil ?_
      refine ATodo.seq ?_
      refine ATodo.region ?_
      refine ARun.qv (q_move rfl) rfl ?_
      refine ARun.qv (q_neq rfl rfl) rfl ?_
      refine ARun.nil ?_
      refine ATodo.cond_d rfl (fun hc => ?_) (fun hc => ?_)
      · replace h := iteT hc h
        refine ATodo.seq ?_
        refine ATodo.region ?_
        refine ARun.qv (q_move rfl) rfl ?_
        refine ARun.qv (q_assign rfl) rfl ?_
        refine ARun.nil ?_
        refine ATodo.ret ?_
        replace h := outL h hA1
        obtain rfl := Option.some.inj h
        exact ImpX.here ⟨_, .cons (.tmp _ _ rfl) .nil, rfl⟩
      · replace h := iteF hc h
        refine ATodo.skip ?_
        refine ATodo.blk ?_
        refine ATodo.region ?_
        refine ARun.qv (q_addw rfl rfl) rfl ?_
        refine ARun.qv (q_move rfl) rfl ?_
        refine ARun.nil ?_
        refine ATodo.stop ?_
        obtain rfl := Option.some.inj h
        refine hJ1 _ _ rfl ?_
        exact ImpX.lessP (by exact ⟨rfl, rfl, rfl, True.intro⟩) (.nil) (ImpX.here rfl)
    · replace h := iteF hc h
      refine ATodo.exit rfl ?_
      replace h := outL h hA1
      refine ATodo.seq ?_
      refine ATodo.region ?_
      refine ARun.qv (q_assign rfl) rfl ?_
      refine ARun.nil ?_
      refine ATodo.ret ?_
      obtain rfl := Option.some.inj h
      exact ImpX.here ⟨_, .cons (.tmp _ _ rfl) .nil, rfl⟩

set_option maxHeartbeats 4000000 in
theorem Q_takeSeven_c {p0x0 : List Int} {r : Int × (List Int) × Bool} (h : Q_takeSeven p0x0 = some r) : Pu Try.prog 85 [.list 1 (p0x0.map (AV.int .u8))] (.tup [I r.1, .list 1 (r.2.1.map (AV.int .u8)), .bool r.2.2]) := by
  unfold Q_takeSeven at h
  refine ACall.bodyN Try.func85 rfl Try.ntmps85 Try.results85 rfl rfl ?_
  refine ATodo.seq ?_
  refine ATodo.region ?_
  refine ARun.qv (q_assign rfl) rfl ?_
  refine ARun.qv (q_assign rfl) rfl ?_
  refine ARun.qv (q_assign rfl) rfl ?_
  refine ARun.nil ?_
  refine ATodo.seq ?_
  refine ATodo.region ?_
  refine ARun.qv (q_assign rfl) rfl ?_
  refine ARun.nil ?_
  refine ATodo.seq ?_
  refine ATodo.seq ?_
  refine ATodo.region ?_
  refine ARun.qv (q_move rfl) rfl ?_
  refine ARun.qv (t_len rfl) rfl ?_
  refine ARun.qv (q_move rfl) rfl ?_
  refine ARun.nil ?_
  refine ATodo.block ?_
  refine ATodo.loopI (fun x : Int × Int => Q_takeSeven_b1 p0x0 x.1 x.2) (fun x σ' => σ' = ⟨33, [(0, .list 1 (p0x0.map (AV.int .u8))), (5, I x.1), (8, .list 1 (p0x0.map (AV.int .u8))), (9, I (p0x0.length : Int)), (10, I x.2)], []⟩) h ?_ ?_
  · exact ImpX.lessP (by exact ⟨rfl, rfl, rfl, rfl, rfl, True.intro⟩) (.nil) (ImpX.here rfl)
  · intro x z1 σ' J1 hmk h hJ1 hA1
    obtain ⟨n3, n4⟩ := x
    obtain rfl := hmk
    replace h : Q_takeSeven_b1 p0x0 n3 n4 = some z1 := h
    unfold Q_takeSeven_b1 at h
    refine ATodo.seq ?_
    refine ATodo.region ?_
    refine ARun.qv (q_lss rfl rfl) rfl ?_
    refine ARun.nil ?_
    refine ATodo.seq ?_
    refine ATodo.cond_d rfl (fun hc => ?_) (fun hc => ?_)
    · replace h := iteT hc h
      refine ATodo.skip ?_
      refine ATodo.seq ?_
      refine ATodo.block ?_
      refine ATodo.seq ?_
      refine ATodo.region ?_
      refine ARun.qv (q_move rfl) rfl ?_
      obtain ⟨v5, e1, h⟩ := bnd h
      refine ARun.qv (t_index rfl rfl rfl e1 rfl rfl) rfl ?_
      refine ARun.qv (q_load_rptr rfl rfl rfl) rfl ?_
      refine ARun.qv (q_assign rfl) rfl ?_
      refine ARun.qv (q_assign rfl) rfl ?_
      refine ARun.nil ?_
      refine ATodo.seq ?_
      refine ATodo.seq ?_
      refine ATodo.region ?_
      refine ARun.qv (q_move rfl) rfl ?_
      refine ARun.qv (q_gtr rfl rfl) rfl ?_
      refine ARun.nil ?_
      refine ATodo.cond_d rfl (fun hc => ?_) (fun hc => ?_)
      · replace h := iteT hc h
        refine ATodo.seq ?_
        refine ATodo.region ?_
        refine ARun.qv (q_assign rfl) rfl ?_
        refine ARun.qv (q_assign rfl) rfl ?_
        refine ARun.qv (q_assign rfl) rfl ?_
        refine ARun.nil ?_
        refine ATodo.ret ?_
        replace h := outL h hA1
        obtain rfl := Option.some.inj h
        refine ImpX.co (s := 3) rfl (.nil 1) ?_
        exact ImpX.here ⟨_, .cons (.tmp _ _ rfl) (.cons (.tmp _ _ rfl) (.cons (.tmp _ _ rfl) .nil)), rfl⟩
      · replace h := iteF hc h
        refine ATodo.skip ?_
        refine ATodo.seq ?_
        refine ATodo.region ?_
        refine ARun.qv (q_move rfl) rfl ?_
        refine ARun.qv (q_move rfl) rfl ?_
        refine ARun.qv (t_and rfl rfl) rfl ?_
        refine ARun.qv (q_conv_int rfl) rfl ?_
        refine ARun.qv (q_move rfl) rfl ?_
        refine ARun.qv (q_mulw rfl rfl) rfl ?_
        obtain ⟨n6, e2, h⟩ := bnd h
        refine ARun.qv (t_shlS rfl rfl e2) rfl ?_
        refine ARun.qv (q_addw rfl rfl) rfl ?_
        refine ARun.qv (q_assign rfl) rfl ?_
        refine ARun.nil ?_
        refine ATodo.seq ?_
        refine ATodo.region ?_
        refine ARun.qv (q_move rfl) rfl ?_
        refine ARun.qv (q_lss rfl rfl) rfl ?_
        refine ARun.nil ?_
        refine ATodo.cond_d rfl (fun hc => ?_) (fun hc => ?_)
        · replace h := iteT hc h
          refine ATodo.seq ?_
          refine ATodo.regionM (id := 9) (A := [0, 0, 0, 4, 14, 1, 63, 127]) 8 mixed rfl (by kernel_rfl) (by kernel_rfl) ?_
          refine AM.qv (q_move rfl) rfl ?_
          refine AM.qv (q_move rfl) rfl ?_
          refine AM.qv (q_move rfl) rfl ?_
          refine AM.qv (q_addw rfl rfl) rfl ?_
          obtain ⟨l7, e3, h⟩ := bnd h
          refine AM.qv (t_slice_list rfl rfl (.some _ _ _ rfl) .none rfl rfl e3) rfl ?_
          refine AM.qv (q_assign rfl) rfl ?_
          refine AM.qv (q_assign rfl) rfl ?_
          refine AM.qv (q_assign rfl) rfl ?_
          refine AM.nil ?_
          refine ARun.nil ?_
          refine ATodo.ret ?_
          replace h := outL h hA1
          obtain rfl := Option.some.inj h
          exact ImpX.here ⟨_, .cons (.tmp _ _ rfl) (.cons (.tmp _ _ rfl) (.cons (.tmp _ _ rfl) .nil)), rfl⟩
        · replace h := iteF hc h
          refine ATodo.skip ?_
          refine ATodo.blk ?_
          refine ATodo.region ?_
          refine ARun.qv (q_addw rfl rfl) rfl ?_
          refine ARun.qv (q_move rfl) rfl ?_
          refine ARun.nil ?_
          refine ATodo.stop ?_
          obtain rfl := Option.some.inj h
          refine hJ1 _ _ rfl ?_
          exact ImpX.lessP (by exact ⟨rfl, rfl, rfl, rfl, rfl, True.intro⟩) (.nil) (ImpX.here rfl)
    · replace h := iteF hc h
      refine ATodo.exit rfl ?_
      replace h := outL h hA1
      refine ATodo.seq ?_
      refine ATodo.region ?_
      refine ARun.qv (q_assign rfl) rfl ?_
      refine ARun.qv (q_assign rfl) rfl ?_
      refine ARun.qv (q_assign rfl) rfl ?_
      refine ARun.nil ?_
      refine ATodo.ret ?_
      obtain rfl := Option.some.inj h
      refine ImpX.co (s := 3) rfl (.nil 1) ?_
      exact ImpX.here ⟨_, .cons (.tmp _ _ rfl) (.cons (.tmp _ _ rfl) (.cons (.tmp _ _ rfl) .nil)), rfl⟩

set_option maxHeartbeats 4000000 in
theorem Q_back_c {p0x0 : Int} {r : Int} (h : Q_back p0x0 = r) : Pu Try.prog 86 [I p0x0] (I r) := by
  unfold Q_back at h
  refine ACall.bodyN Try.func86 rfl Try.ntmps86 Try.results86 rfl rfl ?_
  refine ATodo.seq ?_
  refine ATodo.region ?_
  refine ARun.qv (q_assign rfl) rfl ?_
  refine ARun.nil ?_
  refine ATodo.seq ?_
  refine ATodo.seq ?_
  refine ATodo.region ?_
  refine ARun.qv (q_move rfl) rfl ?_
  refine ARun.qv (q_rem rfl rfl (by decide)) rfl ?_
  refine ARun.qv (q_eql rfl rfl) rfl ?_
  refine ARun.nil ?_
  refine ATodo.cond_d rfl (fun hc => ?_) (fun hc => ?_)
  · replace h := iteT hc h
    refine ATodo.seq ?_
    refine ATodo.region ?_
    refine ARun.qv (q_move rfl) rfl ?_
    refine ARun.qv (q_addw rfl rfl) rfl ?_
    refine ARun.qv (t_negw rfl) rfl ?_
    refine ARun.qv (t_quo rfl rfl (by decide)) rfl ?_
    refine ARun.qv (q_assign rfl) rfl ?_
    refine ARun.nil ?_
    refine ATodo.ret ?_
    obtain rfl := h
    exact ImpX.here ⟨_, .cons (.tmp _ _ rfl) .nil, rfl⟩
  · replace h := iteF hc h
    refine ATodo.skip ?_
    refine ATodo.seq ?_
    refine ATodo.region ?_
    refine ARun.qv (q_move rfl) rfl ?_
    refine ARun.qv (t_quo rfl rfl (by decide)) rfl ?_
    refine ARun.qv (q_assign rfl) rfl ?_
    refine ARun.nil ?_
    refine ATodo.ret ?_
    obtain rfl := h
    exact ImpX.here ⟨_, .cons (.tmp _ _ rfl) .nil, rfl⟩

set_option maxHeartbeats 4000000 in
theorem Q_UnpackOf_c {p0x0 : List Int} {p1x0 : Str} {p2x0 : Str} {r : (List Sample) × Int} (h : Q_UnpackOf p0x0 p1x0 p2x0 = some r) : Pu Try.prog 27 [.list 1 (p0x0.map (AV.int .u8)), .str p1x0, .str p2x0] (.tup [.list 4 (r.1.map Sample.av), I r.2]) := by
  unfold Q_UnpackOf at h
  refine ACall.bodyN Try.func27 rfl Try.ntmps27 Try.results27 rfl rfl ?_
  refine ATodo.seq ?_
  refine ATodo.region ?_
  refine ARun.qv (q_assign rfl) rfl ?_
  refine ARun.qv (q_assign rfl) rfl ?_
  refine ARun.nil ?_
  refine ATodo.seq ?_
  refine ATodo.region ?_
  refine ARun.qv (q_move rfl) rfl ?_
  obtain ⟨v1, e1, h⟩ := bnd h
  refine r_callp rfl (Q_takeSeven_c e1) (CoL.refl _) rfl ?_
  refine ARun.qv (q_move rfl) rfl ?_
  refine ARun.qv (q_extract rfl rfl) rfl ?_
  refine ARun.qv (q_extract rfl rfl) rfl ?_
  refine ARun.qv (q_extract rfl rfl) rfl ?_
  refine ARun.qv (q_assign rfl) rfl ?_
  refine ARun.qv (q_assign rfl) rfl ?_
  refine ARun.qv (q_assign rfl) rfl ?_
  refine ARun.nil ?_
  refine ATodo.seq ?_
  refine ATodo.region ?_
  refine ARun.qv (q_assign rfl) rfl ?_
  refine ARun.nil ?_
  refine ATodo.seq ?_
  refine ATodo.region ?_
  refine ARun.qv (q_assign rfl) rfl ?_
  refine ARun.qv (q_assign rfl) rfl ?_
  refine ARun.qv (q_assign rfl) rfl ?_
  refine ARun.nil ?_
  refine ATodo.seq ?_
  refine ATodo.seq ?_
  refine ATodo.region ?_
  refine ARun.qv (q_assign rfl) rfl ?_
  refine ARun.nil ?_
  refine ATodo.cut (fun σ' => ∃ (b3 : Bk) (c2 : Bool) (l4 : List Sample), Q_UnpackOf_j1 p0x0 c2 l4 = some r ∧ σ' = ⟨96, [(0, .list 1 (p0x0.map (AV.int .u8))), (10, .bool c2), (11, .sl 4 b3 0 l4.length)], [(b3, .arr 4 (l4.map Sample.av))]⟩) ?_ ?_
  · refine ATodo.block ?_
    refine ATodo.loopI (fun x : (List Int) × Bool × (List Sample) × Int × Int × Int × Int => Q_UnpackOf_b1 p0x0 p1x0 p2x0 v1 x.1 x.2.1 x.2.2.1 x.2.2.2.1 x.2.2.2.2.1 x.2.2.2.2.2.1 x.2.2.2.2.2.2) (fun x σ' => ∃ (b15 : Bk), σ' = ⟨96, [(0, .list 1 (p0x0.map (AV.int .u8))), (1, .str p1x0), (2, .str p2x0), (8, I v1.1), (9, .list 1 (x.1.map (AV.int .u8))), (10, .bool x.2.1), (11, .sl 4 b15 0 x.2.2.1.length), (12, I x.2.2.2.1), (13, I x.2.2.2.2.1), (14, I x.2.2.2.2.2.1), (15, I x.2.2.2.2.2.2)], [(b15, .arr 4 (x.2.2.1.map Sample.av))]⟩) h ?_ ?_
    · refine ImpX.arr (s := 11) 4 rfl (fun b21 => ?_)
      exact ImpX.lessP (by exact ⟨rfl, rfl, rfl, rfl, rfl, rfl, rfl, rfl, rfl, rfl, rfl, True.intro⟩) (.cons .here .nil) (ImpX.here ⟨b21, rfl⟩)
    · intro x z1 σ' J1 hmk h hJ1 hA1
      obtain ⟨l13, c14, l16, n17, n18, n19, n20⟩ := x
      obtain ⟨b15, rfl⟩ := hmk
      replace h : Q_UnpackOf_b1 p0x0 p1x0 p2x0 v1 l13 c14 l16 n17 n18 n19 n20 = some z1 := h
      unfold Q_UnpackOf_b1 at h
      refine ATodo.seq ?_
      refine ATodo.seq ?_
      refine ATodo.cut (fun σ' => ∃ (c22 : Bool), Q_UnpackOf_j2 p0x0 p1x0 p2x0 l13 c14 l16 n17 n18 n19 n20 c22 = some z1 ∧ σ' = ⟨96, [(0, .list 1 (p0x0.map (AV.int .u8))), (1, .str p1x0), (2, .str p2x0), (8, I v1.1), (9, .list 1 (l13.map (AV.int .u8))), (10, .bool c14), (11, .sl 4 b15 0 l16.length), (12, I n17), (13, I n18), (14, I n19), (15, I n20), (34, .bool c22)], [(b15, .arr 4 (l16.map Sample.av))]⟩) ?_ ?_
      · refine ATodo.region ?_
        refine ARun.qv (q_move rfl) rfl ?_
        refine ARun.qv (q_move rfl) rfl ?_
        refine ARun.guard rfl rfl rfl (fun hc => ?_) (fun hc => ?_)
        · rw [andTb hc] at h
          refine ARun.qv (q_move rfl) rfl ?_
          refine ARun.guard_yes rfl rfl rfl ?_
          refine ARun.qv (q_move rfl) rfl ?_
          refine ARun.guard_yes rfl rfl rfl ?_
          refine ARun.qv (q_lss rfl rfl) rfl ?_
          refine ARun.qv (q_pick_t rfl rfl) rfl ?_
          refine ARun.qv (q_move rfl) rfl ?_
          refine ARun.guard_dt rfl rfl rfl (fun hc => ?_) (fun hc => ?_)
          · rw [andTd hc] at h
            refine ARun.qv (q_move rfl) rfl ?_
            refine ARun.guard_yes rfl rfl rfl ?_
            refine ARun.qv (q_leq rfl rfl) rfl ?_
            refine ARun.qv (q_pick_t rfl rfl) rfl ?_
            refine ARun.nil ?_
            refine ATodo.stop ?_
            exact ImpX.lessP (by exact ⟨rfl, rfl, rfl, rfl, rfl, rfl, rfl, rfl, rfl, rfl, rfl, rfl, True.intro⟩) (.cons .here .nil) (ImpX.here ⟨decide (n20 ≤ (5000 : Int)), h, rfl⟩)
          · rw [andFd hc] at h
            refine ARun.guard_no rfl rfl rfl rfl ?_
            refine ARun.qv (q_pick_f rfl rfl) rfl ?_
            refine ARun.nil ?_
            refine ATodo.stop ?_
            exact ImpX.lessP (by exact ⟨rfl, rfl, rfl, rfl, rfl, rfl, rfl, rfl, rfl, rfl, rfl, rfl, True.intro⟩) (.cons .here .nil) (ImpX.here ⟨false, h, rfl⟩)
        · rw [andFb hc] at h
          refine ARun.guard_no rfl rfl rfl rfl ?_
          refine ARun.guard_no rfl rfl rfl rfl ?_
          refine ARun.qv (q_pick_f rfl rfl) rfl ?_
          refine ARun.qv (q_move rfl) rfl ?_
          refine ARun.guard_no rfl rfl rfl rfl ?_
          refine ARun.guard_no rfl rfl rfl rfl ?_
          refine ARun.qv (q_pick_f rfl rfl) rfl ?_
          refine ARun.nil ?_
          refine ATodo.stop ?_
          exact ImpX.lessP (by exact ⟨rfl, rfl, rfl, rfl, rfl, rfl, rfl, rfl, rfl, rfl, rfl, rfl, True.intro⟩) (.cons .here .nil) (ImpX.here ⟨false, h, rfl⟩)
      · rintro σ' ⟨c22, h, rfl⟩
        unfold Q_UnpackOf_j2 at h
        refine ATodo.cond rfl (fun hc => ?_) (fun hc => ?_)
        · replace h := iteT hc h
          refine ATodo.skip ?_
          refine ATodo.seq ?_
          refine ATodo.block ?_
          refine ATodo.seq ?_
          refine ATodo.region ?_
          refine ARun.qv (q_assign rfl) rfl ?_
          refine ARun.qv (q_assign rfl) rfl ?_
          refine ARun.nil ?_
          refine ATodo.seq ?_
          refine ATodo.seq ?_
          refine ATodo.region ?_
          refine ARun.qv (q_move rfl) rfl ?_
          obtain ⟨v23, e2, h⟩ := bnd h
          refine r_callp rfl (Q_takeSeven_c e2) (CoL.refl _) rfl ?_
          refine ARun.qv (q_move rfl) rfl ?_
          refine ARun.qv (q_extract rfl rfl) rfl ?_
          refine ARun.qv (q_extract rfl rfl) rfl ?_
          refine ARun.qv (q_extract rfl rfl) rfl ?_
          refine ARun.qv (q_assign rfl) rfl ?_
          refine ARun.qv (q_assign rfl) rfl ?_
          refine ARun.qv (q_assign rfl) rfl ?_
          refine ARun.nil ?_
          refine ATodo.seq ?_
          refine ATodo.region ?_
          refine ARun.qv (q_move rfl) rfl ?_
          refine ARun.qv (q_not rfl) rfl ?_
          refine ARun.nil ?_
          refine ATodo.cond rfl (fun hc => ?_) (fun hc => ?_)
          · replace h := iteT hc h
            refine ATodo.exit rfl ?_
            replace h := outL h hA1
            refine ATodo.stop ?_
            exact ImpX.lessP (by exact ⟨rfl, rfl, rfl, True.intro⟩) (.cons .here .nil) (ImpX.here ⟨b15, v23.2.2, l16, h, rfl⟩)
          · replace h := iteFb hc h
            refine ATodo.skip ?_
            refine ATodo.seq ?_
            refine ATodo.seq ?_
            refine ATodo.region ?_
            refine ARun.qv (q_move rfl) rfl ?_
            obtain ⟨v24, e3, h⟩ := bnd h
            refine r_callp rfl (Q_takeSeven_c e3) (CoL.refl _) rfl ?_
            refine ARun.qv (q_move rfl) rfl ?_
            refine ARun.qv (q_extract rfl rfl) rfl ?_
            refine ARun.qv (q_extract rfl rfl) rfl ?_
            refine ARun.qv (q_extract rfl rfl) rfl ?_
            refine ARun.qv (q_assign rfl) rfl ?_
            refine ARun.qv (q_assign rfl) rfl ?_
            refine ARun.qv (q_assign rfl) rfl ?_
            refine ARun.nil ?_
            refine ATodo.seq ?_
            refine ATodo.region ?_
            refine ARun.qv (q_move rfl) rfl ?_
            refine ARun.qv (q_not rfl) rfl ?_
            refine ARun.nil ?_
            refine ATodo.cond rfl (fun hc => ?_) (fun hc => ?_)
            · replace h := iteT hc h
              refine ATodo.exit rfl ?_
              replace h := outL h hA1
              refine ATodo.stop ?_
              exact ImpX.lessP (by exact ⟨rfl, rfl, rfl, True.intro⟩) (.cons .here .nil) (ImpX.here ⟨b15, v24.2.2, l16, h, rfl⟩)
            · replace h := iteFb hc h
              refine ATodo.skip ?_
              refine ATodo.seq ?_
              refine ATodo.region ?_
              refine ARun.qv (q_move rfl) rfl ?_
              refine r_callp rfl (Q_back_c rfl) (CoL.refl _) rfl ?_
              refine ARun.qv (q_move rfl) rfl ?_
              refine ARun.qv (q_addw rfl rfl) rfl ?_
              refine ARun.qv (q_assign rfl) rfl ?_
              refine ARun.nil ?_
              refine ATodo.seq ?_
              refine ATodo.region ?_
              refine ARun.qv (q_move rfl) rfl ?_
              refine ARun.qv (q_move rfl) rfl ?_
              refine ARun.qv (q_addw rfl rfl) rfl ?_
              refine ARun.qv (q_move rfl) rfl ?_
              refine ARun.qv (q_move rfl) rfl ?_
              refine r_callp rfl (Q_back_c rfl) (CoL.refl _) rfl ?_
              refine ARun.qv (q_addw rfl rfl) rfl ?_
              refine ARun.qv (q_move rfl) rfl ?_
              refine ARun.qv (q_assign rfl) rfl ?_
              refine ARun.qv (q_assign rfl) rfl ?_
              refine ARun.qv (q_assign rfl) rfl ?_
              refine ARun.nil ?_
              refine ATodo.seq ?_
              refine ATodo.seq ?_
              refine ATodo.region ?_
              refine ARun.qv (q_move rfl) rfl ?_
              refine ARun.qv (q_eql rfl rfl) rfl ?_
              refine ARun.nil ?_
              refine ATodo.cut (fun σ' => ∃ (n25 : Int), Q_UnpackOf_j3 p1x0 p2x0 l16 n17 n18 n19 n20 v23 v24 n25 = some z1 ∧ σ' = ⟨96, [(0, .list 1 (p0x0.map (AV.int .u8))), (1, .str p1x0), (2, .str p2x0), (8, I v1.1), (9, .list 1 (v24.2.1.map (AV.int .u8))), (11, .sl 4 b15 0 l16.length), (12, I (w64 (n17 + (w64 ((Q_back v23.1) + n18))))), (13, I n25), (14, I (w64 (n19 + (Q_back v24.1)))), (15, I n20)], [(b15, .arr 4 (l16.map Sample.av))]⟩) ?_ ?_
              · refine ATodo.cond_d rfl (fun hc => ?_) (fun hc => ?_)
                · replace h := iteT hc h
                  refine ATodo.region ?_
                  refine ARun.qv (q_assign rfl) rfl ?_
                  refine ARun.nil ?_
                  refine ATodo.stop ?_
                  exact ImpX.lessP (by exact ⟨rfl, rfl, rfl, rfl, rfl, rfl, rfl, rfl, rfl, rfl, True.intro⟩) (.cons .here .nil) (ImpX.here ⟨(0 : Int), h, rfl⟩)
                · replace h := iteF hc h
                  refine ATodo.skip ?_
                  refine ATodo.stop ?_
                  exact ImpX.lessP (by exact ⟨rfl, rfl, rfl, rfl, rfl, rfl, rfl, rfl, rfl, rfl, True.intro⟩) (.cons .here .nil) (ImpX.here ⟨w64 ((Q_back v23.1) + n18), h, rfl⟩)
              · rintro σ' ⟨n25, h, rfl⟩
                unfold Q_UnpackOf_j3 at h
                refine ATodo.seq ?_
                refine ATodo.region ?_
                refine ARun.qv (q_move rfl) rfl ?_
                refine ARun.qv (q_move rfl) rfl ?_
                refine ARun.qv (q_move rfl) rfl ?_
                refine ARun.qv (q_move rfl) rfl ?_
                refine ARun.qv (q_move rfl) rfl ?_
                refine ARun.qv (n_build rfl rfl rfl rfl rfl) rfl ?_
                refine n_buildSliceL (xs := ([(⟨p1x0, p2x0, w64 (n17 + (w64 ((Q_back v23.1) + n18))), w64 (n19 + (Q_back v24.1))⟩ : Sample)]).map Sample.av) rfl rfl rfl rfl rfl rfl ?_
                obtain ⟨l26, e4, h⟩ := bnd h
                refine t_append (g := Sample.av) rfl rfl rfl rfl rfl rfl rfl rfl (.list _) e4 (fun _ => .here) rfl (fun b27 => ?_)
                refine ARun.qv (q_assign rfl) rfl ?_
                refine ARun.nil ?_
                refine ATodo.cut (fun σ' => ∃ (c28 : Bool), Q_UnpackOf_j4 n17 n18 n19 n20 v23 v24 n25 l26 c28 = some z1 ∧ σ' = ⟨96, [(0, .list 1 (p0x0.map (AV.int .u8))), (1, .str p1x0), (2, .str p2x0), (8, I v1.1), (9, .list 1 (v24.2.1.map (AV.int .u8))), (10, .bool c28), (11, .sl 4 b27 0 l26.length), (12, I (w64 (n17 + (w64 ((Q_back v23.1) + n18))))), (13, I n25), (14, I (w64 (n19 + (Q_back v24.1)))), (15, I n20)], [(b27, .arr 4 (l26.map Sample.av))]⟩) ?_ ?_
                · refine ATodo.region ?_
                  refine ARun.qv (q_move rfl) rfl ?_
                  refine r_callp rfl (Q_Moment_c rfl) (CoL.refl _) rfl ?_
                  refine ARun.qv (q_move rfl) rfl ?_
                  refine ARun.guard rfl rfl rfl (fun hc => ?_) (fun hc => ?_)
                  · rw [andTb hc] at h
                    refine ARun.qv (q_move rfl) rfl ?_
                    refine ARun.guard_yes rfl rfl rfl ?_
                    refine r_callp rfl (Q_in_c rfl) (CoL.refl _) rfl ?_
                    refine ARun.qv (q_pick_t rfl rfl) rfl ?_
                    refine ARun.qv (q_assign rfl) rfl ?_
                    refine ARun.nil ?_
                    refine ATodo.stop ?_
                    exact ImpX.lessP (by exact ⟨rfl, rfl, rfl, rfl, rfl, rfl, rfl, rfl, rfl, rfl, rfl, True.intro⟩) (.cons .here .nil) (ImpX.here ⟨(Q_in (w64 (n19 + (Q_back v24.1))) (-1000000000 : Int) (1000000000 : Int)), h, rfl⟩)
                  · rw [andFb hc] at h
                    refine ARun.guard_no rfl rfl rfl rfl ?_
                    refine ARun.qv (q_pick_f rfl rfl) rfl ?_
                    refine ARun.qv (q_assign rfl) rfl ?_
                    refine ARun.nil ?_
                    refine ATodo.stop ?_
                    exact ImpX.lessP (by exact ⟨rfl, rfl, rfl, rfl, rfl, rfl, rfl, rfl, rfl, rfl, rfl, True.intro⟩) (.cons .here .nil) (ImpX.here ⟨false, h, rfl⟩)
                · rintro σ' ⟨c28, h, rfl⟩
                  unfold Q_UnpackOf_j4 at h
                  refine ATodo.blk ?_
                  refine ATodo.region ?_
                  refine ARun.qv (q_move rfl) rfl ?_
                  refine ARun.qv (q_addw rfl rfl) rfl ?_
                  refine ARun.qv (q_assign rfl) rfl ?_
                  refine ARun.nil ?_
                  refine ATodo.stop ?_
                  obtain rfl := Option.some.inj h
                  refine hJ1 _ _ rfl ?_
                  exact ImpX.lessP (by exact ⟨rfl, rfl, rfl, rfl, rfl, rfl, rfl, rfl, rfl, rfl, rfl, True.intro⟩) (.cons .here .nil) (ImpX.here ⟨b27, rfl⟩)
        · replace h := iteFb hc h
          refine ATodo.exit rfl ?_
          replace h := outL h hA1
          refine ATodo.stop ?_
          exact ImpX.lessP (by exact ⟨rfl, rfl, rfl, True.intro⟩) (.cons .here .nil) (ImpX.here ⟨b15, c14, l16, h, rfl⟩)
  · rintro σ' ⟨b3, c2, l4, h, rfl⟩
    unfold Q_UnpackOf_j1 at h
    refine ATodo.seq ?_
    refine ATodo.seq ?_
    refine ATodo.cut (fun σ' => ∃ (c29 : Bool), Q_UnpackOf_j5 l4 c29 = some r ∧ σ' = ⟨96, [(11, .sl 4 b3 0 l4.length), (94, .bool c29)], [(b3, .fro 4 (l4.map Sample.av))]⟩) ?_ ?_
    · refine ATodo.region ?_
      refine ARun.qv (q_move rfl) rfl ?_
      refine ARun.qv (q_not rfl) rfl ?_
      refine ARun.qv (q_move rfl) rfl ?_
      refine ARun.guard rfl rfl rfl (fun hc => ?_) (fun hc => ?_)
      · replace h := iteFb hc h
        refine ARun.qv (q_move rfl) rfl ?_
        refine ARun.guard_yes rfl rfl rfl ?_
        obtain ⟨v30, e5, h⟩ := bnd h
        refine r_callpB rfl (Q_SeriesFault_c e5) (.cons (CoB.arrT .here) .nil) rfl rfl ?_
        refine ARun.guard_yes rfl rfl rfl ?_
        refine ARun.qv (q_neq rfl rfl) rfl ?_
        refine ARun.qv (q_pick_f rfl rfl) rfl ?_
        refine ARun.qv (q_move rfl) rfl ?_
        refine ARun.guard_df rfl rfl rfl (fun hc => ?_) (fun hc => ?_)
        · replace h := iteF hc h
          refine ARun.qv (q_move rfl) rfl ?_
          refine ARun.guard_yes rfl rfl rfl ?_
          obtain ⟨v31, e6, h⟩ := bnd h
          refine ARun.ghost (ImpX.freeze .here (ImpX.here ?_))
          refine t_call1 rfl (Q_PackOf_c e6) (.cons (Co.froT .here) .nil) .nil (fun _ => rfl) rfl (fun b32 => ?_)
          refine ARun.guard_yes rfl rfl rfl ?_
          refine ARun.qv (q_move rfl) rfl ?_
          refine ARun.guard_yes rfl rfl rfl ?_
          obtain ⟨v33, e7, h⟩ := bnd h
          refine r_callpB rfl (slices_Equal_byte_byte_c e7) (.cons (CoB.arrT .here) (.cons (.co (.refl _)) .nil)) rfl rfl ?_
          refine ARun.guard_yes rfl rfl rfl ?_
          refine ARun.qv (q_not rfl) rfl ?_
          refine ARun.qv (q_pick_f rfl rfl) rfl ?_
          refine ARun.nil ?_
          refine ATodo.stop ?_
          exact ImpX.lessP (by exact ⟨rfl, rfl, True.intro⟩) (.cons (.next .here) .nil) (ImpX.here ⟨!v33, h, rfl⟩)
        · replace h := iteT hc h
          refine ARun.guard_no rfl rfl rfl rfl ?_
          refine ARun.guard_no rfl rfl rfl rfl ?_
          refine ARun.guard_no rfl rfl rfl rfl ?_
          refine ARun.guard_no rfl rfl rfl rfl ?_
          refine ARun.qv (q_pick_t rfl rfl) rfl ?_
          refine ARun.nil ?_
          refine ATodo.stop ?_
          refine ImpX.freeze .here ?_
          exact ImpX.lessP (by exact ⟨rfl, rfl, True.intro⟩) (.cons .here .nil) (ImpX.here ⟨true, h, rfl⟩)
      · replace h := iteT hc h
        refine ARun.guard_no rfl rfl rfl rfl ?_
        refine ARun.guard_no rfl rfl rfl rfl ?_
        refine ARun.qv (q_pick_t rfl rfl) rfl ?_
        refine ARun.qv (q_move rfl) rfl ?_
        refine ARun.guard_no rfl rfl rfl rfl ?_
        refine ARun.guard_no rfl rfl rfl rfl ?_
        refine ARun.guard_no rfl rfl rfl rfl ?_
        refine ARun.guard_no rfl rfl rfl rfl ?_
        refine ARun.guard_no rfl rfl rfl rfl ?_
        refine ARun.qv (q_pick_t rfl rfl) rfl ?_
        refine ARun.nil ?_
        refine ATodo.stop ?_
        refine ImpX.freeze .here ?_
        exact ImpX.lessP (by exact ⟨rfl, rfl, True.intro⟩) (.cons .here .nil) (ImpX.here ⟨true, h, rfl⟩)
    · rintro σ' ⟨c29, h, rfl⟩
      unfold Q_UnpackOf_j5 at h
      refine ATodo.cond rfl (fun hc => ?_) (fun hc => ?_)
      · replace h := iteT hc h
        refine ATodo.seq ?_
        refine ATodo.region ?_
        refine ARun.qv (q_assign rfl) rfl ?_
        refine ARun.qv (q_assign rfl) rfl ?_
        refine ARun.nil ?_
        refine ATodo.ret ?_
        obtain rfl := Option.some.inj h
        refine ImpX.co (s := 6) rfl (.nil 4) ?_
        exact ImpX.here ⟨_, .cons (.tmp _ _ rfl) (.cons (.tmp _ _ rfl) .nil), rfl⟩
      · replace h := iteFb hc h
        refine ATodo.skip ?_
        refine ATodo.seq ?_
        refine ATodo.region ?_
        refine ARun.qv (q_move rfl) rfl ?_
        refine ARun.qv (q_assign rfl) rfl ?_
        refine ARun.qv (q_assign rfl) rfl ?_
        refine ARun.nil ?_
        refine ATodo.ret ?_
        obtain rfl := Option.some.inj h
        refine ImpX.co (s := 6) rfl (Co.froT .here) ?_
        exact ImpX.here ⟨_, .cons (.tmp _ _ rfl) (.cons (.tmp _ _ rfl) .nil), rfl⟩

set_option maxHeartbeats 4000000 in
theorem slices_Equal_Sample_Sample_c {p0x0 : List Sample} {p1x0 : List Sample} {r : Bool} (h : slices_Equal_Sample_Sample p0x0 p1x0 = some r) : Pu Try.prog 19 [.list 4 (p0x0.map Sample.av), .list 4 (p1x0.map Sample.av)] (.bool r) := by
  unfold slices_Equal_Sample_Sample at h
  refine ACall.bodyN Try.func19 rfl Try.ntmps19 Try.results19 rfl rfl ?_
  refine ATodo.seq ?_
  refine ATodo.region ?_
  refine ARun.qv (q_assign rfl) rfl ?_
  refine ARun.nil ?_
  refine ATodo.seq ?_
  refine ATodo.seq ?_
  refine ATodo.region ?_
  refine ARun.qv (q_move rfl) rfl ?_
  refine ARun.qv (t_len rfl) rfl ?_
  refine ARun.qv (q_move rfl) rfl ?_
  refine ARun.qv (t_len rfl) rfl ?_
  refine ARun.qv (q_neq rfl rfl) rfl ?_
  refine ARun.nil ?_
  refine ATodo.cond_d rfl (fun hc => ?_) (fun hc => ?_)
  · replace h := iteT hc h
    refine ATodo.seq ?_
    refine ATodo.region ?_
    refine ARun.qv (q_assign rfl) rfl ?_
    refine ARun.nil ?_
    refine ATodo.ret ?_
    obtain rfl := Option.some.inj h
    exact ImpX.here ⟨_, .cons (.tmp _ _ rfl) .nil, rfl⟩
  · replace h := iteF hc h
    refine ATodo.skip ?_
    refine ATodo.seq ?_
    refine ATodo.seq ?_
    refine ATodo.region ?_
    refine ARun.qv (q_move rfl) rfl ?_
    refine ARun.qv (t_len rfl) rfl ?_
    refine ARun.qv (q_move rfl) rfl ?_
    refine ARun.nil ?_
    refine ATodo.block ?_
    refine ATodo.loopI (fun x : Int => slices_Equal_Sample_Sample_b1 p0x0 p1x0 x) (fun x σ' => σ' = ⟨26, [(0, .list 4 (p0x0.map Sample.av)), (1, .list 4 (p1x0.map Sample.av)), (12, I (p0x0.length : Int)), (13, I x)], []⟩) h ?_ ?_
    · exact ImpX.lessP (by exact ⟨rfl, rfl, rfl, rfl, True.intro⟩) (.nil) (ImpX.here rfl)
    · intro n2 z1 σ' J1 hmk h hJ1 hA1
      obtain rfl := hmk
      replace h : slices_Equal_Sample_Sample_b1 p0x0 p1x0 n2 = some z1 := h
      unfold slices_Equal_Sample_Sample_b1 at h
      refine ATodo.seq ?_
      refine ATodo.region ?_
      refine ARun.qv (q_lss rfl rfl) rfl ?_
      refine ARun.nil ?_
      refine ATodo.seq ?_
      refine ATodo.cond_d rfl (fun hc => ?_) (fun hc => ?_)
      · replace h := iteT hc h
        refine ATodo.skip ?_
        refine ATodo.seq ?_
        refine ATodo.block ?_
        refine ATodo.seq ?_
        refine ATodo.region ?_
        refine ARun.qv (q_move rfl) rfl ?_
        refine ARun.qv (q_assign rfl) rfl ?_
        refine ARun.nil ?_
        refine ATodo.seq ?_
        refine ATodo.regionM (id := 6) (A := [0, 0, 3, 7, 0, 0, 48, 112, 255]) 9 mixed rfl (by kernel_rfl) (by kernel_rfl) ?_
        refine AM.qv (q_move rfl) rfl ?_
        refine AM.qv (q_move rfl) rfl ?_
        obtain ⟨v3, e1, h⟩ := bnd h
        refine AM.qv (t_index rfl rfl rfl e1 rfl rfl) rfl ?_
        refine AM.qv (q_load_rptr_agg rfl rfl rfl) rfl ?_
        refine AM.qv (q_move rfl) rfl ?_
        refine AM.qv (q_move rfl) rfl ?_
        obtain ⟨v4, e2, h⟩ := bnd h
        refine AM.qv (t_index rfl rfl rfl e2 rfl rfl) rfl ?_
        refine AM.qv (q_load_rptr_agg rfl rfl rfl) rfl ?_
        refine AM.qv (t_tne (g := Sample.av) (X := v3) (Y := v4) rfl rfl rfl rfl rfl) rfl ?_
        refine AM.nil ?_
        refine ARun.nil ?_
        refine ATodo.cond_d rfl (fun hc => ?_) (fun hc => ?_)
        · replace h := iteT hc h
          refine ATodo.seq ?_
          refine ATodo.region ?_
          refine ARun.qv (q_assign rfl) rfl ?_
          refine ARun.nil ?_
          refine ATodo.ret ?_
          replace h := outL h hA1
          obtain rfl := Option.some.inj h
          exact ImpX.here ⟨_, .cons (.tmp _ _ rfl) .nil, rfl⟩
        · replace h := iteF hc h
          refine ATodo.skip ?_
          refine ATodo.blk ?_
          refine ATodo.region ?_
          refine ARun.qv (q_addw rfl rfl) rfl ?_
          refine ARun.qv (q_move rfl) rfl ?_
          refine ARun.nil ?_
          refine ATodo.stop ?_
          obtain rfl := Option.some.inj h
          refine hJ1 _ _ rfl ?_
          exact ImpX.lessP (by exact ⟨rfl, rfl, rfl, rfl, True.intro⟩) (.nil) (ImpX.here rfl)
      · replace h := iteF hc h
        refine ATodo.exit rfl ?_
        replace h := outL h hA1
        refine ATodo.seq ?_
        refine ATodo.region ?_
        refine ARun.qv (q_assign rfl) rfl ?_
        refine ARun.nil ?_
        refine ATodo.ret ?_
        obtain rfl := Option.some.inj h
        exact ImpX.here ⟨_, .cons (.tmp _ _ rfl) .nil, rfl⟩

set_option maxHeartbeats 4000000 in
theorem L_measured_c {r : Bool} (h : L_measured = some r) : Pu Try.prog 20 [] (.bool r) := by
  unfold L_measured at h
  refine ACall.bodyN Try.func20 rfl Try.ntmps20 Try.results20 rfl rfl ?_
  refine ATodo.seq ?_
  refine ATodo.region ?_
  refine ARun.qv (q_assign rfl) rfl ?_
  refine ARun.nil ?_
  refine ATodo.seq ?_
  refine ATodo.region ?_
  refine ARun.qv (n_build rfl rfl rfl rfl rfl) rfl ?_
  refine n_buildSliceL (xs := ([(⟨([100] : Str), ([109] : Str), (1 : Int), (1 : Int)⟩ : Sample)]).map Sample.av) rfl rfl rfl rfl rfl rfl ?_
  obtain ⟨v1, e1, h⟩ := bnd h
  refine t_call1 rfl (series_Pack_c e1) (CoL.refl _) .nil (fun _ => rfl) rfl (fun b2 => ?_)
  refine ARun.qv (q_move rfl) rfl ?_
  refine ARun.qv (q_extract rfl rfl) rfl ?_
  refine ARun.qv (q_extract rfl rfl) rfl ?_
  refine ARun.qv (q_assign rfl) rfl ?_
  refine ARun.qv (q_assign rfl) rfl ?_
  refine ARun.nil ?_
  refine ATodo.seq ?_
  refine ATodo.cut (fun σ' => ∃ (c3 : Bool), L_measured_j1 c3 = some r ∧ σ' = ⟨16, [(0, .bool c3)], []⟩) ?_ ?_
  · refine ATodo.region ?_
    refine ARun.qv (q_move rfl) rfl ?_
    refine ARun.qv (q_eql rfl rfl) rfl ?_
    refine ARun.qv (q_move rfl) rfl ?_
    refine ARun.guard_dt rfl rfl rfl (fun hc => ?_) (fun hc => ?_)
    · replace h := iteT hc h
      refine ARun.qv (q_move rfl) rfl ?_
      refine ARun.guard_yes rfl rfl rfl ?_
      refine n_buildSliceL (xs := ([(1 : Int), (2 : Int), (2 : Int)]).map (AV.int .u8)) rfl rfl rfl rfl rfl rfl ?_
      refine ARun.guard_yes rfl rfl rfl ?_
      obtain ⟨v4, e2, h⟩ := bnd h
      refine r_callpB rfl (slices_Equal_byte_byte_c e2) (.cons (CoB.arrT .here) (.cons (.co (.refl _)) .nil)) rfl rfl ?_
      refine ARun.qv (q_pick_t rfl rfl) rfl ?_
      refine ARun.qv (q_assign rfl) rfl ?_
      refine ARun.nil ?_
      refine ATodo.stop ?_
      exact ImpX.lessP (by exact ⟨rfl, True.intro⟩) (.nil) (ImpX.here ⟨v4, h, rfl⟩)
    · replace h := iteF hc h
      refine ARun.guard_no rfl rfl rfl rfl ?_
      refine ARun.guard_no rfl rfl rfl rfl ?_
      refine ARun.qv (q_pick_f rfl rfl) rfl ?_
      refine ARun.qv (q_assign rfl) rfl ?_
      refine ARun.nil ?_
      refine ATodo.stop ?_
      exact ImpX.lessP (by exact ⟨rfl, True.intro⟩) (.nil) (ImpX.here ⟨false, h, rfl⟩)
  · rintro σ' ⟨c3, h, rfl⟩
    unfold L_measured_j1 at h
    refine ATodo.ret ?_
    obtain rfl := Option.some.inj h
    exact ImpX.here ⟨_, .cons (.tmp _ _ rfl) .nil, rfl⟩

set_option maxHeartbeats 4000000 in
theorem L_SeriesPacked_c {p0x0 : List Int} {r : Bool} (h : L_SeriesPacked p0x0 = some r) : Pu Try.prog 4 [.list 1 (p0x0.map I)] (.bool r) := by
  unfold L_SeriesPacked at h
  refine ACall.bodyN Try.func4 rfl Try.ntmps4 Try.results4 rfl rfl ?_
  refine ATodo.seq ?_
  refine ATodo.region ?_
  refine ARun.qv (q_assign rfl) rfl ?_
  refine ARun.nil ?_
  refine ATodo.seq ?_
  refine ATodo.region ?_
  refine ARun.qv (q_move rfl) rfl ?_
  refine ARun.qv (n_build rfl rfl rfl rfl rfl) rfl ?_
  refine n_box rfl rfl rfl rfl (fun b1 => ?_)
  refine ARun.qv (q_assign rfl) rfl ?_
  refine ARun.nil ?_
  refine ATodo.seq ?_
  refine ATodo.region ?_
  refine ARun.qv (q_move rfl) rfl ?_
  obtain ⟨v2, e1, h⟩ := bnd h
  refine t_call1 rfl (Stream_Series_c e1) (CoL.refl _) (.cons .here .nil) (fun _ => rfl) rfl (fun b3 => ?_)
  refine ARun.qv (q_move rfl) rfl ?_
  obtain ⟨v4, e2, h⟩ := bnd h
  refine t_call0 rfl (Stream_Packed_c e2) (CoL.refl _) (.cons .here .nil) rfl rfl ?_
  refine ARun.qv (q_move rfl) rfl ?_
  refine n_buildSliceL (xs := ([([100] : Str), ([100] : Str), ([] : Str), ([65] : Str)]).map AV.str) rfl rfl rfl rfl rfl rfl ?_
  obtain ⟨v5, e3, h⟩ := bnd h
  refine t_call0 rfl (Stream_Some_c e3) (CoL.refl _) (.cons .here .nil) rfl rfl ?_
  refine ARun.qv (q_move rfl) rfl ?_
  refine n_buildSliceL (xs := ([([109] : Str), ([109] : Str), ([109] : Str), ([] : Str)]).map AV.str) rfl rfl rfl rfl rfl rfl ?_
  obtain ⟨v6, e4, h⟩ := bnd h
  refine t_call0 rfl (Stream_Some_c e4) (CoL.refl _) (.cons .here .nil) rfl rfl ?_
  refine ARun.qv (q_assign rfl) rfl ?_
  refine ARun.qv (q_assign rfl) rfl ?_
  refine ARun.qv (q_assign rfl) rfl ?_
  refine ARun.qv (q_assign rfl) rfl ?_
  refine ARun.nil ?_
  refine ATodo.seq ?_
  refine ATodo.seq ?_
  refine ATodo.region ?_
  refine ARun.qv (q_move rfl) rfl ?_
  obtain ⟨v7, e5, h⟩ := bnd h
  refine t_call0 rfl (Stream_Flip_c e5) (CoL.refl _) (.cons .here .nil) rfl rfl ?_
  refine ARun.nil ?_
  refine ATodo.cut (fun σ' => ∃ (l8 : List Int), L_SeriesPacked_j1 v2 v5 v6 l8 = some r ∧ σ' = ⟨95, [(4, .sl 4 b3 0 v2.1.length), (5, .list 1 (l8.map (AV.int .u8))), (6, .str v5.1), (7, .str v6.1)], [(b3, .arr 4 (v2.1.map Sample.av))]⟩) ?_ ?_
  · refine ATodo.cond rfl (fun hc => ?_) (fun hc => ?_)
    · replace h := iteT hc h
      refine ATodo.region ?_
      obtain ⟨l9, e6, h⟩ := bnd h
      refine t_makeSlice (g := (AV.int .u8)) (Z := (0 : Int)) rfl rfl rfl rfl rfl rfl rfl rfl rfl e6 (fun b10 => ?_)
      refine ARun.qv (q_assign rfl) rfl ?_
      refine ARun.nil ?_
      refine ATodo.stop ?_
      refine ImpX.freeze .here ?_
      refine ImpX.co (s := 5) rfl (Co.froT .here) ?_
      exact ImpX.lessP (by exact ⟨rfl, rfl, rfl, rfl, True.intro⟩) (.cons (.next (.next .here)) .nil) (ImpX.here ⟨l9, h, rfl⟩)
    · replace h := iteFb hc h
      refine ATodo.skip ?_
      refine ATodo.stop ?_
      exact ImpX.lessP (by exact ⟨rfl, rfl, rfl, rfl, True.intro⟩) (.cons (.next .here) .nil) (ImpX.here ⟨v4.1, h, rfl⟩)
  · rintro σ' ⟨l8, h, rfl⟩
    unfold L_SeriesPacked_j1 at h
    refine ATodo.seq ?_
    refine ATodo.region ?_
    refine ARun.qv (q_move rfl) rfl ?_
    obtain ⟨v11, e7, h⟩ := bnd h
    refine ARun.ghost (ImpX.freeze .here (ImpX.here ?_))
    refine t_call1 rfl (series_Pack_c e7) (.cons (Co.froT .here) .nil) .nil (fun _ => rfl) rfl (fun b12 => ?_)
    refine ARun.qv (q_move rfl) rfl ?_
    refine ARun.qv (q_extract rfl rfl) rfl ?_
    refine ARun.qv (q_extract rfl rfl) rfl ?_
    refine ARun.qv (q_assign rfl) rfl ?_
    refine ARun.qv (q_assign rfl) rfl ?_
    refine ARun.nil ?_
    refine ATodo.seq ?_
    refine ATodo.region ?_
    refine ARun.qv (q_move rfl) rfl ?_
    refine ARun.qv (q_move rfl) rfl ?_
    refine ARun.qv (q_move rfl) rfl ?_
    obtain ⟨v13, e8, h⟩ := bnd h
    refine r_callp rfl (series_Unpack_c e8) (CoL.refl _) rfl ?_
    refine ARun.qv (q_move rfl) rfl ?_
    refine ARun.qv (q_extract rfl rfl) rfl ?_
    refine ARun.qv (q_extract rfl rfl) rfl ?_
    refine ARun.qv (q_assign rfl) rfl ?_
    refine ARun.qv (q_assign rfl) rfl ?_
    refine ARun.nil ?_
    refine ATodo.seq ?_
    refine ATodo.region ?_
    refine ARun.qv (q_move rfl) rfl ?_
    obtain ⟨v14, e9, h⟩ := bnd h
    refine r_callp rfl (Q_SeriesFault_c e9) (.cons (Co.froT (.next .here)) .nil) rfl ?_
    refine ARun.qv (q_assign rfl) rfl ?_
    refine ARun.nil ?_
    refine ATodo.seq ?_
    refine ATodo.cut (fun σ' => ∃ (n15 : Int), L_SeriesPacked_j2 v2 v5 v6 l8 v11 v13 v14 n15 = some r ∧ σ' = ⟨95, [(4, .sl 4 b3 0 v2.1.length), (5, .list 1 (l8.map (AV.int .u8))), (6, .str v5.1), (7, .str v6.1), (8, .sl 1 b12 0 v11.1.length), (9, I v11.2), (10, .list 4 (v13.1.map Sample.av)), (11, I v13.2), (12, I v14), (13, I n15)], [(b3, .fro 4 (v2.1.map Sample.av)), (b12, .arr 1 (v11.1.map (AV.int .u8)))]⟩) ?_ ?_
    · refine ATodo.region ?_
      refine ARun.qv (q_move rfl) rfl ?_
      obtain ⟨v16, e10, h⟩ := bnd h
      refine r_callp rfl (Q_Key_c e10) (CoL.refl _) rfl ?_
      refine ARun.qv (q_not rfl) rfl ?_
      refine ARun.qv (q_move rfl) rfl ?_
      refine ARun.guard rfl rfl rfl (fun hc => ?_) (fun hc => ?_)
      · replace h := iteFb hc h
        refine ARun.qv (q_move rfl) rfl ?_
        refine ARun.guard_yes rfl rfl rfl ?_
        obtain ⟨v17, e11, h⟩ := bnd h
        refine r_callp rfl (Q_Key_c e11) (CoL.refl _) rfl ?_
        refine ARun.guard_yes rfl rfl rfl ?_
        refine ARun.qv (q_not rfl) rfl ?_
        refine ARun.qv (q_pick_f rfl rfl) rfl ?_
        refine r_callp rfl (L_when_c rfl) (CoL.refl _) rfl ?_
        refine ARun.qv (q_move rfl) rfl ?_
        refine ARun.qv (t_len rfl) rfl ?_
        refine ARun.qv (q_gtr rfl rfl) rfl ?_
        refine r_callp rfl (L_when_c rfl) (CoL.refl _) rfl ?_
        refine n_buildSliceL (xs := ([(L_when (!v17) (5 : Int)), (L_when (decide ((100000 : Int) < (l8.length : Int))) (2 : Int))]).map I) rfl rfl rfl rfl rfl rfl ?_
        obtain ⟨v18, e12, h⟩ := bnd h
        refine r_callp rfl (L_errs_c e12) (CoL.refl _) rfl ?_
        refine ARun.qv (q_assign rfl) rfl ?_
        refine ARun.nil ?_
        refine ATodo.stop ?_
        exact ImpX.lessP (by exact ⟨rfl, rfl, rfl, rfl, rfl, rfl, rfl, rfl, rfl, rfl, True.intro⟩) (.cons (.next .here) (.cons .here .nil)) (ImpX.here ⟨v18, h, rfl⟩)
      · replace h := iteT hc h
        refine ARun.guard_no rfl rfl rfl rfl ?_
        refine ARun.guard_no rfl rfl rfl rfl ?_
        refine ARun.qv (q_pick_t rfl rfl) rfl ?_
        refine r_callp rfl (L_when_c rfl) (CoL.refl _) rfl ?_
        refine ARun.qv (q_move rfl) rfl ?_
        refine ARun.qv (t_len rfl) rfl ?_
        refine ARun.qv (q_gtr rfl rfl) rfl ?_
        refine r_callp rfl (L_when_c rfl) (CoL.refl _) rfl ?_
        refine n_buildSliceL (xs := ([(L_when true (5 : Int)), (L_when (decide ((100000 : Int) < (l8.length : Int))) (2 : Int))]).map I) rfl rfl rfl rfl rfl rfl ?_
        obtain ⟨v19, e13, h⟩ := bnd h
        refine r_callp rfl (L_errs_c e13) (CoL.refl _) rfl ?_
        refine ARun.qv (q_assign rfl) rfl ?_
        refine ARun.nil ?_
        refine ATodo.stop ?_
        exact ImpX.lessP (by exact ⟨rfl, rfl, rfl, rfl, rfl, rfl, rfl, rfl, rfl, rfl, True.intro⟩) (.cons (.next .here) (.cons .here .nil)) (ImpX.here ⟨v19, h, rfl⟩)
    · rintro σ' ⟨n15, h, rfl⟩
      unfold L_SeriesPacked_j2 at h
      refine ATodo.seq ?_
      refine ATodo.region ?_
      refine ARun.qv (q_assign rfl) rfl ?_
      refine ARun.nil ?_
      refine ATodo.seq ?_
      refine ATodo.seq ?_
      refine ATodo.region ?_
      refine ARun.qv (q_move rfl) rfl ?_
      refine ARun.qv (q_eql rfl rfl) rfl ?_
      refine ARun.nil ?_
      refine ATodo.cut (fun σ' => ∃ (b20 : Bk) (l21 : List Int), L_SeriesPacked_j3 v5 v6 l8 v11 v13 v14 n15 l21 = some r ∧ σ' = ⟨95, [(5, .list 1 (l8.map (AV.int .u8))), (6, .str v5.1), (7, .str v6.1), (8, .sl 1 b12 0 v11.1.length), (9, I v11.2), (10, .list 4 (v13.1.map Sample.av)), (11, I v13.2), (12, I v14), (13, I n15), (14, .sl 1 b20 0 l21.length)], [(b12, .arr 1 (v11.1.map (AV.int .u8))), (b20, .arr 1 (l21.map (AV.int .u8)))]⟩) ?_ ?_
      · refine ATodo.cond_d rfl (fun hc => ?_) (fun hc => ?_)
        · replace h := iteT hc h
          refine ATodo.region ?_
          refine ARun.qv (q_move rfl) rfl ?_
          obtain ⟨v22, e14, h⟩ := bnd h
          refine t_call1 rfl (Q_PackOf_c e14) (.cons (Co.froT .here) .nil) .nil (fun _ => rfl) rfl (fun b23 => ?_)
          refine ARun.qv (q_assign rfl) rfl ?_
          refine ARun.nil ?_
          refine ATodo.stop ?_
          exact ImpX.lessP (by exact ⟨rfl, rfl, rfl, rfl, rfl, rfl, rfl, rfl, rfl, rfl, True.intro⟩) (.cons (.next (.next .here)) (.cons .here .nil)) (ImpX.here ⟨b23, v22, h, rfl⟩)
        · replace h := iteF hc h
          refine ATodo.skip ?_
          refine ATodo.stop ?_
          refine ImpX.arr (s := 14) 1 rfl (fun b24 => ?_)
          exact ImpX.lessP (by exact ⟨rfl, rfl, rfl, rfl, rfl, rfl, rfl, rfl, rfl, rfl, True.intro⟩) (.cons (.next (.next .here)) (.cons .here .nil)) (ImpX.here ⟨b24, [], h, rfl⟩)
      · rintro σ' ⟨b20, l21, h, rfl⟩
        unfold L_SeriesPacked_j3 at h
        refine ATodo.seq ?_
        refine ATodo.region ?_
        refine ARun.qv (q_assign rfl) rfl ?_
        refine ARun.nil ?_
        refine ATodo.seq ?_
        refine ATodo.seq ?_
        refine ATodo.region ?_
        refine ARun.qv (q_move rfl) rfl ?_
        refine ARun.qv (q_eql rfl rfl) rfl ?_
        refine ARun.nil ?_
        refine ATodo.cut (fun σ' => ∃ (n25 : Int) (l26 : List Sample), L_SeriesPacked_j4 v11 v13 v14 l21 n25 l26 = some r ∧ σ' = ⟨95, [(8, .sl 1 b12 0 v11.1.length), (9, I v11.2), (10, .list 4 (v13.1.map Sample.av)), (11, I v13.2), (12, I v14), (13, I n25), (14, .sl 1 b20 0 l21.length), (15, .list 4 (l26.map Sample.av))], [(b12, .arr 1 (v11.1.map (AV.int .u8))), (b20, .arr 1 (l21.map (AV.int .u8)))]⟩) ?_ ?_
        · refine ATodo.cond_d rfl (fun hc => ?_) (fun hc => ?_)
          · replace h := iteT hc h
            refine ATodo.region ?_
            refine ARun.qv (q_move rfl) rfl ?_
            refine ARun.qv (q_move rfl) rfl ?_
            refine ARun.qv (q_move rfl) rfl ?_
            obtain ⟨v27, e15, h⟩ := bnd h
            refine r_callp rfl (Q_UnpackOf_c e15) (CoL.refl _) rfl ?_
            refine ARun.qv (q_move rfl) rfl ?_
            refine ARun.qv (q_extract rfl rfl) rfl ?_
            refine ARun.qv (q_extract rfl rfl) rfl ?_
            refine ARun.qv (q_assign rfl) rfl ?_
            refine ARun.qv (q_assign rfl) rfl ?_
            refine ARun.nil ?_
            refine ATodo.stop ?_
            exact ImpX.lessP (by exact ⟨rfl, rfl, rfl, rfl, rfl, rfl, rfl, rfl, True.intro⟩) (.cons .here (.cons .here .nil)) (ImpX.here ⟨v27.2, v27.1, h, rfl⟩)
          · replace h := iteF hc h
            refine ATodo.skip ?_
            refine ATodo.stop ?_
            refine ImpX.co (s := 15) rfl (.nil 4) ?_
            exact ImpX.lessP (by exact ⟨rfl, rfl, rfl, rfl, rfl, rfl, rfl, rfl, True.intro⟩) (.cons .here (.cons .here .nil)) (ImpX.here ⟨n15, [], h, rfl⟩)
        · rintro σ' ⟨n25, l26, h, rfl⟩
          unfold L_SeriesPacked_j4 at h
          refine ATodo.seq ?_
          refine ATodo.cut (fun σ' => ∃ (c28 : Bool), L_SeriesPacked_j5 c28 = some r ∧ σ' = ⟨95, [(2, .bool c28)], []⟩) ?_ ?_
          · refine ATodo.region ?_
            refine ARun.qv (q_move rfl) rfl ?_
            refine ARun.qv (q_move rfl) rfl ?_
            refine ARun.qv (q_eql rfl rfl) rfl ?_
            refine ARun.qv (q_move rfl) rfl ?_
            refine ARun.guard_dt rfl rfl rfl (fun hc => ?_) (fun hc => ?_)
            · replace h := iteT hc h
              refine ARun.qv (q_move rfl) rfl ?_
              refine ARun.guard_yes rfl rfl rfl ?_
              refine ARun.qv (q_move rfl) rfl ?_
              refine ARun.guard_yes rfl rfl rfl ?_
              obtain ⟨v29, e16, h⟩ := bnd h
              refine r_callpB rfl (slices_Equal_byte_byte_c e16) (.cons (CoB.arrT .here) (.cons (CoB.arrT (.next .here)) .nil)) rfl rfl ?_
              refine ARun.qv (q_pick_t rfl rfl) rfl ?_
              refine ARun.qv (q_move rfl) rfl ?_
              refine ARun.guard rfl rfl rfl (fun hc => ?_) (fun hc => ?_)
              · replace h := iteT hc h
                refine ARun.qv (q_move rfl) rfl ?_
                refine ARun.guard_yes rfl rfl rfl ?_
                refine ARun.qv (q_move rfl) rfl ?_
                refine ARun.guard_yes rfl rfl rfl ?_
                refine ARun.qv (q_eql rfl rfl) rfl ?_
                refine ARun.qv (q_pick_t rfl rfl) rfl ?_
                refine ARun.qv (q_move rfl) rfl ?_
                refine ARun.guard_dt rfl rfl rfl (fun hc => ?_) (fun hc => ?_)
                · replace h := iteT hc h
                  refine ARun.qv (q_move rfl) rfl ?_
                  refine ARun.guard_yes rfl rfl rfl ?_
                  refine ARun.qv (q_move rfl) rfl ?_
                  refine ARun.guard_yes rfl rfl rfl ?_
                  obtain ⟨v30, e17, h⟩ := bnd h
                  refine r_callp rfl (slices_Equal_Sample_Sample_c e17) (CoL.refl _) rfl ?_
                  refine ARun.qv (q_pick_t rfl rfl) rfl ?_
                  refine ARun.qv (q_move rfl) rfl ?_
                  refine ARun.guard rfl rfl rfl (fun hc => ?_) (fun hc => ?_)
                  · replace h := iteT hc h
                    obtain ⟨v31, e18, h⟩ := bnd h
                    refine r_callp rfl (L_measured_c e18) (CoL.refl _) rfl ?_
                    refine ARun.qv (q_pick_t rfl rfl) rfl ?_
                    refine ARun.qv (q_assign rfl) rfl ?_
                    refine ARun.nil ?_
                    refine ATodo.stop ?_
                    exact ImpX.lessP (by exact ⟨rfl, True.intro⟩) (.nil) (ImpX.here ⟨v31, h, rfl⟩)
                  · replace h := iteFb hc h
                    refine ARun.qv (q_pick_f rfl rfl) rfl ?_
                    refine ARun.qv (q_assign rfl) rfl ?_
                    refine ARun.nil ?_
                    refine ATodo.stop ?_
                    exact ImpX.lessP (by exact ⟨rfl, True.intro⟩) (.nil) (ImpX.here ⟨false, h, rfl⟩)
                · replace h := iteF hc h
                  refine ARun.guard_no rfl rfl rfl rfl ?_
                  refine ARun.guard_no rfl rfl rfl rfl ?_
                  refine ARun.qv (q_pick_f rfl rfl) rfl ?_
                  refine ARun.qv (q_move rfl) rfl ?_
                  refine ARun.guard_no rfl rfl rfl rfl ?_
                  refine ARun.qv (q_pick_f rfl rfl) rfl ?_
                  refine ARun.qv (q_assign rfl) rfl ?_
                  refine ARun.nil ?_
                  refine ATodo.stop ?_
                  exact ImpX.lessP (by exact ⟨rfl, True.intro⟩) (.nil) (ImpX.here ⟨false, h, rfl⟩)
              · replace h := iteFb hc h
                refine ARun.guard_no rfl rfl rfl rfl ?_
                refine ARun.guard_no rfl rfl rfl rfl ?_
                refine ARun.qv (q_pick_f rfl rfl) rfl ?_
                refine ARun.qv (q_move rfl) rfl ?_
                refine ARun.guard_no rfl rfl rfl rfl ?_
                refine ARun.guard_no rfl rfl rfl rfl ?_
                refine ARun.guard_no rfl rfl rfl rfl ?_
                refine ARun.qv (q_pick_f rfl rfl) rfl ?_
                refine ARun.qv (q_move rfl) rfl ?_
                refine ARun.guard_no rfl rfl rfl rfl ?_
                refine ARun.qv (q_pick_f rfl rfl) rfl ?_
                refine ARun.qv (q_assign rfl) rfl ?_
                refine ARun.nil ?_
                refine ATodo.stop ?_
                exact ImpX.lessP (by exact ⟨rfl, True.intro⟩) (.nil) (ImpX.here ⟨false, h, rfl⟩)
            · replace h := iteF hc h
              refine ARun.guard_no rfl rfl rfl rfl ?_
              refine ARun.guard_no rfl rfl rfl rfl ?_
              refine ARun.qv (q_pick_f rfl rfl) rfl ?_
              refine ARun.qv (q_move rfl) rfl ?_
              refine ARun.guard_no rfl rfl rfl rfl ?_
              refine ARun.guard_no rfl rfl rfl rfl ?_
              refine ARun.guard_no rfl rfl rfl rfl ?_
              refine ARun.qv (q_pick_f rfl rfl) rfl ?_
              refine ARun.qv (q_move rfl) rfl ?_
              refine ARun.guard_no rfl rfl rfl rfl ?_
              refine ARun.guard_no rfl rfl rfl rfl ?_
              refine ARun.guard_no rfl rfl rfl rfl ?_
              refine ARun.qv (q_pick_f rfl rfl) rfl ?_
              refine ARun.qv (q_move rfl) rfl ?_
              refine ARun.guard_no rfl rfl rfl rfl ?_
              refine ARun.qv (q_pick_f rfl rfl) rfl ?_
              refine ARun.qv (q_assign rfl) rfl ?_
              refine ARun.nil ?_
              refine ATodo.stop ?_
              exact ImpX.lessP (by exact ⟨rfl, True.intro⟩) (.nil) (ImpX.here ⟨false, h, rfl⟩)
          · rintro σ' ⟨c28, h, rfl⟩
            unfold L_SeriesPacked_j5 at h
            refine ATodo.ret ?_
            obtain rfl := Option.some.inj h
            exact ImpX.here ⟨_, .cons (.tmp _ _ rfl) .nil, rfl⟩

end Go.Proofs.Ytbcbhhbbejcnnaa
