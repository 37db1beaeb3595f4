/- The code computes the plain functions: proofs written by shal.py. -/
import Derived.Test.YtlhoigimdehaeaaGreatDoorSamW1
set_option maxRecDepth 100000
set_option linter.unusedVariables false
set_option linter.unusedSimpArgs false
namespace Go.Proofs.YtlhoigimdehaeaaGreatDoor
open Go Go.Eng Go.Proofs Go.Beacon
attribute [local irreducible] ARun ATodo AQ QV ACall ImpX AWp AM
set_option maxHeartbeats 4000000 in
theorem slices_IndexFunc_Sample_Sample_c [GI : GTab] {p0x0 : List Sample} {fnb : Sample → Option Bool} {fnb_F : FuncId} [IsFn Tryz.prog fnb_F] {fnb_C : List AV} (fnb_h : ∀ {y0 : _} {u : Bool}, fnb y0 = some u → Pu Tryz.prog fnb_F (.agg [.str y0.Device, .str y0.Metric, I y0.At, I y0.Value] ::  fnb_C) (.bool u)) {r : Int} (h : slices_IndexFunc_Sample_Sample p0x0 fnb = some r) : Pu Tryz.prog 231 [.list 4 (p0x0.map Sample.av), .func (.func fnb_F) fnb_C] (I r) := by
  unfold slices_IndexFunc_Sample_Sample at h
  refine ACall.bodyN Tryz.func231 rfl Tryz.ntmps231 Tryz.results231 rfl rfl ?_
  refine tSR <| rA rfl rfl <| rN <| tS <| tSR <| rM rfl rfl <| ARun.qv (t_len rfl) rfl <| rM rfl rfl <| rN <| ATodo.block <| ATodo.loopI (fun x : Int => slices_IndexFunc_Sample_Sample_b1 p0x0 fnb x) (fun x σ' => σ' = ⟨19, [(0, .list 4 (p0x0.map Sample.av)), (1, .func (.func fnb_F) fnb_C), (7, I (p0x0.length : Int)), (8, I x)], []⟩) h ?_ ?_
  · exact ImpX.lq [] rfl rfl rfl
  · intro n2 z1 σ' J1 hmk h hJ1 hA1
    obtain rfl := hmk
    replace h : slices_IndexFunc_Sample_Sample_b1 p0x0 fnb n2 = some z1 := h
    unfold slices_IndexFunc_Sample_Sample_b1 at h
    refine tSR <| ARun.qv (q_lss rfl rfl) rfl <| rN <| tS <| ATodo.cond_d rfl (fun hc => ?_) (fun hc => ?_)
    · refine have h := iteT hc h; tK <| tS <| ATodo.block <| tSR <| rM rfl rfl <| rA rfl rfl <| rN <| tSR <| rM rfl rfl <| rM rfl rfl <| rM rfl rfl <| bndE h fun v3 e1 h => ARun.qv (t_index rfl rfl rfl e1 rfl rfl) rfl <| ARun.qv (q_load_rptr_agg rfl rfl rfl) rfl <| bndE h fun v4 e2 h => r_callvp rfl rfl (fnb_h e2) (CoL.refl _) rfl <| rN <| ATodo.cond rfl (fun hc => ?_) (fun hc => ?_)
      · refine have h := iteT hc h; tSR <| rM rfl rfl <| rA rfl rfl <| rN <| ATodo.ret <| have h := outL h hA1; ?_
        obtain rfl := Option.some.inj h
        exact ImpX.here ⟨_, .cons (.tmp _ _ rfl) .nil, rfl⟩
      · refine have h := iteFb hc h; tK <| ATodo.blk <| tR <| ARun.qv (q_addw rfl rfl) rfl <| rM rfl rfl <| rN <| ATodo.stop <| ?_
        obtain rfl := Option.some.inj h
        exact hJ1 _ _ rfl <| ImpX.lq [] rfl rfl rfl
    · refine have h := iteF hc h; ATodo.exit rfl <| have h := outL h hA1; tSR <| rA rfl rfl <| rN <| ATodo.ret <| ?_
      obtain rfl := Option.some.inj h
      exact ImpX.here ⟨_, .cons (.tmp _ _ rfl) .nil, rfl⟩

set_option maxHeartbeats 4000000 in
theorem slices_ContainsFunc_Sample_Sample_c [GI : GTab] {p0x0 : List Sample} {fnb : Sample → Option Bool} {fnb_F : FuncId} [IsFn Tryz.prog fnb_F] {fnb_C : List AV} (fnb_h : ∀ {y0 : _} {u : Bool}, fnb y0 = some u → Pu Tryz.prog fnb_F (.agg [.str y0.Device, .str y0.Metric, I y0.At, I y0.Value] ::  fnb_C) (.bool u)) {r : Bool} (h : slices_ContainsFunc_Sample_Sample p0x0 fnb = some r) : Pu Tryz.prog 185 [.list 4 (p0x0.map Sample.av), .func (.func fnb_F) fnb_C] (.bool r) := by
  unfold slices_ContainsFunc_Sample_Sample at h
  refine ACall.bodyN Tryz.func185 rfl Tryz.ntmps185 Tryz.results185 rfl rfl ?_
  refine tSR <| rA rfl rfl <| rN <| tSR <| rM rfl rfl <| rM rfl rfl <| bndE h fun v1 e1 h => r_callpB rfl (slices_IndexFunc_Sample_Sample_c fnb_h e1) (.cons (.co (.refl _)) (.cons (.co (.refl _)) .nil)) rfl rfl <| ARun.qv (q_geq rfl rfl) rfl <| rA rfl rfl <| rN <| ATodo.ret <| ?_
  obtain rfl := Option.some.inj h
  exact ImpX.here ⟨_, .cons (.tmp _ _ rfl) .nil, rfl⟩

set_option maxHeartbeats 4000000 in
theorem series_CheckSeries_c [GI : GTab] {p0x0 : List Sample} {r : Int} (h : series_CheckSeries p0x0 = some r) : Pu Tryz.prog 138 [.list 4 (p0x0.map Sample.av)] (I r) := by
  unfold series_CheckSeries at h
  refine ACall.bodyN Tryz.func138 rfl Tryz.ntmps138 Tryz.results138 rfl rfl ?_
  refine tSR <| n_box rfl rfl rfl rfl fun b1 => rA rfl rfl <| rN <| tS <| tSR <| rL rfl rfl .p0 rfl rfl <| bndE h fun v2 e1 h => r_callp rfl (series_Check_c e1) (CoL.refl _) rfl <| rA rfl rfl <| rN <| tSR <| rM rfl rfl <| ARun.qv (q_neq rfl rfl) rfl <| rN <| ATodo.cond_d rfl (fun hc => ?_) (fun hc => ?_)
  · refine have h := iteT hc h; tSR <| rM rfl rfl <| rA rfl rfl <| rN <| ATodo.ret <| ?_
    obtain rfl := Option.some.inj h
    exact ImpX.here ⟨_, .cons (.tmp _ _ rfl) .nil, rfl⟩
  · refine have h := iteF hc h; tK <| tS <| tSR <| rL rfl rfl .p0 rfl rfl <| ARun.qv (q_makeFunc rfl) rfl <| bndE h fun v3 e2 h => r_callpB rfl (slices_ContainsFunc_Sample_Sample_c (fun e => series_CheckSeries_1x_c e) e2) (.cons (.co (.refl _)) (.cons (.funcL _ _ _ (.cons (.boxL _ _ _ .p0 (.cons (.co (.refl _)) .nil)) .nil)) .nil)) rfl rfl <| rN <| ATodo.cond rfl (fun hc => ?_) (fun hc => ?_)
    · refine have h := iteT hc h; tSR <| rA rfl rfl <| rN <| ATodo.ret <| ?_
      obtain rfl := Option.some.inj h
      exact ImpX.here ⟨_, .cons (.tmp _ _ rfl) .nil, rfl⟩
    · refine have h := iteFb hc h; tK <| tSR <| rA rfl rfl <| rN <| ATodo.ret <| ?_
      obtain rfl := Option.some.inj h
      exact ImpX.here ⟨_, .cons (.tmp _ _ rfl) .nil, rfl⟩

set_option maxHeartbeats 4000000 in
theorem series_seven_n0x_c [GI : GTab] {p1x0 : Int} {r : (List Int)} (h : series_seven_n0x p1x0 = some r) : ACall Tryz.prog 187 [.nil, .int .u64 p1x0] [] (T1 (fun d_0 => [(d_0, .arr 1 (r.map (AV.int .u8)))]) (fun d_0 => .sl 1 d_0 0 r.length)) := by
  unfold series_seven_n0x at h
  refine ACall.lessH ?_
  refine ACall.bodyN Tryz.func187 rfl Tryz.ntmps187 Tryz.results187 rfl rfl ?_
  refine tSR <| rA rfl rfl <| rN <| tS <| ATodo.block <| ATodo.loopI (fun x : (List Int) × Int => series_seven_n0x_b1 x.1 x.2) (fun x σ' => ∃ (b4 : Bk), σ' = ⟨21, [(0, .sl 1 b4 0 x.1.length), (1, .int .u64 x.2)], [(b4, .arr 1 (x.1.map (AV.int .u8)))]⟩) h ?_ ?_
  · exact ImpX.arr (s := 0) 1 rfl fun b7 => ImpX.lq [0] ⟨b7, rfl⟩ rfl rfl
  · intro x z1 σ' J1 hmk h hJ1 hA1
    obtain ⟨l5, n6⟩ := x
    obtain ⟨b4, rfl⟩ := hmk
    replace h : series_seven_n0x_b1 l5 n6 = some z1 := h
    unfold series_seven_n0x_b1 at h
    refine tS <| tSR <| rM rfl rfl <| ARun.qv (q_geq rfl rfl) rfl <| rN <| ATodo.cond_d rfl (fun hc => ?_) (fun hc => ?_)
    · refine have h := iteT hc h; tK <| ATodo.block <| tR <| rM rfl rfl <| rM rfl rfl <| ARun.qv (t_and rfl rfl) rfl <| ARun.qv (q_conv_int rfl) rfl <| ARun.qv (t_or rfl rfl) rfl <| n_buildSliceL (xs := ([orI .u8 (IntKind.u8.wrap (andI .u64 n6 (127 : Int))) (128 : Int)]).map (AV.int .u8)) rfl rfl rfl rfl rfl rfl <| bndE h fun l8 e1 h => t_append (g := (AV.int .u8)) rfl rfl rfl rfl rfl rfl rfl rfl (.list _) e1 (fun _ => .p0) rfl fun b9 => rM rfl rfl <| ARun.qv (t_shr rfl rfl (by decide)) rfl <| rA rfl rfl <| rA rfl rfl <| rN <| ATodo.blk <| ATodo.stop <| ?_
      obtain rfl := Option.some.inj h
      exact hJ1 _ _ rfl <| ImpX.lq [0] ⟨b9, rfl⟩ rfl rfl
    · refine have h := iteF hc h; ATodo.exit rfl <| have h := outL h hA1; ?_
      unfold series_seven_n0x_k1 at h
      refine tSR <| rM rfl rfl <| rM rfl rfl <| ARun.qv (q_conv_int rfl) rfl <| n_buildSliceL (xs := ([IntKind.u8.wrap (n6)] : List Int).map (AV.int .u8)) rfl rfl rfl rfl rfl rfl <| bndE h fun l10 e2 h => t_append (g := (AV.int .u8)) rfl rfl rfl rfl rfl rfl rfl rfl (.list _) e2 (fun _ => .p0) rfl fun b11 => rA rfl rfl <| rN <| ATodo.ret <| ?_
      obtain rfl := Option.some.inj h
      exact ImpX.here ⟨_, .cons (.tmp _ _ rfl) .nil, _, .cons .p0 .nil, ⟨b11, rfl, rfl⟩⟩

set_option maxHeartbeats 4000000 in
theorem series_doubled_c [GI : GTab] {p0x0 : Int} {r : Int} (h : series_doubled p0x0 = r) : Pu Tryz.prog 188 [I p0x0] (.int .u64 r) := by
  unfold series_doubled at h
  refine ACall.bodyN Tryz.func188 rfl Tryz.ntmps188 Tryz.results188 rfl rfl ?_
  refine tSR <| rA rfl rfl <| rN <| tS <| tSR <| rM rfl rfl <| ARun.qv (q_lss rfl rfl) rfl <| rN <| ATodo.cond_d rfl (fun hc => ?_) (fun hc => ?_)
  · refine have h := iteT hc h; tSR <| rM rfl rfl <| ARun.qv (q_mulw rfl rfl) rfl <| ARun.qv (q_subw rfl rfl) rfl <| ARun.qv (q_conv_int rfl) rfl <| rA rfl rfl <| rN <| ATodo.ret <| ?_
    obtain rfl := h
    exact ImpX.here ⟨_, .cons (.tmp _ _ rfl) .nil, rfl⟩
  · refine have h := iteF hc h; tK <| tSR <| rM rfl rfl <| ARun.qv (q_mulw rfl rfl) rfl <| ARun.qv (q_conv_int rfl) rfl <| rA rfl rfl <| rN <| ATodo.ret <| ?_
    obtain rfl := h
    exact ImpX.here ⟨_, .cons (.tmp _ _ rfl) .nil, rfl⟩

set_option maxHeartbeats 4000000 in
theorem series_seven_o0x_c [GI : GTab] {b_0 : Bk} {p0x0 : List Int} {p1x0 : Int} {r : (List Int)} (h : series_seven_o0x p0x0 p1x0 = some r) : ACall Tryz.prog 187 [.sl 1 b_0 0 p0x0.length, .int .u64 p1x0] [(b_0, .arr 1 (p0x0.map (AV.int .u8)))] (T1 (fun d_0 => [(d_0, .arr 1 (r.map (AV.int .u8)))]) (fun d_0 => .sl 1 d_0 0 r.length)) := by
  unfold series_seven_o0x at h
  refine ACall.lessH ?_
  refine ACall.bodyN Tryz.func187 rfl Tryz.ntmps187 Tryz.results187 rfl rfl ?_
  refine tSR <| rA rfl rfl <| rN <| tS <| ATodo.block <| ATodo.loopI (fun x : (List Int) × Int => series_seven_o0x_b1 x.1 x.2) (fun x σ' => ∃ (b4 : Bk), σ' = ⟨21, [(0, .sl 1 b4 0 x.1.length), (1, .int .u64 x.2)], [(b4, .arr 1 (x.1.map (AV.int .u8)))]⟩) h ?_ ?_
  · exact ImpX.lq [0] ⟨b_0, rfl⟩ rfl rfl
  · intro x z1 σ' J1 hmk h hJ1 hA1
    obtain ⟨l5, n6⟩ := x
    obtain ⟨b4, rfl⟩ := hmk
    replace h : series_seven_o0x_b1 l5 n6 = some z1 := h
    unfold series_seven_o0x_b1 at h
    refine tS <| tSR <| rM rfl rfl <| ARun.qv (q_geq rfl rfl) rfl <| rN <| ATodo.cond_d rfl (fun hc => ?_) (fun hc => ?_)
    · refine have h := iteT hc h; tK <| ATodo.block <| tR <| rM rfl rfl <| rM rfl rfl <| ARun.qv (t_and rfl rfl) rfl <| ARun.qv (q_conv_int rfl) rfl <| ARun.qv (t_or rfl rfl) rfl <| n_buildSliceL (xs := ([orI .u8 (IntKind.u8.wrap (andI .u64 n6 (127 : Int))) (128 : Int)]).map (AV.int .u8)) rfl rfl rfl rfl rfl rfl <| bndE h fun l7 e1 h => t_append (g := (AV.int .u8)) rfl rfl rfl rfl rfl rfl rfl rfl (.list _) e1 (fun _ => .p0) rfl fun b8 => rM rfl rfl <| ARun.qv (t_shr rfl rfl (by decide)) rfl <| rA rfl rfl <| rA rfl rfl <| rN <| ATodo.blk <| ATodo.stop <| ?_
      obtain rfl := Option.some.inj h
      exact hJ1 _ _ rfl <| ImpX.lq [0] ⟨b8, rfl⟩ rfl rfl
    · refine have h := iteF hc h; ATodo.exit rfl <| have h := outL h hA1; ?_
      unfold series_seven_o0x_k1 at h
      refine tSR <| rM rfl rfl <| rM rfl rfl <| ARun.qv (q_conv_int rfl) rfl <| n_buildSliceL (xs := ([IntKind.u8.wrap (n6)] : List Int).map (AV.int .u8)) rfl rfl rfl rfl rfl rfl <| bndE h fun l9 e2 h => t_append (g := (AV.int .u8)) rfl rfl rfl rfl rfl rfl rfl rfl (.list _) e2 (fun _ => .p0) rfl fun b10 => rA rfl rfl <| rN <| ATodo.ret <| ?_
      obtain rfl := Option.some.inj h
      exact ImpX.here ⟨_, .cons (.tmp _ _ rfl) .nil, _, .cons .p0 .nil, ⟨b10, rfl, rfl⟩⟩

set_option maxHeartbeats 4000000 in
theorem series_pack_c [GI : GTab] {p0x0 : List Sample} {r : (List Int)} (h : series_pack p0x0 = some r) : ACall Tryz.prog 139 [.list 4 (p0x0.map Sample.av)] [] (T1 (fun d_0 => [(d_0, .arr 1 (r.map (AV.int .u8)))]) (fun d_0 => .sl 1 d_0 0 r.length)) := by
  unfold series_pack at h
  refine ACall.lessH ?_
  refine ACall.bodyN Tryz.func139 rfl Tryz.ntmps139 Tryz.results139 rfl rfl ?_
  refine tSR <| rA rfl rfl <| rN <| tSR <| rM rfl rfl <| ARun.qv (t_len rfl) rfl <| ARun.qv (q_conv_int rfl) rfl <| bndE h fun v1 e1 h => t_call1 rfl (series_seven_n0x_c e1) (CoL.refl _) .nil (fun _ => rfl) rfl fun b2 => rA rfl rfl <| rN <| tSR <| rA rfl rfl <| rA rfl rfl <| rA rfl rfl <| rN <| tS <| tSR <| rM rfl rfl <| ARun.qv (t_len rfl) rfl <| rM rfl rfl <| rN <| ATodo.block <| ATodo.loopI (fun x : (List Int) × Int × Int × Int × Int => series_pack_b1 p0x0 x.1 x.2.1 x.2.2.1 x.2.2.2.1 x.2.2.2.2) (fun x σ' => ∃ (b9 : Bk), σ' = ⟨47, [(3, .sl 1 b9 0 x.1.length), (4, I x.2.1), (5, I x.2.2.1), (6, I x.2.2.2.1), (14, .list 4 (p0x0.map Sample.av)), (15, I (p0x0.length : Int)), (16, I x.2.2.2.2)], [(b9, .arr 1 (x.1.map (AV.int .u8)))]⟩) h ?_ ?_
  · exact ImpX.lq [0] ⟨b2, rfl⟩ rfl rfl
  · intro x z1 σ' J1 hmk h hJ1 hA1
    obtain ⟨l10, n11, n12, n13, n14⟩ := x
    obtain ⟨b9, rfl⟩ := hmk
    replace h : series_pack_b1 p0x0 l10 n11 n12 n13 n14 = some z1 := h
    unfold series_pack_b1 at h
    refine tSR <| ARun.qv (q_lss rfl rfl) rfl <| rN <| tS <| ATodo.cond_d rfl (fun hc => ?_) (fun hc => ?_)
    · refine have h := iteT hc h; tK <| tS <| ATodo.block <| tSR <| rM rfl rfl <| bndE h fun v15 e2 h => ARun.qv (t_index rfl rfl rfl e2 rfl rfl) rfl <| ARun.qv (q_load_rptr_agg rfl rfl rfl) rfl <| n_alloc rfl rfl rfl rfl fun b16 => rA rfl rfl <| n_store_ptr rfl rfl rfl rfl .p0 rfl rfl <| rN <| tSR <| rF rfl rfl rfl <| rL rfl rfl .p0 rfl rfl <| rM rfl rfl <| ARun.qv (q_subw rfl rfl) rfl <| rA rfl rfl <| rN <| tSR <| rM rfl rfl <| rM rfl rfl <| rM rfl rfl <| ARun.qv (q_subw rfl rfl) rfl <| r_callp rfl (series_doubled_c rfl) (CoL.refl _) rfl <| bndE h fun v17 e3 h => t_call1 rfl (series_seven_o0x_c e3) (CoL.refl _) (.cons .p1 .nil) (fun _ => rfl) rfl fun b18 => rA rfl rfl <| rN <| tSR <| rM rfl rfl <| rF rfl rfl rfl <| rL rfl rfl .p1 rfl rfl <| rM rfl rfl <| ARun.qv (q_subw rfl rfl) rfl <| r_callp rfl (series_doubled_c rfl) (CoL.refl _) rfl <| bndE h fun v19 e4 h => t_call1 rfl (series_seven_o0x_c e4) (CoL.refl _) (.cons .p0 .nil) (fun _ => rfl) rfl fun b20 => rA rfl rfl <| rN <| tS <| tSR <| rM rfl rfl <| ARun.qv (q_gtr rfl rfl) rfl <| rN <| ATodo.cut (fun σ' => ∃ (n21 : Int), series_pack_j1 n14 v15 v19 n21 = some z1 ∧ σ' = ⟨47, [(3, .sl 1 b20 0 v19.length), (5, I n21), (8, .ptr b16 0), (14, .list 4 (p0x0.map Sample.av)), (15, I (p0x0.length : Int)), (16, I n14)], [(b20, .arr 1 (v19.map (AV.int .u8))), (b16, .cells [.str v15.Device, .str v15.Metric, I v15.At, I v15.Value])]⟩) ?_ ?_
      · refine ATodo.cond_d rfl (fun hc => ?_) (fun hc => ?_)
        · exact have h := iteT hc h; tR <| rM rfl rfl <| rA rfl rfl <| rN <| ATodo.stop <| ImpX.lq [0, 0] ⟨w64 (v15.At - n11), h, rfl⟩ rfl rfl
        · exact have h := iteF hc h; tK <| ATodo.stop <| ImpX.lq [0, 0] ⟨n12, h, rfl⟩ rfl rfl
      · rintro σ' ⟨n21, h, rfl⟩
        unfold series_pack_j1 at h
        refine ATodo.regionM (id := 11) (A := [0, 1, 0, 4, 3, 31]) 6 mixed rfl (by kernel_rfl) (by kernel_rfl) <| AM.qv (n_field_ptr rfl rfl) rfl <| AM.qv (q_load_ptr rfl rfl .p1 rfl) rfl <| AM.qv (n_field_ptr rfl rfl) rfl <| AM.qv (q_load_ptr rfl rfl .p1 rfl) rfl <| AM.qv (q_assign rfl) rfl <| AM.qv (q_assign rfl) rfl <| AM.nil <| rN <| ATodo.blk <| tR <| ARun.qv (q_addw rfl rfl) rfl <| rM rfl rfl <| rN <| ATodo.stop <| ?_
        obtain rfl := Option.some.inj h
        exact hJ1 _ _ rfl <| ImpX.lq [0] ⟨b20, rfl⟩ rfl rfl
    · refine have h := iteF hc h; ATodo.exit rfl <| have h := outL h hA1; tSR <| rM rfl rfl <| rA rfl rfl <| rN <| ATodo.ret <| ?_
      obtain rfl := Option.some.inj h
      exact ImpX.here ⟨_, .cons (.tmp _ _ rfl) .nil, _, .cons .p0 .nil, ⟨b9, rfl, rfl⟩⟩

set_option maxHeartbeats 4000000 in
theorem series_Pack_c [GI : GTab] {p0x0 : List Sample} {r : (List Int) × Int} (h : series_Pack p0x0 = some r) : ACall Tryz.prog 82 [.list 4 (p0x0.map Sample.av)] [] (T1 (fun d_0 => [(d_0, .arr 1 (r.1.map (AV.int .u8)))]) (fun d_0 => .tup [.sl 1 d_0 0 r.1.length, I r.2])) := by
  unfold series_Pack at h
  refine ACall.lessH ?_
  refine ACall.bodyN Tryz.func82 rfl Tryz.ntmps82 Tryz.results82 rfl rfl ?_
  refine tSR <| rA rfl rfl <| rA rfl rfl <| rN <| tS <| tSR <| rM rfl rfl <| bndE h fun v1 e1 h => r_callp rfl (series_CheckSeries_c e1) (CoL.refl _) rfl <| rA rfl rfl <| rN <| tSR <| rM rfl rfl <| ARun.qv (q_neq rfl rfl) rfl <| rN <| ATodo.cond_d rfl (fun hc => ?_) (fun hc => ?_)
  · refine have h := iteT hc h; tSR <| rM rfl rfl <| rA rfl rfl <| rA rfl rfl <| rN <| ATodo.ret <| ?_
    obtain rfl := Option.some.inj h
    exact ImpX.arr (s := 2) 1 rfl fun b2 => ImpX.here ⟨_, .cons (.tmp _ _ rfl) (.cons (.tmp _ _ rfl) .nil), _, .cons .p0 .nil, ⟨b2, rfl, rfl⟩⟩
  · refine have h := iteF hc h; tK <| tSR <| rM rfl rfl <| bndE h fun v3 e2 h => t_call1 rfl (series_pack_c e2) (CoL.refl _) .nil (fun _ => rfl) rfl fun b4 => rA rfl rfl <| rA rfl rfl <| rN <| ATodo.ret <| ?_
    obtain rfl := Option.some.inj h
    exact ImpX.here ⟨_, .cons (.tmp _ _ rfl) (.cons (.tmp _ _ rfl) .nil), _, .cons .p0 .nil, ⟨b4, rfl, rfl⟩⟩

set_option maxHeartbeats 4000000 in
theorem slices_Equal_byte_byte_c [GI : GTab] {p0x0 : List Int} {p1x0 : List Int} {r : Bool} (h : slices_Equal_byte_byte p0x0 p1x0 = some r) : Pu Tryz.prog 83 [.list 1 (p0x0.map (AV.int .u8)), .list 1 (p1x0.map (AV.int .u8))] (.bool r) := by
  unfold slices_Equal_byte_byte at h
  refine ACall.bodyN Tryz.func83 rfl Tryz.ntmps83 Tryz.results83 rfl rfl ?_
  refine tSR <| rA rfl rfl <| rN <| tS <| tSR <| rM rfl rfl <| ARun.qv (t_len rfl) rfl <| rM rfl rfl <| ARun.qv (t_len rfl) rfl <| ARun.qv (q_neq rfl rfl) rfl <| rN <| ATodo.cond_d rfl (fun hc => ?_) (fun hc => ?_)
  · refine have h := iteT hc h; tSR <| rA rfl rfl <| rN <| ATodo.ret <| ?_
    obtain rfl := Option.some.inj h
    exact ImpX.here ⟨_, .cons (.tmp _ _ rfl) .nil, rfl⟩
  · refine have h := iteF hc h; tK <| tS <| tSR <| rM rfl rfl <| ARun.qv (t_len rfl) rfl <| rM rfl rfl <| rN <| ATodo.block <| ATodo.loopI (fun x : Int => slices_Equal_byte_byte_b1 p0x0 p1x0 x) (fun x σ' => σ' = ⟨26, [(0, .list 1 (p0x0.map (AV.int .u8))), (1, .list 1 (p1x0.map (AV.int .u8))), (12, I (p0x0.length : Int)), (13, I x)], []⟩) h ?_ ?_
    · exact ImpX.lq [] rfl rfl rfl
    · intro n2 z1 σ' J1 hmk h hJ1 hA1
      obtain rfl := hmk
      replace h : slices_Equal_byte_byte_b1 p0x0 p1x0 n2 = some z1 := h
      unfold slices_Equal_byte_byte_b1 at h
      refine tSR <| ARun.qv (q_lss rfl rfl) rfl <| rN <| tS <| ATodo.cond_d rfl (fun hc => ?_) (fun hc => ?_)
      · refine have h := iteT hc h; tK <| tS <| ATodo.block <| tSR <| rM rfl rfl <| rA rfl rfl <| rN <| tS <| ATodo.regionM (id := 6) (A := [0, 0, 3, 7, 0, 0, 48, 112, 255]) 9 mixed rfl (by kernel_rfl) (by kernel_rfl) <| AM.qv (q_move rfl) rfl <| AM.qv (q_move rfl) rfl <| bndE h fun v3 e1 h => AM.qv (t_index rfl rfl rfl e1 rfl rfl) rfl <| AM.qv (q_load_rptr rfl rfl rfl) rfl <| AM.qv (q_move rfl) rfl <| AM.qv (q_move rfl) rfl <| bndE h fun v4 e2 h => AM.qv (t_index rfl rfl rfl e2 rfl rfl) rfl <| AM.qv (q_load_rptr rfl rfl rfl) rfl <| AM.qv (q_neq rfl rfl) rfl <| AM.nil <| rN <| ATodo.cond_d rfl (fun hc => ?_) (fun hc => ?_)
        · refine have h := iteT hc h; tSR <| rA rfl rfl <| rN <| ATodo.ret <| have h := outL h hA1; ?_
          obtain rfl := Option.some.inj h
          exact ImpX.here ⟨_, .cons (.tmp _ _ rfl) .nil, rfl⟩
        · refine have h := iteF hc h; tK <| ATodo.blk <| tR <| ARun.qv (q_addw rfl rfl) rfl <| rM rfl rfl <| rN <| ATodo.stop <| ?_
          obtain rfl := Option.some.inj h
          exact hJ1 _ _ rfl <| ImpX.lq [] rfl rfl rfl
      · refine have h := iteF hc h; ATodo.exit rfl <| have h := outL h hA1; tSR <| rA rfl rfl <| rN <| ATodo.ret <| ?_
        obtain rfl := Option.some.inj h
        exact ImpX.here ⟨_, .cons (.tmp _ _ rfl) .nil, rfl⟩

set_option maxHeartbeats 4000000 in
theorem L_measured_c [GI : GTab] {r : Bool} (h : L_measured = some r) : Pu Tryz.prog 25 [] (.bool r) := by
  unfold L_measured at h
  refine ACall.bodyN Tryz.func25 rfl Tryz.ntmps25 Tryz.results25 rfl rfl ?_
  refine tSR <| rA rfl rfl <| rN <| tSR <| ARun.qv (n_build rfl rfl rfl rfl rfl) rfl <| n_buildSliceL (xs := ([(⟨([100] : Str), ([109] : Str), (1 : Int), (1 : Int)⟩ : Sample)]).map Sample.av) rfl rfl rfl rfl rfl rfl <| bndE h fun v1 e1 h => t_call1 rfl (series_Pack_c e1) (CoL.refl _) .nil (fun _ => rfl) rfl fun b2 => rM rfl rfl <| rX rfl rfl rfl <| rX rfl rfl rfl <| rA rfl rfl <| rA rfl rfl <| rN <| tS <| ATodo.cut (fun σ' => ∃ (c3 : Bool), L_measured_j1 c3 = some r ∧ σ' = ⟨16, [(0, .bool c3)], []⟩) ?_ ?_
  · refine tR <| rM rfl rfl <| ARun.qv (q_eql rfl rfl) rfl <| rM rfl rfl <| ARun.guard_dt rfl rfl rfl (fun hc => ?_) (fun hc => ?_)
    · exact have h := iteT hc h; rM rfl rfl <| rY rfl rfl rfl <| n_buildSliceL (xs := ([(1 : Int), (2 : Int), (2 : Int)]).map (AV.int .u8)) rfl rfl rfl rfl rfl rfl <| rY rfl rfl rfl <| bndE h fun v4 e2 h => r_callpB rfl (slices_Equal_byte_byte_c e2) (.cons (CoB.arrT .p0) (.cons (.co (.refl _)) .nil)) rfl rfl <| rT rfl rfl rfl <| rA rfl rfl <| rN <| ATodo.stop <| ImpX.lq [] ⟨v4, h, rfl⟩ rfl rfl
    · exact have h := iteF hc h; rG rfl rfl rfl rfl <| rG rfl rfl rfl rfl <| rE rfl rfl rfl <| rA rfl rfl <| rN <| ATodo.stop <| ImpX.lq [] ⟨false, h, rfl⟩ rfl rfl
  · rintro σ' ⟨c3, h, rfl⟩
    unfold L_measured_j1 at h
    refine ATodo.ret <| ?_
    obtain rfl := Option.some.inj h
    exact ImpX.here ⟨_, .cons (.tmp _ _ rfl) .nil, rfl⟩

set_option maxHeartbeats 4000000 in
theorem L_SampleTexts_c {p0x0 : List Int} {r : Bool} (h : L_SampleTexts p0x0 = some r) : Pu Tryz.prog 4 [.list 1 (p0x0.map I)] (.bool r) := by
  unfold L_SampleTexts at h
  refine ACall.bodyN Tryz.func4 rfl Tryz.ntmps4 Tryz.results4 rfl rfl ?_
  refine tSR <| rA rfl rfl <| rN <| tSR <| rM rfl rfl <| ARun.qv (n_build rfl rfl rfl rfl rfl) rfl <| n_box rfl rfl rfl rfl fun b1 => rA rfl rfl <| rN <| tSR <| rM rfl rfl <| rM rfl rfl <| bndE h fun v2 e1 h => t_call0 rfl (Stream_Range_c e1) (CoL.refl _) (.cons .p0 .nil) rfl rfl <| bndE h fun v3 e2 h => t_call1 rfl (Stream_Samples_c e2) (CoL.refl _) (.cons .p0 .nil) (fun _ => rfl) rfl fun b4 => rM rfl rfl <| bndE h fun v5 e3 h => t_call0 rfl (Stream_SampleText_c e3) (CoL.refl _) (.cons .p0 .nil) rfl rfl <| rA rfl rfl <| rA rfl rfl <| rN <| tSR <| rM rfl rfl <| bndE h fun v6 e4 h => r_callpB rfl (series_Text_c e4) (.cons (CoB.arrT .p1) .nil) rfl rfl <| rM rfl rfl <| rX rfl rfl rfl <| rX rfl rfl rfl <| rA rfl rfl <| rA rfl rfl <| rN <| tSR <| rM rfl rfl <| bndE h fun v7 e5 h => r_callpB rfl (Q_SamplesFault_c e5) (.cons (CoB.arrT .p1) .nil) rfl rfl <| rA rfl rfl <| rA rfl rfl <| rN <| tS <| tSR <| rM rfl rfl <| ARun.qv (q_eql rfl rfl) rfl <| rN <| ATodo.cut (fun σ' => ∃ (q8 : Str), L_SampleTexts_j1 v5 v6 v7 q8 = some r ∧ σ' = ⟨74, [(5, .str v5.1), (6, .str v6.1), (7, I v6.2), (8, I v7), (9, .str q8)], []⟩) ?_ ?_
  · refine ATodo.cond_d rfl (fun hc => ?_) (fun hc => ?_)
    · exact have h := iteT hc h; tR <| rM rfl rfl <| bndE h fun v9 e6 h => r_callpB rfl (Q_SampleLines_c e6) (.cons (CoB.arrT .p1) .nil) rfl rfl <| rA rfl rfl <| rN <| ATodo.stop <| ImpX.lq [] ⟨v9, h, rfl⟩ rfl rfl
    · exact have h := iteF hc h; tK <| ATodo.stop <| ImpX.lq [] ⟨([] : Str), h, rfl⟩ rfl rfl
  · rintro σ' ⟨q8, h, rfl⟩
    unfold L_SampleTexts_j1 at h
    refine tSR <| rM rfl rfl <| bndE h fun v10 e7 h => t_call1 rfl (series_Read_c e7) (CoL.refl _) .nil (fun _ => rfl) rfl fun b11 => rM rfl rfl <| rX rfl rfl rfl <| rX rfl rfl rfl <| rX rfl rfl rfl <| rA rfl rfl <| rA rfl rfl <| rA rfl rfl <| rN <| tSR <| rM rfl rfl <| bndE h fun v12 e8 h => t_call1 rfl (Q_SamplesRead_c e8) (CoL.refl _) .nil (fun _ => rfl) rfl fun b13 => rM rfl rfl <| rX rfl rfl rfl <| rX rfl rfl rfl <| rX rfl rfl rfl <| rA rfl rfl <| rA rfl rfl <| rA rfl rfl <| rN <| tS <| ATodo.cut (fun σ' => ∃ (c14 : Bool), L_SampleTexts_j2 c14 = some r ∧ σ' = ⟨74, [(2, .bool c14)], []⟩) ?_ ?_
    · refine tR <| rM rfl rfl <| rM rfl rfl <| ARun.qv (q_eql rfl rfl) rfl <| rM rfl rfl <| ARun.guard_dt rfl rfl rfl (fun hc => ?_) (fun hc => ?_)
      · refine have h := iteT hc h; rM rfl rfl <| rY rfl rfl rfl <| rM rfl rfl <| rY rfl rfl rfl <| ARun.qv (q_seq rfl rfl) rfl <| rT rfl rfl rfl <| rM rfl rfl <| ARun.guard_dt rfl rfl rfl (fun hc => ?_) (fun hc => ?_)
        · refine have h := iteT hc h; rM rfl rfl <| rY rfl rfl rfl <| rM rfl rfl <| rY rfl rfl rfl <| bndE h fun v15 e9 h => r_callpB rfl (slices_Equal_Sample_Sample_c e9) (.cons (CoB.arrT .p1) (.cons (CoB.arrT .p0) .nil)) rfl rfl <| rT rfl rfl rfl <| rM rfl rfl <| ARun.guard rfl rfl rfl (fun hc => ?_) (fun hc => ?_)
          · refine have h := iteT hc h; rM rfl rfl <| rY rfl rfl rfl <| rM rfl rfl <| rY rfl rfl rfl <| ARun.qv (q_eql rfl rfl) rfl <| rT rfl rfl rfl <| rM rfl rfl <| ARun.guard_dt rfl rfl rfl (fun hc => ?_) (fun hc => ?_)
            · refine have h := iteT hc h; rM rfl rfl <| rY rfl rfl rfl <| rM rfl rfl <| rY rfl rfl rfl <| ARun.qv (q_eql rfl rfl) rfl <| rT rfl rfl rfl <| rM rfl rfl <| ARun.guard_dt rfl rfl rfl (fun hc => ?_) (fun hc => ?_)
              · exact have h := iteT hc h; bndE h fun v16 e10 h => r_callp rfl (L_measured_c e10) (CoL.refl _) rfl <| rT rfl rfl rfl <| rA rfl rfl <| rN <| ATodo.stop <| ImpX.lq [] ⟨v16, h, rfl⟩ rfl rfl
              · exact have h := iteF hc h; rE rfl rfl rfl <| rA rfl rfl <| rN <| ATodo.stop <| ImpX.lq [] ⟨false, h, rfl⟩ rfl rfl
            · exact have h := iteF hc h; rG rfl rfl rfl rfl <| rG rfl rfl rfl rfl <| rE rfl rfl rfl <| rM rfl rfl <| rG rfl rfl rfl rfl <| rE rfl rfl rfl <| rA rfl rfl <| rN <| ATodo.stop <| ImpX.lq [] ⟨false, h, rfl⟩ rfl rfl
          · exact have h := iteFb hc h; rG rfl rfl rfl rfl <| rG rfl rfl rfl rfl <| rE rfl rfl rfl <| rM rfl rfl <| rG rfl rfl rfl rfl <| rG rfl rfl rfl rfl <| rG rfl rfl rfl rfl <| rE rfl rfl rfl <| rM rfl rfl <| rG rfl rfl rfl rfl <| rE rfl rfl rfl <| rA rfl rfl <| rN <| ATodo.stop <| ImpX.lq [] ⟨false, h, rfl⟩ rfl rfl
        · exact have h := iteF hc h; rG rfl rfl rfl rfl <| rG rfl rfl rfl rfl <| rE rfl rfl rfl <| rM rfl rfl <| rG rfl rfl rfl rfl <| rG rfl rfl rfl rfl <| rG rfl rfl rfl rfl <| rE rfl rfl rfl <| rM rfl rfl <| rG rfl rfl rfl rfl <| rG rfl rfl rfl rfl <| rG rfl rfl rfl rfl <| rE rfl rfl rfl <| rM rfl rfl <| rG rfl rfl rfl rfl <| rE rfl rfl rfl <| rA rfl rfl <| rN <| ATodo.stop <| ImpX.lq [] ⟨false, h, rfl⟩ rfl rfl
      · exact have h := iteF hc h; rG rfl rfl rfl rfl <| rG rfl rfl rfl rfl <| rE rfl rfl rfl <| rM rfl rfl <| rG rfl rfl rfl rfl <| rG rfl rfl rfl rfl <| rG rfl rfl rfl rfl <| rE rfl rfl rfl <| rM rfl rfl <| rG rfl rfl rfl rfl <| rG rfl rfl rfl rfl <| rG rfl rfl rfl rfl <| rE rfl rfl rfl <| rM rfl rfl <| rG rfl rfl rfl rfl <| rG rfl rfl rfl rfl <| rG rfl rfl rfl rfl <| rE rfl rfl rfl <| rM rfl rfl <| rG rfl rfl rfl rfl <| rE rfl rfl rfl <| rA rfl rfl <| rN <| ATodo.stop <| ImpX.lq [] ⟨false, h, rfl⟩ rfl rfl
    · rintro σ' ⟨c14, h, rfl⟩
      unfold L_SampleTexts_j2 at h
      refine ATodo.ret <| ?_
      obtain rfl := Option.some.inj h
      exact ImpX.here ⟨_, .cons (.tmp _ _ rfl) .nil, rfl⟩

end Go.Proofs.YtlhoigimdehaeaaGreatDoor

