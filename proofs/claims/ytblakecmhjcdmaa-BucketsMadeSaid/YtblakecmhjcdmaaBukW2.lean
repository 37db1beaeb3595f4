/- The code computes the plain functions: proofs written by shal.py. -/
import Derived.Test.YtblakecmhjcdmaaBukW1
set_option maxRecDepth 100000
set_option linter.unusedVariables false
set_option linter.unusedSimpArgs false
namespace Go.Proofs.Ytblakecmhjcdmaa
open Go Go.Eng Go.Proofs Go.Beacon
attribute [local irreducible] ARun ATodo AQ QV ACall ImpX AWp AM
set_option maxHeartbeats 4000000 in
theorem series_seven_n0x_c [GI : GTab] {p1x0 : Int} {r : (List Int)} (h : series_seven_n0x p1x0 = some r) : ACall Try.prog 74 [.nil, .int .u64 p1x0] [] (T1 (fun d_0 => [(d_0, .arr 1 (r.map (AV.int .u8)))]) (fun d_0 => .sl 1 d_0 0 r.length)) := by
  unfold series_seven_n0x at h
  refine ACall.lessH ?_
  refine ACall.bodyN Try.func74 rfl Try.ntmps74 Try.results74 rfl rfl ?_
  refine tSR <| rA rfl rfl <| rN <| tS <| ATodo.block <| ATodo.loopI (fun x : (List Int) × Int => series_seven_n0x_b1 x.1 x.2) (fun x σ' => ∃ (b4 : Bk), σ' = ⟨21, [(0, .sl 1 b4 0 x.1.length), (1, .int .u64 x.2)], [(b4, .arr 1 (x.1.map (AV.int .u8)))]⟩) h ?_ ?_
  · exact ImpX.arr (s := 0) 1 rfl fun b7 => ImpX.lq [0] ⟨b7, rfl⟩ rfl rfl
  · intro x z1 σ' J1 hmk h hJ1 hA1
    obtain ⟨l5, n6⟩ := x
    obtain ⟨b4, rfl⟩ := hmk
    replace h : series_seven_n0x_b1 l5 n6 = some z1 := h
    unfold series_seven_n0x_b1 at h
    refine tS <| tSR <| rM rfl rfl <| ARun.qv (q_geq rfl rfl) rfl <| rN <| ATodo.cond_d rfl (fun hc => ?_) (fun hc => ?_)
    · refine have h := iteT hc h; tK <| ATodo.block <| tR <| rM rfl rfl <| rM rfl rfl <| ARun.qv (t_and rfl rfl) rfl <| ARun.qv (q_conv_int rfl) rfl <| ARun.qv (t_or rfl rfl) rfl <| n_buildSliceL (xs := ([orI .u8 (IntKind.u8.wrap (andI .u64 n6 (127 : Int))) (128 : Int)]).map (AV.int .u8)) rfl rfl rfl rfl rfl rfl <| bndE h fun l8 e1 h => t_append (g := (AV.int .u8)) rfl rfl rfl rfl rfl rfl rfl rfl (.list _) e1 (fun _ => .p0) rfl fun b9 => rM rfl rfl <| ARun.qv (t_shr rfl rfl (by decide)) rfl <| rA rfl rfl <| rA rfl rfl <| rN <| ATodo.blk <| ATodo.stop <| ?_
      obtain rfl := Option.some.inj h
      exact hJ1 _ _ rfl <| ImpX.lq [0] ⟨b9, rfl⟩ rfl rfl
    · refine have h := iteF hc h; ATodo.exit rfl <| have h := outL h hA1; ?_
      unfold series_seven_n0x_k1 at h
      refine tSR <| rM rfl rfl <| rM rfl rfl <| ARun.qv (q_conv_int rfl) rfl <| n_buildSliceL (xs := ([IntKind.u8.wrap (n6)] : List Int).map (AV.int .u8)) rfl rfl rfl rfl rfl rfl <| bndE h fun l10 e2 h => t_append (g := (AV.int .u8)) rfl rfl rfl rfl rfl rfl rfl rfl (.list _) e2 (fun _ => .p0) rfl fun b11 => rA rfl rfl <| rN <| ATodo.ret <| ?_
      obtain rfl := Option.some.inj h
      exact ImpX.here ⟨_, .cons (.tmp _ _ rfl) .nil, _, .cons .p0 .nil, ⟨b11, rfl, rfl⟩⟩

set_option maxHeartbeats 4000000 in
theorem series_doubled_c [GI : GTab] {p0x0 : Int} {r : Int} (h : series_doubled p0x0 = r) : Pu Try.prog 75 [I p0x0] (.int .u64 r) := by
  unfold series_doubled at h
  refine ACall.bodyN Try.func75 rfl Try.ntmps75 Try.results75 rfl rfl ?_
  refine tSR <| rA rfl rfl <| rN <| tS <| tSR <| rM rfl rfl <| ARun.qv (q_lss rfl rfl) rfl <| rN <| ATodo.cond_d rfl (fun hc => ?_) (fun hc => ?_)
  · refine have h := iteT hc h; tSR <| rM rfl rfl <| ARun.qv (q_mulw rfl rfl) rfl <| ARun.qv (q_subw rfl rfl) rfl <| ARun.qv (q_conv_int rfl) rfl <| rA rfl rfl <| rN <| ATodo.ret <| ?_
    obtain rfl := h
    exact ImpX.here ⟨_, .cons (.tmp _ _ rfl) .nil, rfl⟩
  · refine have h := iteF hc h; tK <| tSR <| rM rfl rfl <| ARun.qv (q_mulw rfl rfl) rfl <| ARun.qv (q_conv_int rfl) rfl <| rA rfl rfl <| rN <| ATodo.ret <| ?_
    obtain rfl := h
    exact ImpX.here ⟨_, .cons (.tmp _ _ rfl) .nil, rfl⟩

set_option maxHeartbeats 4000000 in
theorem series_seven_o0x_c [GI : GTab] {b_0 : Bk} {p0x0 : List Int} {p1x0 : Int} {r : (List Int)} (h : series_seven_o0x p0x0 p1x0 = some r) : ACall Try.prog 74 [.sl 1 b_0 0 p0x0.length, .int .u64 p1x0] [(b_0, .arr 1 (p0x0.map (AV.int .u8)))] (T1 (fun d_0 => [(d_0, .arr 1 (r.map (AV.int .u8)))]) (fun d_0 => .sl 1 d_0 0 r.length)) := by
  unfold series_seven_o0x at h
  refine ACall.lessH ?_
  refine ACall.bodyN Try.func74 rfl Try.ntmps74 Try.results74 rfl rfl ?_
  refine tSR <| rA rfl rfl <| rN <| tS <| ATodo.block <| ATodo.loopI (fun x : (List Int) × Int => series_seven_o0x_b1 x.1 x.2) (fun x σ' => ∃ (b4 : Bk), σ' = ⟨21, [(0, .sl 1 b4 0 x.1.length), (1, .int .u64 x.2)], [(b4, .arr 1 (x.1.map (AV.int .u8)))]⟩) h ?_ ?_
  · exact ImpX.lq [0] ⟨b_0, rfl⟩ rfl rfl
  · intro x z1 σ' J1 hmk h hJ1 hA1
    obtain ⟨l5, n6⟩ := x
    obtain ⟨b4, rfl⟩ := hmk
    replace h : series_seven_o0x_b1 l5 n6 = some z1 := h
    unfold series_seven_o0x_b1 at h
    refine tS <| tSR <| rM rfl rfl <| ARun.qv (q_geq rfl rfl) rfl <| rN <| ATodo.cond_d rfl (fun hc => ?_) (fun hc => ?_)
    · refine have h := iteT hc h; tK <| ATodo.block <| tR <| rM rfl rfl <| rM rfl rfl <| ARun.qv (t_and rfl rfl) rfl <| ARun.qv (q_conv_int rfl) rfl <| ARun.qv (t_or rfl rfl) rfl <| n_buildSliceL (xs := ([orI .u8 (IntKind.u8.wrap (andI .u64 n6 (127 : Int))) (128 : Int)]).map (AV.int .u8)) rfl rfl rfl rfl rfl rfl <| bndE h fun l7 e1 h => t_append (g := (AV.int .u8)) rfl rfl rfl rfl rfl rfl rfl rfl (.list _) e1 (fun _ => .p0) rfl fun b8 => rM rfl rfl <| ARun.qv (t_shr rfl rfl (by decide)) rfl <| rA rfl rfl <| rA rfl rfl <| rN <| ATodo.blk <| ATodo.stop <| ?_
      obtain rfl := Option.some.inj h
      exact hJ1 _ _ rfl <| ImpX.lq [0] ⟨b8, rfl⟩ rfl rfl
    · refine have h := iteF hc h; ATodo.exit rfl <| have h := outL h hA1; ?_
      unfold series_seven_o0x_k1 at h
      refine tSR <| rM rfl rfl <| rM rfl rfl <| ARun.qv (q_conv_int rfl) rfl <| n_buildSliceL (xs := ([IntKind.u8.wrap (n6)] : List Int).map (AV.int .u8)) rfl rfl rfl rfl rfl rfl <| bndE h fun l9 e2 h => t_append (g := (AV.int .u8)) rfl rfl rfl rfl rfl rfl rfl rfl (.list _) e2 (fun _ => .p0) rfl fun b10 => rA rfl rfl <| rN <| ATodo.ret <| ?_
      obtain rfl := Option.some.inj h
      exact ImpX.here ⟨_, .cons (.tmp _ _ rfl) .nil, _, .cons .p0 .nil, ⟨b10, rfl, rfl⟩⟩

set_option maxHeartbeats 4000000 in
theorem series_pack_c [GI : GTab] {p0x0 : List Sample} {r : (List Int)} (h : series_pack p0x0 = some r) : ACall Try.prog 61 [.list 4 (p0x0.map Sample.av)] [] (T1 (fun d_0 => [(d_0, .arr 1 (r.map (AV.int .u8)))]) (fun d_0 => .sl 1 d_0 0 r.length)) := by
  unfold series_pack at h
  refine ACall.lessH ?_
  refine ACall.bodyN Try.func61 rfl Try.ntmps61 Try.results61 rfl rfl ?_
  refine tSR <| rA rfl rfl <| rN <| tSR <| rM rfl rfl <| ARun.qv (t_len rfl) rfl <| ARun.qv (q_conv_int rfl) rfl <| bndE h fun v1 e1 h => t_call1 rfl (series_seven_n0x_c e1) (CoL.refl _) .nil (fun _ => rfl) rfl fun b2 => rA rfl rfl <| rN <| tSR <| rA rfl rfl <| rA rfl rfl <| rA rfl rfl <| rN <| tS <| tSR <| rM rfl rfl <| ARun.qv (t_len rfl) rfl <| rM rfl rfl <| rN <| ATodo.block <| ATodo.loopI (fun x : (List Int) × Int × Int × Int × Int => series_pack_b1 p0x0 x.1 x.2.1 x.2.2.1 x.2.2.2.1 x.2.2.2.2) (fun x σ' => ∃ (b9 : Bk), σ' = ⟨47, [(3, .sl 1 b9 0 x.1.length), (4, I x.2.1), (5, I x.2.2.1), (6, I x.2.2.2.1), (14, .list 4 (p0x0.map Sample.av)), (15, I (p0x0.length : Int)), (16, I x.2.2.2.2)], [(b9, .arr 1 (x.1.map (AV.int .u8)))]⟩) h ?_ ?_
  · exact ImpX.lq [0] ⟨b2, rfl⟩ rfl rfl
  · intro x z1 σ' J1 hmk h hJ1 hA1
    obtain ⟨l10, n11, n12, n13, n14⟩ := x
    obtain ⟨b9, rfl⟩ := hmk
    replace h : series_pack_b1 p0x0 l10 n11 n12 n13 n14 = some z1 := h
    unfold series_pack_b1 at h
    refine tSR <| ARun.qv (q_lss rfl rfl) rfl <| rN <| tS <| ATodo.cond_d rfl (fun hc => ?_) (fun hc => ?_)
    · refine have h := iteT hc h; tK <| tS <| ATodo.block <| tSR <| rM rfl rfl <| bndE h fun v15 e2 h => ARun.qv (t_index rfl rfl rfl e2 rfl rfl) rfl <| ARun.qv (q_load_rptr_agg rfl rfl rfl) rfl <| n_alloc rfl rfl rfl rfl fun b16 => rA rfl rfl <| n_store_ptr rfl rfl rfl rfl .p0 rfl rfl <| rN <| tSR <| rF rfl rfl rfl <| rL rfl rfl .p0 rfl rfl <| rM rfl rfl <| ARun.qv (q_subw rfl rfl) rfl <| rA rfl rfl <| rN <| tSR <| rM rfl rfl <| rM rfl rfl <| rM rfl rfl <| ARun.qv (q_subw rfl rfl) rfl <| r_callp rfl (series_doubled_c rfl) (CoL.refl _) rfl <| bndE h fun v17 e3 h => t_call1 rfl (series_seven_o0x_c e3) (CoL.refl _) (.cons .p1 .nil) (fun _ => rfl) rfl fun b18 => rA rfl rfl <| rN <| tSR <| rM rfl rfl <| rF rfl rfl rfl <| rL rfl rfl .p1 rfl rfl <| rM rfl rfl <| ARun.qv (q_subw rfl rfl) rfl <| r_callp rfl (series_doubled_c rfl) (CoL.refl _) rfl <| bndE h fun v19 e4 h => t_call1 rfl (series_seven_o0x_c e4) (CoL.refl _) (.cons .p0 .nil) (fun _ => rfl) rfl fun b20 => rA rfl rfl <| rN <| tS <| tSR <| rM rfl rfl <| ARun.qv (q_gtr rfl rfl) rfl <| rN <| ATodo.cut (fun σ' => ∃ (n21 : Int), series_pack_j1 n14 v15 v19 n21 = some z1 ∧ σ' = ⟨47, [(3, .sl 1 b20 0 v19.length), (5, I n21), (8, .ptr b16 0), (14, .list 4 (p0x0.map Sample.av)), (15, I (p0x0.length : Int)), (16, I n14)], [(b20, .arr 1 (v19.map (AV.int .u8))), (b16, .cells [.str v15.Device, .str v15.Metric, I v15.At, I v15.Value])]⟩) ?_ ?_
      · refine ATodo.cond_d rfl (fun hc => ?_) (fun hc => ?_)
        · exact have h := iteT hc h; tR <| rM rfl rfl <| rA rfl rfl <| rN <| ATodo.stop <| ImpX.lq [0, 0] ⟨w64 (v15.At - n11), h, rfl⟩ rfl rfl
        · exact have h := iteF hc h; tK <| ATodo.stop <| ImpX.lq [0, 0] ⟨n12, h, rfl⟩ rfl rfl
      · rintro σ' ⟨n21, h, rfl⟩
        unfold series_pack_j1 at h
        refine ATodo.regionM (id := 11) (A := [0, 1, 0, 4, 3, 31]) 6 mixed rfl (by kernel_rfl) (by kernel_rfl) <| AM.qv (n_field_ptr rfl rfl) rfl <| AM.qv (q_load_ptr rfl rfl .p1 rfl) rfl <| AM.qv (n_field_ptr rfl rfl) rfl <| AM.qv (q_load_ptr rfl rfl .p1 rfl) rfl <| AM.qv (q_assign rfl) rfl <| AM.qv (q_assign rfl) rfl <| AM.nil <| rN <| ATodo.blk <| tR <| ARun.qv (q_addw rfl rfl) rfl <| rM rfl rfl <| rN <| ATodo.stop <| ?_
        obtain rfl := Option.some.inj h
        exact hJ1 _ _ rfl <| ImpX.lq [0] ⟨b20, rfl⟩ rfl rfl
    · refine have h := iteF hc h; ATodo.exit rfl <| have h := outL h hA1; tSR <| rM rfl rfl <| rA rfl rfl <| rN <| ATodo.ret <| ?_
      obtain rfl := Option.some.inj h
      exact ImpX.here ⟨_, .cons (.tmp _ _ rfl) .nil, _, .cons .p0 .nil, ⟨b9, rfl, rfl⟩⟩

set_option maxHeartbeats 4000000 in
theorem series_Pack_c [GI : GTab] {p0x0 : List Sample} {r : (List Int) × Int} (h : series_Pack p0x0 = some r) : ACall Try.prog 42 [.list 4 (p0x0.map Sample.av)] [] (T1 (fun d_0 => [(d_0, .arr 1 (r.1.map (AV.int .u8)))]) (fun d_0 => .tup [.sl 1 d_0 0 r.1.length, I r.2])) := by
  unfold series_Pack at h
  refine ACall.lessH ?_
  refine ACall.bodyN Try.func42 rfl Try.ntmps42 Try.results42 rfl rfl ?_
  refine tSR <| rA rfl rfl <| rA rfl rfl <| rN <| tS <| tSR <| rM rfl rfl <| bndE h fun v1 e1 h => r_callp rfl (series_CheckSeries_c e1) (CoL.refl _) rfl <| rA rfl rfl <| rN <| tSR <| rM rfl rfl <| ARun.qv (q_neq rfl rfl) rfl <| rN <| ATodo.cond_d rfl (fun hc => ?_) (fun hc => ?_)
  · refine have h := iteT hc h; tSR <| rM rfl rfl <| rA rfl rfl <| rA rfl rfl <| rN <| ATodo.ret <| ?_
    obtain rfl := Option.some.inj h
    exact ImpX.arr (s := 2) 1 rfl fun b2 => ImpX.here ⟨_, .cons (.tmp _ _ rfl) (.cons (.tmp _ _ rfl) .nil), _, .cons .p0 .nil, ⟨b2, rfl, rfl⟩⟩
  · refine have h := iteF hc h; tK <| tSR <| rM rfl rfl <| bndE h fun v3 e2 h => t_call1 rfl (series_pack_c e2) (CoL.refl _) .nil (fun _ => rfl) rfl fun b4 => rA rfl rfl <| rA rfl rfl <| rN <| ATodo.ret <| ?_
    obtain rfl := Option.some.inj h
    exact ImpX.here ⟨_, .cons (.tmp _ _ rfl) (.cons (.tmp _ _ rfl) .nil), _, .cons .p0 .nil, ⟨b4, rfl, rfl⟩⟩

set_option maxHeartbeats 4000000 in
theorem slices_Equal_byte_byte_c [GI : GTab] {p0x0 : List Int} {p1x0 : List Int} {r : Bool} (h : slices_Equal_byte_byte p0x0 p1x0 = some r) : Pu Try.prog 43 [.list 1 (p0x0.map (AV.int .u8)), .list 1 (p1x0.map (AV.int .u8))] (.bool r) := by
  unfold slices_Equal_byte_byte at h
  refine ACall.bodyN Try.func43 rfl Try.ntmps43 Try.results43 rfl rfl ?_
  refine tSR <| rA rfl rfl <| rN <| tS <| tSR <| rM rfl rfl <| ARun.qv (t_len rfl) rfl <| rM rfl rfl <| ARun.qv (t_len rfl) rfl <| ARun.qv (q_neq rfl rfl) rfl <| rN <| ATodo.cond_d rfl (fun hc => ?_) (fun hc => ?_)
  · refine have h := iteT hc h; tSR <| rA rfl rfl <| rN <| ATodo.ret <| ?_
    obtain rfl := Option.some.inj h
    exact ImpX.here ⟨_, .cons (.tmp _ _ rfl) .nil, rfl⟩
  · refine have h := iteF hc h; tK <| tS <| tSR <| rM rfl rfl <| ARun.qv (t_len rfl) rfl <| rM rfl rfl <| rN <| ATodo.block <| ATodo.loopI (fun x : Int => slices_Equal_byte_byte_b1 p0x0 p1x0 x) (fun x σ' => σ' = ⟨26, [(0, .list 1 (p0x0.map (AV.int .u8))), (1, .list 1 (p1x0.map (AV.int .u8))), (12, I (p0x0.length : Int)), (13, I x)], []⟩) h ?_ ?_
    · exact ImpX.lq [] rfl rfl rfl
    · intro n2 z1 σ' J1 hmk h hJ1 hA1
      obtain rfl := hmk
      replace h : slices_Equal_byte_byte_b1 p0x0 p1x0 n2 = some z1 := h
      unfold slices_Equal_byte_byte_b1 at h
      refine tSR <| ARun.qv (q_lss rfl rfl) rfl <| rN <| tS <| ATodo.cond_d rfl (fun hc => ?_) (fun hc => ?_)
      · refine have h := iteT hc h; tK <| tS <| ATodo.block <| tSR <| rM rfl rfl <| rA rfl rfl <| rN <| tS <| ATodo.regionM (id := 6) (A := [0, 0, 3, 7, 0, 0, 48, 112, 255]) 9 mixed rfl (by kernel_rfl) (by kernel_rfl) <| AM.qv (q_move rfl) rfl <| AM.qv (q_move rfl) rfl <| bndE h fun v3 e1 h => AM.qv (t_index rfl rfl rfl e1 rfl rfl) rfl <| AM.qv (q_load_rptr rfl rfl rfl) rfl <| AM.qv (q_move rfl) rfl <| AM.qv (q_move rfl) rfl <| bndE h fun v4 e2 h => AM.qv (t_index rfl rfl rfl e2 rfl rfl) rfl <| AM.qv (q_load_rptr rfl rfl rfl) rfl <| AM.qv (q_neq rfl rfl) rfl <| AM.nil <| rN <| ATodo.cond_d rfl (fun hc => ?_) (fun hc => ?_)
        · refine have h := iteT hc h; tSR <| rA rfl rfl <| rN <| ATodo.ret <| have h := outL h hA1; ?_
          obtain rfl := Option.some.inj h
          exact ImpX.here ⟨_, .cons (.tmp _ _ rfl) .nil, rfl⟩
        · refine have h := iteF hc h; tK <| ATodo.blk <| tR <| ARun.qv (q_addw rfl rfl) rfl <| rM rfl rfl <| rN <| ATodo.stop <| ?_
          obtain rfl := Option.some.inj h
          exact hJ1 _ _ rfl <| ImpX.lq [] rfl rfl rfl
      · refine have h := iteF hc h; ATodo.exit rfl <| have h := outL h hA1; tSR <| rA rfl rfl <| rN <| ATodo.ret <| ?_
        obtain rfl := Option.some.inj h
        exact ImpX.here ⟨_, .cons (.tmp _ _ rfl) .nil, rfl⟩

set_option maxHeartbeats 4000000 in
theorem L_measured_c [GI : GTab] {r : Bool} (h : L_measured = some r) : Pu Try.prog 22 [] (.bool r) := by
  unfold L_measured at h
  refine ACall.bodyN Try.func22 rfl Try.ntmps22 Try.results22 rfl rfl ?_
  refine tSR <| rA rfl rfl <| rN <| tSR <| ARun.qv (n_build rfl rfl rfl rfl rfl) rfl <| n_buildSliceL (xs := ([(⟨([100] : Str), ([109] : Str), (1 : Int), (1 : Int)⟩ : Sample)]).map Sample.av) rfl rfl rfl rfl rfl rfl <| bndE h fun v1 e1 h => t_call1 rfl (series_Pack_c e1) (CoL.refl _) .nil (fun _ => rfl) rfl fun b2 => rM rfl rfl <| rX rfl rfl rfl <| rX rfl rfl rfl <| rA rfl rfl <| rA rfl rfl <| rN <| tS <| ATodo.cut (fun σ' => ∃ (c3 : Bool), L_measured_j1 c3 = some r ∧ σ' = ⟨16, [(0, .bool c3)], []⟩) ?_ ?_
  · refine tR <| rM rfl rfl <| ARun.qv (q_eql rfl rfl) rfl <| rM rfl rfl <| ARun.guard_dt rfl rfl rfl (fun hc => ?_) (fun hc => ?_)
    · exact have h := iteT hc h; rM rfl rfl <| rY rfl rfl rfl <| n_buildSliceL (xs := ([(1 : Int), (2 : Int), (2 : Int)]).map (AV.int .u8)) rfl rfl rfl rfl rfl rfl <| rY rfl rfl rfl <| bndE h fun v4 e2 h => r_callpB rfl (slices_Equal_byte_byte_c e2) (.cons (CoB.arrT .p0) (.cons (.co (.refl _)) .nil)) rfl rfl <| rT rfl rfl rfl <| rA rfl rfl <| rN <| ATodo.stop <| ImpX.lq [] ⟨v4, h, rfl⟩ rfl rfl
    · exact have h := iteF hc h; rG rfl rfl rfl rfl <| rG rfl rfl rfl rfl <| rE rfl rfl rfl <| rA rfl rfl <| rN <| ATodo.stop <| ImpX.lq [] ⟨false, h, rfl⟩ rfl rfl
  · rintro σ' ⟨c3, h, rfl⟩
    unfold L_measured_j1 at h
    refine ATodo.ret <| ?_
    obtain rfl := Option.some.inj h
    exact ImpX.here ⟨_, .cons (.tmp _ _ rfl) .nil, rfl⟩

set_option maxHeartbeats 4000000 in
theorem L_BucketsMade_c [GI : GTab] {p0x0 : List Int} {r : Bool} (h : L_BucketsMade p0x0 = some r) : Pu Try.prog 3 [.list 1 (p0x0.map I)] (.bool r) := by
  unfold L_BucketsMade at h
  refine ACall.bodyN Try.func3 rfl Try.ntmps3 Try.results3 rfl rfl ?_
  refine tSR <| rA rfl rfl <| rN <| tSR <| rM rfl rfl <| ARun.qv (n_build rfl rfl rfl rfl rfl) rfl <| n_box rfl rfl rfl rfl fun b1 => rA rfl rfl <| rN <| tSR <| rM rfl rfl <| bndE h fun v2 e1 h => t_call1 rfl (Stream_Series_c e1) (CoL.refl _) (.cons .p0 .nil) (fun _ => rfl) rfl fun b3 => rM rfl rfl <| bndE h fun v4 e2 h => t_call0 rfl (Stream_Frame_c e2) (CoL.refl _) (.cons .p0 .nil) rfl rfl <| rM rfl rfl <| n_buildSliceL (xs := ([(1 : Int), (7 : Int), (10 : Int), (100 : Int), (1000 : Int), (345686400000 : Int), (0 : Int), (345686400001 : Int)]).map I) rfl rfl rfl rfl rfl rfl <| bndE h fun v5 e3 h => t_call0 rfl (Stream_Pick_c e3) (CoL.refl _) (.cons .p0 .nil) rfl rfl <| n_alloc rfl rfl rfl rfl fun b6 => rA rfl rfl <| n_store_ptr rfl rfl rfl rfl .p0 rfl rfl <| rA rfl rfl <| rN <| tSR <| rM rfl rfl <| ARun.qv (q_load_ptr_all rfl rfl .p0 rfl) rfl <| rM rfl rfl <| bndE h fun v7 e4 h => t_callL1 rfl (series_Buckets_c e4) .nil (.cons (CoB.arrT .p2) (.cons (.co (.refl _)) (.cons (.co (.refl _)) .nil))) (fun _ => rfl) (fun _ => rfl) (fun _ => (.cons (NoS.arrT (fun _ => rfl)) .nil)) rfl fun b8 => rM rfl rfl <| rX rfl rfl rfl <| rX rfl rfl rfl <| rA rfl rfl <| rA rfl rfl <| rN <| tS <| ATodo.cut (fun σ' => ∃ (n9 : Int), L_BucketsMade_j1 v2 v4 v5 v7 n9 = some r ∧ σ' = ⟨118, [(3, .ptr b1 0), (4, .sl 4 b3 0 v2.1.length), (5, .ptr b6 0), (6, I v5.1), (7, .sl 8 b8 0 v7.1.length), (8, I v7.2), (9, I n9)], [(b1, .cells [.list 1 (v5.2.L.map I), I v5.2.at_]), (b3, .arr 4 (v2.1.map Sample.av)), (b6, .cells [I v4.1.From, I v4.1.To]), (b8, .arr 8 (v7.1.map Bucket.av))]⟩) ?_ ?_
  · refine ATodo.regionM (id := 4) (A := [0, 1, 0, 7, 0, 16, 63, 127, 255, 511, 1023, 2047, 4095, 8191]) 14 mixed rfl (by kernel_rfl) (by kernel_rfl) <| AM.qv (q_move rfl) rfl <| bndE h fun v10 e5 h => AM.callpB rfl (Q_SeriesFault_c e5) (.cons (CoB.arrT .p3) .nil) rfl rfl <| AM.qv (q_load_ptr_all rfl rfl .p1 rfl) rfl <| AM.callp rfl (Q_WindowFault_c rfl) (CoL.refl _) rfl <| AM.qv (q_move rfl) rfl <| AM.qv (q_lss rfl rfl) rfl <| AM.qv (q_move rfl) rfl <| AM.guard_df rfl rfl rfl (fun hc => ?_) (fun hc => ?_)
    · exact have h := iteF hc h; AM.qv (q_move rfl) rfl <| AM.guard_yes rfl rfl rfl <| AM.qv (q_gtr rfl rfl) rfl <| AM.qv (q_pick_f rfl rfl) rfl <| AM.callp rfl (L_when_c rfl) (CoL.refl _) rfl <| AM.buildSliceL (xs := ([v10, (Q_WindowFault v4.1), (L_when (decide ((345686400000 : Int) < v5.1)) (1 : Int))]).map I) rfl rfl rfl rfl rfl rfl <| bndE h fun v11 e6 h => AM.callp rfl (L_errs_c e6) (CoL.refl _) rfl <| AM.qv (q_assign rfl) rfl <| AM.nil <| rN <| ATodo.stop <| ImpX.lq [2, 2, 1, 0] ⟨v11, h, rfl⟩ rfl rfl
    · exact have h := iteT hc h; AM.guard_no rfl rfl rfl rfl <| AM.qv (q_pick_t rfl rfl) rfl <| AM.callp rfl (L_when_c rfl) (CoL.refl _) rfl <| AM.buildSliceL (xs := ([v10, (Q_WindowFault v4.1), (L_when true (1 : Int))]).map I) rfl rfl rfl rfl rfl rfl <| bndE h fun v12 e7 h => AM.callp rfl (L_errs_c e7) (CoL.refl _) rfl <| AM.qv (q_assign rfl) rfl <| AM.nil <| rN <| ATodo.stop <| ImpX.lq [2, 2, 1, 0] ⟨v12, h, rfl⟩ rfl rfl
  · rintro σ' ⟨n9, h, rfl⟩
    unfold L_BucketsMade_j1 at h
    refine tSR <| rA rfl rfl <| rN <| tS <| tSR <| rM rfl rfl <| ARun.qv (q_eql rfl rfl) rfl <| rN <| ATodo.cut (fun σ' => ∃ (b13 : Bk) (l14 : List Bucket), L_BucketsMade_j2 v5 v7 n9 l14 = some r ∧ σ' = ⟨118, [(3, .ptr b1 0), (7, .sl 8 b8 0 v7.1.length), (8, I v7.2), (9, I n9), (10, .sl 8 b13 0 l14.length)], [(b1, .cells [.list 1 (v5.2.L.map I), I v5.2.at_]), (b8, .arr 8 (v7.1.map Bucket.av)), (b13, .arr 8 (l14.map Bucket.av))]⟩) ?_ ?_
    · refine ATodo.cond_d rfl (fun hc => ?_) (fun hc => ?_)
      · exact have h := iteT hc h; tR <| rM rfl rfl <| ARun.qv (q_load_ptr_all rfl rfl .p2 rfl) rfl <| rM rfl rfl <| bndE h fun v15 e8 h => t_callL1 rfl (Q_BucketsOf_c e8) .nil (.cons (CoB.arrT .p1) (.cons (.co (.refl _)) (.cons (.co (.refl _)) .nil))) (fun _ => rfl) (fun _ => rfl) (fun _ => (.cons (NoS.arrT (fun _ => rfl)) .nil)) rfl fun b16 => rA rfl rfl <| rN <| ATodo.stop <| ImpX.lq [1, 3, 0] ⟨b16, v15, h, rfl⟩ rfl rfl
      · exact have h := iteF hc h; tK <| ATodo.stop <| ImpX.arr (s := 10) 8 rfl fun b17 => ImpX.lq [1, 3, 0] ⟨b17, [], h, rfl⟩ rfl rfl
    · rintro σ' ⟨b13, l14, h, rfl⟩
      unfold L_BucketsMade_j2 at h
      refine tS <| tS <| ATodo.cut (fun σ' => ∃ (c18 : Bool), L_BucketsMade_j3 v5 c18 = some r ∧ σ' = ⟨118, [(3, .ptr b1 0), (61, .bool c18)], [(b1, .cells [.list 1 (v5.2.L.map I), I v5.2.at_])]⟩) ?_ ?_
      · refine tR <| rM rfl rfl <| rM rfl rfl <| ARun.qv (q_neq rfl rfl) rfl <| rM rfl rfl <| ARun.guard_df rfl rfl rfl (fun hc => ?_) (fun hc => ?_)
        · exact have h := iteF hc h; rM rfl rfl <| rY rfl rfl rfl <| rM rfl rfl <| rY rfl rfl rfl <| bndE h fun v19 e9 h => r_callpB rfl (slices_Equal_Bucket_Bucket_c e9) (.cons (CoB.arrT .p1) (.cons (CoB.arrT .p2) .nil)) rfl rfl <| rY rfl rfl rfl <| ARun.qv (q_not rfl) rfl <| rE rfl rfl rfl <| rN <| ATodo.stop <| ImpX.lq [0] ⟨!v19, h, rfl⟩ rfl rfl
        · exact have h := iteT hc h; rG rfl rfl rfl rfl <| rG rfl rfl rfl rfl <| rG rfl rfl rfl rfl <| rT rfl rfl rfl <| rN <| ATodo.stop <| ImpX.lq [0] ⟨true, h, rfl⟩ rfl rfl
      · rintro σ' ⟨c18, h, rfl⟩
        unfold L_BucketsMade_j3 at h
        refine ATodo.cond rfl (fun hc => ?_) (fun hc => ?_)
        · refine have h := iteT hc h; tSR <| rA rfl rfl <| rN <| ATodo.ret <| ?_
          obtain rfl := Option.some.inj h
          exact ImpX.here ⟨_, .cons (.tmp _ _ rfl) .nil, rfl⟩
        · refine have h := iteFb hc h; tK <| tSR <| rM rfl rfl <| rM rfl rfl <| n_buildSliceL (xs := ([(1 : Int), (7 : Int), (10 : Int), (100 : Int)]).map I) rfl rfl rfl rfl rfl rfl <| bndE h fun v20 e10 h => t_call0 rfl (Stream_Pick_c e10) (CoL.refl _) (.cons .p0 .nil) rfl rfl <| bndE h fun v21 e11 h => t_call1 rfl (Stream_RightBuckets_c e11) (CoL.refl _) (.cons .p0 .nil) (fun _ => rfl) rfl fun b22 => rA rfl rfl <| rN <| tS <| tSR <| rM rfl rfl <| bndE h fun v23 e12 h => t_call0 rfl (Stream_Flip_c e12) (CoL.refl _) (.cons .p0 .nil) rfl rfl <| rN <| ATodo.cut (fun σ' => ∃ (b24 : Bk) (l25 : List Bucket), L_BucketsMade_j4 l25 = some r ∧ σ' = ⟨118, [(11, .sl 8 b24 0 l25.length)], [(b24, .arr 8 (l25.map Bucket.av))]⟩) ?_ ?_
          · refine ATodo.cond rfl (fun hc => ?_) (fun hc => ?_)
            · exact have h := iteT hc h; tR <| rM rfl rfl <| rM rfl rfl <| bndE h fun v26 e13 h => t_call1 rfl (Stream_SpoiltBuckets_c e13) (CoL.refl _) (.cons .p0 (.cons .p0 .nil)) (fun _ => rfl) rfl fun b27 => rA rfl rfl <| rN <| ATodo.stop <| ImpX.lq [1] ⟨b27, v26.1, h, rfl⟩ rfl rfl
            · exact have h := iteFb hc h; tK <| ATodo.stop <| ImpX.lq [1] ⟨b22, v21.1, h, rfl⟩ rfl rfl
          · rintro σ' ⟨b24, l25, h, rfl⟩
            unfold L_BucketsMade_j4 at h
            refine tS <| tSR <| rM rfl rfl <| bndE h fun v28 e14 h => r_callpB rfl (series_CheckBuckets_c e14) (.cons (CoB.arrT .p0) .nil) rfl rfl <| rM rfl rfl <| bndE h fun v29 e15 h => r_callpB rfl (Q_BucketsFault_c e15) (.cons (CoB.arrT .p0) .nil) rfl rfl <| ARun.qv (q_neq rfl rfl) rfl <| rN <| ATodo.cond_d rfl (fun hc => ?_) (fun hc => ?_)
            · refine have h := iteT hc h; tSR <| rA rfl rfl <| rN <| ATodo.ret <| ?_
              obtain rfl := Option.some.inj h
              exact ImpX.here ⟨_, .cons (.tmp _ _ rfl) .nil, rfl⟩
            · refine have h := iteF hc h; tK <| tS <| tSR <| rM rfl rfl <| ARun.qv (t_len_sl rfl) rfl <| rM rfl rfl <| rN <| ATodo.block <| ATodo.loopI (fun x : Int => L_BucketsMade_b1 l25 x) (fun x σ' => σ' = ⟨118, [(77, .sl 8 b24 0 l25.length), (78, I (l25.length : Int)), (79, I x)], [(b24, .arr 8 (l25.map Bucket.av))]⟩) h ?_ ?_
              · exact ImpX.lq [0] rfl rfl rfl
              · intro n31 z1 σ' J1 hmk h hJ1 hA1
                obtain rfl := hmk
                replace h : L_BucketsMade_b1 l25 n31 = some z1 := h
                unfold L_BucketsMade_b1 at h
                refine tSR <| ARun.qv (q_lss rfl rfl) rfl <| rN <| tS <| ATodo.cond_d rfl (fun hc => ?_) (fun hc => ?_)
                · refine have h := iteT hc h; tK <| tS <| ATodo.block <| tSR <| bndE h fun v32 e16 h => ARun.qv (t_index_sl rfl rfl rfl e16) rfl <| ARun.qv (t_load_aptr_agg (g := Bucket.av) rfl rfl (.inl .p0) rfl e16 rfl) rfl <| n_alloc rfl rfl rfl rfl fun b33 => n_store_ptr rfl rfl rfl rfl .p0 rfl rfl <| rN <| tSR <| ARun.qv (q_load_ptr_all rfl rfl .p0 rfl) rfl <| bndE h fun v34 e17 h => r_callp rfl (series_Mean_c e17) (CoL.refl _) rfl <| rM rfl rfl <| rX rfl rfl rfl <| rX rfl rfl rfl <| n_alloc rfl rfl rfl rfl fun b35 => n_store_ptr rfl rfl rfl rfl .p0 rfl rfl <| rA rfl rfl <| rN <| tSR <| ARun.qv (q_load_ptr_all rfl rfl .p1 rfl) rfl <| n_buildSliceL (xs := ([v32] : List Bucket).map Bucket.av) rfl rfl rfl rfl rfl rfl <| bndE h fun v36 e18 h => r_callp rfl (Q_BucketsFault_c e18) (CoL.refl _) rfl <| rA rfl rfl <| rN <| tS <| ATodo.cut (fun σ' => ∃ (c37 : Bool), L_BucketsMade_j5 n31 c37 = some z1 ∧ σ' = ⟨118, [(77, .sl 8 b24 0 l25.length), (78, I (l25.length : Int)), (79, I n31), (115, .bool c37)], [(b24, .arr 8 (l25.map Bucket.av))]⟩) ?_ ?_
                  · refine ATodo.regionM (id := 20) (A := [0, 0, 3, 7, 15, 31, 63, 127, 127, 383, 127, 1151, 3967, 8191, 16383, 32767, 65535, 131071, 262143, 524287, 1048575, 1048575, 4194303, 8388607, 16777215]) 25 mixed rfl (by kernel_rfl) (by kernel_rfl) <| AM.qv (q_move rfl) rfl <| AM.qv (q_move rfl) rfl <| AM.qv (q_neq rfl rfl) rfl <| AM.qv (q_move rfl) rfl <| AM.guard_df rfl rfl rfl (fun hc => ?_) (fun hc => ?_)
                    · refine have h := iteF hc h; AM.qv (q_move rfl) rfl <| AM.guard_yes rfl rfl rfl <| AM.qv (q_eql rfl rfl) rfl <| AM.guard_yes rfl rfl rfl <| AM.qv (q_move rfl) rfl <| AM.guard_dt rfl rfl rfl (fun hc => ?_) (fun hc => ?_)
                      · refine have h := iteT hc h; AM.qv (q_load_ptr_all rfl rfl .p0 rfl) rfl <| AM.guard_yes rfl rfl rfl <| AM.qv (n_field_ptr rfl rfl) rfl <| AM.guard_yes rfl rfl rfl <| AM.qv (q_load_ptr rfl rfl .p1 rfl) rfl <| AM.guard_yes rfl rfl rfl <| AM.qv (n_field_ptr rfl rfl) rfl <| AM.guard_yes rfl rfl rfl <| AM.qv (q_load_ptr rfl rfl .p1 rfl) rfl <| AM.guard_yes rfl rfl rfl <| bndE h fun v38 e19 h => AM.callp rfl (Q_Lowest_c e19) (CoL.refl _) rfl <| AM.guard_yes rfl rfl rfl <| AM.qv (t_tne (g := Fraction.av) (X := v34.1) (Y := v38) rfl rfl rfl rfl rfl) rfl <| AM.guard_yes rfl rfl rfl <| AM.qv (q_pick_t rfl rfl) rfl <| AM.qv (q_pick_f rfl rfl) rfl <| AM.qv (q_move rfl) rfl <| AM.guard_df rfl rfl rfl (fun hc => ?_) (fun hc => ?_)
                        · rw [orFd hc] at h
                          refine AM.qv (q_move rfl) rfl <| AM.guard_yes rfl rfl rfl <| AM.qv (q_neq rfl rfl) rfl <| AM.guard_yes rfl rfl rfl <| AM.qv (q_move rfl) rfl <| AM.guard_dt rfl rfl rfl (fun hc => ?_) (fun hc => ?_)
                          · rw [andTd hc] at h
                            exact AM.qv (q_load_ptr_all rfl rfl .p0 rfl) rfl <| AM.guard_yes rfl rfl rfl <| AM.qv (n_build rfl rfl rfl rfl rfl) rfl <| AM.guard_yes rfl rfl rfl <| AM.qv (t_tne (g := Fraction.av) (X := v34.1) (Y := (⟨(0 : Int), (0 : Int)⟩ : Fraction)) rfl rfl rfl rfl rfl) rfl <| AM.guard_yes rfl rfl rfl <| AM.qv (q_pick_t rfl rfl) rfl <| AM.qv (q_pick_f rfl rfl) rfl <| AM.nil <| rN <| ATodo.stop <| ImpX.lq [2] ⟨decide (v34.1 ≠ (⟨(0 : Int), (0 : Int)⟩ : Fraction)), h, rfl⟩ rfl rfl
                          · rw [andFd hc] at h
                            exact AM.guard_no rfl rfl rfl rfl <| AM.guard_no rfl rfl rfl rfl <| AM.guard_yes rfl rfl rfl <| AM.qv (q_pick_f rfl rfl) rfl <| AM.qv (q_pick_f rfl rfl) rfl <| AM.nil <| rN <| ATodo.stop <| ImpX.lq [2] ⟨false, h, rfl⟩ rfl rfl
                        · rw [orTd hc] at h
                          exact AM.guard_no rfl rfl rfl rfl <| AM.guard_no rfl rfl rfl rfl <| AM.guard_und rfl rfl rfl <| AM.guard_und rfl rfl rfl <| AM.guard_und rfl rfl rfl <| AM.guard_no rfl rfl rfl rfl <| AM.qv (q_pick_t rfl rfl) rfl <| AM.nil <| rN <| ATodo.stop <| ImpX.lq [2] ⟨true, h, rfl⟩ rfl rfl
                      · refine have h := iteF hc h; AM.guard_no rfl rfl rfl rfl <| AM.guard_no rfl rfl rfl rfl <| AM.guard_no rfl rfl rfl rfl <| AM.guard_no rfl rfl rfl rfl <| AM.guard_no rfl rfl rfl rfl <| AM.guard_no rfl rfl rfl rfl <| AM.guard_yes rfl rfl rfl <| AM.qv (q_pick_f rfl rfl) rfl <| AM.qv (q_pick_f rfl rfl) rfl <| AM.qv (q_move rfl) rfl <| AM.guard_yes rfl rfl rfl <| AM.qv (q_move rfl) rfl <| AM.guard_yes rfl rfl rfl <| AM.qv (q_neq rfl rfl) rfl <| AM.guard_yes rfl rfl rfl <| AM.qv (q_move rfl) rfl <| AM.guard_dt rfl rfl rfl (fun hc => ?_) (fun hc => ?_)
                        · rw [andTd hc] at h
                          exact AM.qv (q_load_ptr_all rfl rfl .p0 rfl) rfl <| AM.guard_yes rfl rfl rfl <| AM.qv (n_build rfl rfl rfl rfl rfl) rfl <| AM.guard_yes rfl rfl rfl <| AM.qv (t_tne (g := Fraction.av) (X := v34.1) (Y := (⟨(0 : Int), (0 : Int)⟩ : Fraction)) rfl rfl rfl rfl rfl) rfl <| AM.guard_yes rfl rfl rfl <| AM.qv (q_pick_t rfl rfl) rfl <| AM.qv (q_pick_f rfl rfl) rfl <| AM.nil <| rN <| ATodo.stop <| ImpX.lq [2] ⟨decide (v34.1 ≠ (⟨(0 : Int), (0 : Int)⟩ : Fraction)), h, rfl⟩ rfl rfl
                        · rw [andFd hc] at h
                          exact AM.guard_no rfl rfl rfl rfl <| AM.guard_no rfl rfl rfl rfl <| AM.guard_yes rfl rfl rfl <| AM.qv (q_pick_f rfl rfl) rfl <| AM.qv (q_pick_f rfl rfl) rfl <| AM.nil <| rN <| ATodo.stop <| ImpX.lq [2] ⟨false, h, rfl⟩ rfl rfl
                    · exact have h := iteT hc h; AM.guard_no rfl rfl rfl rfl <| AM.guard_no rfl rfl rfl rfl <| AM.guard_und rfl rfl rfl <| AM.guard_und rfl rfl rfl <| AM.guard_und rfl rfl rfl <| AM.guard_und rfl rfl rfl <| AM.guard_und rfl rfl rfl <| AM.guard_und rfl rfl rfl <| AM.guard_und rfl rfl rfl <| AM.guard_no rfl rfl rfl rfl <| AM.qv (q_pick_t rfl rfl) rfl <| AM.qv (q_move rfl) rfl <| AM.guard_no rfl rfl rfl rfl <| AM.guard_no rfl rfl rfl rfl <| AM.guard_no rfl rfl rfl rfl <| AM.guard_und rfl rfl rfl <| AM.guard_und rfl rfl rfl <| AM.guard_und rfl rfl rfl <| AM.guard_no rfl rfl rfl rfl <| AM.qv (q_pick_t rfl rfl) rfl <| AM.nil <| rN <| ATodo.stop <| ImpX.lq [2] ⟨true, h, rfl⟩ rfl rfl
                  · rintro σ' ⟨c37, h, rfl⟩
                    unfold L_BucketsMade_j5 at h
                    refine ATodo.cond rfl (fun hc => ?_) (fun hc => ?_)
                    · refine have h := iteT hc h; tSR <| rA rfl rfl <| rN <| ATodo.ret <| have h := outL h hA1; ?_
                      obtain rfl := Option.some.inj h
                      exact ImpX.here ⟨_, .cons (.tmp _ _ rfl) .nil, rfl⟩
                    · refine have h := iteFb hc h; tK <| ATodo.blk <| tR <| ARun.qv (q_addw rfl rfl) rfl <| rM rfl rfl <| rN <| ATodo.stop <| ?_
                      obtain rfl := Option.some.inj h
                      exact hJ1 _ _ rfl <| ImpX.lq [0] rfl rfl rfl
                · refine have h := iteF hc h; ATodo.exit rfl <| have h := outL h hA1; ?_
                  unfold L_BucketsMade_k6 at h
                  refine tSR <| bndE h fun v39 e20 h => r_callp rfl (L_measured_c e20) (CoL.refl _) rfl <| rA rfl rfl <| rN <| ATodo.ret <| ?_
                  obtain rfl := Option.some.inj h
                  exact ImpX.here ⟨_, .cons (.tmp _ _ rfl) .nil, rfl⟩

end Go.Proofs.Ytblakecmhjcdmaa
