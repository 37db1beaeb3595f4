/- The code computes the plain functions: proofs written by shal.py. -/
import Derived.Test.YtmeliclfmnekkaaGreatDoorCacW1
set_option maxRecDepth 100000
set_option linter.unusedVariables false
set_option linter.unusedSimpArgs false
namespace Go.Proofs.YtmeliclfmnekkaaGreatDoor
open Go Go.Eng Go.Proofs Go.Beacon
attribute [local irreducible] ARun ATodo AQ QV ACall ImpX AWp AM
set_option maxHeartbeats 4000000 in
theorem slices_SortFunc_Mark_Mark_k : SortK Tryz.prog 56 6 := ⟨fun enc hk h1 cf hO g cb blk off cap d w eg hc hH hb hs => AnyQ.slices_SortFunc_eq Tryz.sortF56 6 Tryz.isAgg43 Tryz.sizeOf43 enc hk h1 cf hO g cb blk off cap d w eg hc hH hb hs, fun p cap fv w => AnyF.slices_SortFunc_none Tryz.sortF56 p cap fv w⟩
theorem slices_SortFunc_Mark_Mark_c [GI : GTab] {b_0 : Bk} {p0x0 : List MarkS} {fnb : MarkS → MarkS → Option Int} {fnb_F : FuncId} [IsFn Tryz.prog fnb_F] {fnb_C : List AV} (fnb_h : ∀ {y0 y1 : _} {u : Int}, fnb y0 y1 = some u → @Pu strongT Tryz.prog fnb_F (MarkS.av y0 :: MarkS.av y1 :: fnb_C) (I u)) {r : (List MarkS)} (h : slices_SortFunc_Mark_Mark p0x0 fnb = some r) : ACall Tryz.prog 56 [.sl 6 b_0 0 p0x0.length, .func (.func fnb_F) fnb_C] [(b_0, .arr 6 (p0x0.map MarkS.av))] (T0 [(b_0, .arr 6 (r.map MarkS.av))] (.tup [])) :=
  sort_acall (fn := fnb) slices_SortFunc_Mark_Mark_k rfl @fnb_h (fun _ => rfl) h

set_option maxHeartbeats 4000000 in
theorem slices_Compact_Mark_Mark_c [GI : GTab] {b_0 : Bk} {p0x0 : List MarkS} {r : (List MarkS)} (h : slices_Compact_Mark_Mark p0x0 = some r) : ACall Tryz.prog 62 [.sl 6 b_0 0 p0x0.length] [(b_0, .arr 6 (p0x0.map MarkS.av))] (T1 (fun d_0 => [(d_0, .arr 6 (r.map MarkS.av))]) (fun d_0 => .sl 6 d_0 0 r.length)) := by
  unfold slices_Compact_Mark_Mark at h
  refine ACall.lessH ?_
  refine ACall.bodyN Tryz.func62 rfl Tryz.ntmps62 Tryz.results62 rfl rfl ?_
  refine tSR <| rA rfl rfl <| rN <| tS <| tSR <| rM rfl rfl <| ARun.qv (t_len_sl rfl) rfl <| ARun.qv (q_lss rfl rfl) rfl <| rN <| ATodo.cond_d rfl (fun hc => ?_) (fun hc => ?_)
  · refine have h := iteT hc h; tSR <| rM rfl rfl <| rA rfl rfl <| rN <| ATodo.ret <| ?_
    obtain rfl := Option.some.inj h
    exact ImpX.here ⟨_, .cons (.tmp _ _ rfl) .nil, _, .cons .p0 .nil, ⟨b_0, rfl, rfl⟩⟩
  · refine have h := iteF hc h; tK <| tS <| tSR <| rA rfl rfl <| rN <| ATodo.block <| ATodo.loopI (fun x : Int => slices_Compact_Mark_Mark_b1 p0x0 x) (fun x σ' => σ' = ⟨61, [(0, .sl 6 b_0 0 p0x0.length), (3, I x)], [(b_0, .arr 6 (p0x0.map MarkS.av))]⟩) h ?_ ?_
    · exact ImpX.lq [0] rfl rfl rfl
    · intro n2 z1 σ' J1 hmk h hJ1 hA1
      obtain rfl := hmk
      replace h : slices_Compact_Mark_Mark_b1 p0x0 n2 = some z1 := h
      unfold slices_Compact_Mark_Mark_b1 at h
      refine tS <| tSR <| rM rfl rfl <| rM rfl rfl <| ARun.qv (t_len_sl rfl) rfl <| ARun.qv (q_lss rfl rfl) rfl <| rN <| ATodo.cond_d rfl (fun hc => ?_) (fun hc => ?_)
      · refine have h := iteT hc h; tK <| tS <| ATodo.block <| tS <| ATodo.regionM (id := 6) (A := [0, 0, 3, 7, 0, 0, 32, 112, 240, 511]) 10 mixed rfl (by kernel_rfl) (by kernel_rfl) <| AM.qv (q_move rfl) rfl <| AM.qv (q_move rfl) rfl <| bndE h fun v3 e1 h => AM.qv (t_index_sl rfl rfl rfl e1) rfl <| AM.qv (t_load_aptr_agg (g := MarkS.av) rfl rfl (.inl .p0) rfl e1 rfl) rfl <| AM.qv (q_move rfl) rfl <| AM.qv (q_move rfl) rfl <| AM.qv (q_subw rfl rfl) rfl <| bndE h fun v4 e2 h => AM.qv (t_index_sl rfl rfl rfl e2) rfl <| AM.qv (t_load_aptr_agg (g := MarkS.av) rfl rfl (.inl .p0) rfl e2 rfl) rfl <| AM.qv (t_teq (g := MarkS.av) (X := v3) (Y := v4) rfl rfl rfl rfl rfl) rfl <| AM.nil <| rN <| ATodo.cond_d rfl (fun hc => ?_) (fun hc => ?_)
        · refine have h := iteT hc h; tSR <| rM rfl rfl <| rM rfl rfl <| bndE h fun l5 e3 h => ARun.qv (t_slice_sl rfl rfl (.some _ _ _ rfl) .none rfl rfl e3) rfl <| rA rfl rfl <| rN <| tS <| tSR <| rA rfl rfl <| rN <| ATodo.block <| ATodo.loopI (fun x : (List MarkS) × Int × Int => slices_Compact_Mark_Mark_b2 n2 l5 x.1 x.2.1 x.2.2) (fun x σ' => σ' = ⟨61, [(0, .sl 6 b_0 0 x.1.length), (3, I x.2.1), (4, .sl 6 b_0 n2.toNat l5.length), (5, I x.2.2)], [(b_0, .arr 6 (x.1.map MarkS.av))]⟩) h ?_ ?_
          · exact ImpX.lq [0] rfl rfl rfl
          · intro x z2 σ' J2 hmk h hJ2 hA2
            obtain ⟨l9, n10, n11⟩ := x
            obtain rfl := hmk
            replace h : slices_Compact_Mark_Mark_b2 n2 l5 l9 n10 n11 = some z2 := h
            unfold slices_Compact_Mark_Mark_b2 at h
            refine tS <| tSR <| rM rfl rfl <| rM rfl rfl <| ARun.qv (t_len_sub rfl) rfl <| ARun.qv (q_lss rfl rfl) rfl <| rN <| ATodo.cond_d rfl (fun hc => ?_) (fun hc => ?_)
            · refine have h := iteT hc h; tK <| tS <| ATodo.block <| tS <| ATodo.regionM (id := 11) (A := [0, 0, 3, 7, 0, 0, 32, 112, 240, 511]) 10 mixed rfl (by kernel_rfl) (by kernel_rfl) <| AM.qv (q_move rfl) rfl <| AM.qv (q_move rfl) rfl <| bndE h fun v12 e4 h => AM.qv (t_index_sub (L := n2) rfl rfl rfl e4) rfl <| AM.qv (t_load_aptr_agg (g := MarkS.av) rfl rfl (.inl .p0) rfl (idxS_some e4).2 rfl) rfl <| AM.qv (q_move rfl) rfl <| AM.qv (q_move rfl) rfl <| AM.qv (q_subw rfl rfl) rfl <| bndE h fun v13 e5 h => AM.qv (t_index_sub (L := n2) rfl rfl rfl e5) rfl <| AM.qv (t_load_aptr_agg (g := MarkS.av) rfl rfl (.inl .p0) rfl (idxS_some e5).2 rfl) rfl <| AM.qv (t_tne (g := MarkS.av) (X := v12) (Y := v13) rfl rfl rfl rfl rfl) rfl <| AM.nil <| rN <| ATodo.cut (fun σ' => ∃ (l14 : List MarkS) (n15 : Int), slices_Compact_Mark_Mark_j1 n11 l14 n15 = some z2 ∧ σ' = ⟨61, [(0, .sl 6 b_0 0 l14.length), (3, I n15), (4, .sl 6 b_0 n2.toNat l5.length), (5, I n11)], [(b_0, .arr 6 (l14.map MarkS.av))]⟩) ?_ ?_
              · refine ATodo.cond_d rfl (fun hc => ?_) (fun hc => ?_)
                · exact have h := iteT hc h; tSR <| rM rfl rfl <| rM rfl rfl <| rM rfl rfl <| rM rfl rfl <| bndE h fun v16 e6 h => ARun.qv (t_index_sub (L := n2) rfl rfl rfl e6) rfl <| ARun.qv (t_load_aptr_agg (g := MarkS.av) rfl rfl (.inl .p0) rfl (idxS_some e6).2 rfl) rfl <| bndE h fun v17 e7 h => ARun.qv (t_index_sl rfl rfl rfl e7) rfl <| t_store_aptr1 (g := MarkS.av) (el' := v16) rfl rfl rfl rfl e7 rfl .p0 rfl <| ARun.ghost <| ImpX.eqs (s := 0) (av' := .sl 6 b_0 0 (l9.set n10.toNat v16).length) rfl (by rw [List.length_set]) <| ImpX.here <| ARun.ghost <| ImpX.eqs (s := 45) (av' := .sl 6 b_0 0 (l9.set n10.toNat v16).length) rfl (by rw [List.length_set]) <| ImpX.here <| rN <| tR <| rM rfl rfl <| ARun.qv (q_addw rfl rfl) rfl <| rA rfl rfl <| rN <| ATodo.stop <| ImpX.lq [0] ⟨l9.set n10.toNat v16, w64 (n10 + (1 : Int)), h, rfl⟩ rfl rfl
                · exact have h := iteF hc h; tK <| ATodo.stop <| ImpX.lq [0] ⟨l9, n10, h, rfl⟩ rfl rfl
              · rintro σ' ⟨l14, n15, h, rfl⟩
                unfold slices_Compact_Mark_Mark_j1 at h
                refine ATodo.blk <| tR <| rM rfl rfl <| ARun.qv (q_addw rfl rfl) rfl <| rA rfl rfl <| rN <| ATodo.stop <| ?_
                obtain rfl := Option.some.inj h
                exact hJ2 _ _ rfl <| ImpX.lq [0] rfl rfl rfl
            · refine have h := iteF hc h; ATodo.exit rfl <| have h := outL h hA2; ?_
              unfold slices_Compact_Mark_Mark_k2 at h
              refine tSR <| rM rfl rfl <| rM rfl rfl <| bndE h fun l18 e8 h => ARun.qv (t_slice_sl rfl rfl (.some _ _ _ rfl) .none rfl rfl e8) rfl <| t_clear (g := MarkS.av) (Z := (⟨(0 : Int), [], (0 : Int), (⟨(0 : Int), (0 : Int), (0 : Int)⟩ : Version)⟩ : MarkS)) (L := n10) rfl rfl rfl rfl rfl rfl e8 .p0 <| ARun.ghost <| ImpX.eqs (s := 0) (av' := .sl 6 b_0 0 (clr l9 n10 l18.length (⟨(0 : Int), [], (0 : Int), (⟨(0 : Int), (0 : Int), (0 : Int)⟩ : Version)⟩ : MarkS)).length) rfl (congrArg (AV.sl 6 b_0 0) (clr_len e8)) <| ImpX.here <| ARun.ghost <| ImpX.eqs (s := 54) (av' := .sl 6 b_0 0 (clr l9 n10 l18.length (⟨(0 : Int), [], (0 : Int), (⟨(0 : Int), (0 : Int), (0 : Int)⟩ : Version)⟩ : MarkS)).length) rfl (congrArg (AV.sl 6 b_0 0) (clr_len e8)) <| ImpX.here <| rN <| tSR <| rM rfl rfl <| rM rfl rfl <| bndE h fun l19 e9 h => ARun.qv (t_slice_sl rfl rfl .none (.some _ _ _ rfl) rfl rfl e9) rfl <| rA rfl rfl <| ARun.ghost <| ImpX.takeT e9 .p0 <| ImpX.here <| rN <| ATodo.ret <| have h := outL h hA1; ?_
              obtain rfl := Option.some.inj h
              exact ImpX.here ⟨_, .cons (.tmp _ _ rfl) .nil, _, .cons .p0 .nil, ⟨b_0, rfl, rfl⟩⟩
        · refine have h := iteF hc h; tK <| ATodo.blk <| tR <| rM rfl rfl <| ARun.qv (q_addw rfl rfl) rfl <| rA rfl rfl <| rN <| ATodo.stop <| ?_
          obtain rfl := Option.some.inj h
          exact hJ1 _ _ rfl <| ImpX.lq [0] rfl rfl rfl
      · refine have h := iteF hc h; ATodo.exit rfl <| have h := outL h hA1; tSR <| rM rfl rfl <| rA rfl rfl <| rN <| ATodo.ret <| ?_
        obtain rfl := Option.some.inj h
        exact ImpX.here ⟨_, .cons (.tmp _ _ rfl) .nil, _, .cons .p0 .nil, ⟨b_0, rfl, rfl⟩⟩

set_option maxHeartbeats 4000000 in
theorem campaign_Merge_c [GI : GTab] {p0x0 : List MarkS} {p1x0 : List MarkS} {r : (List MarkS) × Int} (h : campaign_Merge p0x0 p1x0 = some r) : ACall Tryz.prog 15 [.list 6 (p0x0.map MarkS.av), .list 6 (p1x0.map MarkS.av)] [] (T1 (fun d_0 => [(d_0, .arr 6 (r.1.map MarkS.av))]) (fun d_0 => .tup [.sl 6 d_0 0 r.1.length, I r.2])) := by
  unfold campaign_Merge at h
  refine ACall.lessH ?_
  refine ACall.bodyN Tryz.func15 rfl Tryz.ntmps15 Tryz.results15 rfl rfl ?_
  refine tSR <| rA rfl rfl <| rA rfl rfl <| rN <| tS <| tSR <| rM rfl rfl <| bndE h fun v1 e1 h => r_callp rfl (campaign_CheckMarks_c e1) (CoL.refl _) rfl <| rM rfl rfl <| bndE h fun v2 e2 h => r_callp rfl (campaign_CheckMarks_c e2) (CoL.refl _) rfl <| n_buildSliceL (xs := ([v1, v2] : List Int).map I) rfl rfl rfl rfl rfl rfl <| bndE h fun v3 e3 h => r_callp rfl (base_First_c e3) (CoL.refl _) rfl <| rA rfl rfl <| rN <| tSR <| rM rfl rfl <| ARun.qv (q_neq rfl rfl) rfl <| rN <| ATodo.cond_d rfl (fun hc => ?_) (fun hc => ?_)
  · refine have h := iteT hc h; tSR <| rM rfl rfl <| rA rfl rfl <| rA rfl rfl <| rN <| ATodo.ret <| ?_
    obtain rfl := Option.some.inj h
    exact ImpX.arr (s := 4) 6 rfl fun b4 => ImpX.here ⟨_, .cons (.tmp _ _ rfl) (.cons (.tmp _ _ rfl) .nil), _, .cons .p0 .nil, ⟨b4, rfl, rfl⟩⟩
  · refine have h := iteF hc h; tK <| tSR <| rM rfl rfl <| rM rfl rfl <| n_buildSliceL (xs := ([p0x0, p1x0] : List (List MarkS)).map (encL 6 MarkS.av)) rfl rfl rfl rfl rfl rfl <| bndE h fun v5 e4 h => t_call1 rfl (slices_Concat_Mark_Mark_c e4) (CoL.refl _) .nil (fun _ => rfl) rfl fun b6 => rA rfl rfl <| rN <| tSR <| rM rfl rfl <| bndE h fun v7 e5 h => t_call0 rfl (slices_SortFunc_Mark_Mark_c (fun e => campaign_Merge_1x_c (GI := strongT) e) (lenOk_f e5)) (CoL.refl _) (.cons .p0 .nil) rfl rfl <| ARun.ghost <| ImpX.eqs (s := 7) (av' := .sl 6 b6 0 v7.length) rfl (congrArg (AV.sl 6 b6 0) (lenOk_l e5)) <| ImpX.here <| ARun.ghost <| ImpX.eqs (s := 21) (av' := .sl 6 b6 0 v7.length) rfl (congrArg (AV.sl 6 b6 0) (lenOk_l e5)) <| ImpX.here <| ARun.ghost <| ImpX.eqs (s := 22) (av' := .sl 6 b6 0 v7.length) rfl (congrArg (AV.sl 6 b6 0) (lenOk_l e5)) <| ImpX.here <| rN <| tSR <| rM rfl rfl <| bndE h fun v8 e6 h => t_call1 rfl (slices_Compact_Mark_Mark_c e6) (CoL.refl _) (.cons .p0 .nil) (fun _ => rfl) rfl fun b9 => rA rfl rfl <| rN <| tS <| tSR <| rA rfl rfl <| rN <| ATodo.block <| ATodo.loopI (fun x : Int => campaign_Merge_b1 v8 x) (fun x σ' => σ' = ⟨47, [(7, .sl 6 b9 0 v8.length), (8, I x)], [(b9, .arr 6 (v8.map MarkS.av))]⟩) h ?_ ?_
    · exact ImpX.lq [0] rfl rfl rfl
    · intro n11 z1 σ' J1 hmk h hJ1 hA1
      obtain rfl := hmk
      replace h : campaign_Merge_b1 v8 n11 = some z1 := h
      unfold campaign_Merge_b1 at h
      refine tS <| tSR <| rM rfl rfl <| rM rfl rfl <| ARun.qv (t_len_sl rfl) rfl <| ARun.qv (q_lss rfl rfl) rfl <| rN <| ATodo.cond_d rfl (fun hc => ?_) (fun hc => ?_)
      · refine have h := iteT hc h; tK <| tS <| ATodo.block <| tS <| ATodo.regionM (id := 10) (A := [0, 0, 2, 7, 15, 0, 0, 96, 224, 511, 1023]) 11 mixed rfl (by kernel_rfl) (by kernel_rfl) <| AM.qv (q_move rfl) rfl <| AM.qv (q_move rfl) rfl <| AM.qv (q_subw rfl rfl) rfl <| bndE h fun v12 e7 h => AM.qv (t_index_sl rfl rfl rfl e7) rfl <| AM.qv (t_load_aptr_agg (g := MarkS.av) rfl rfl (.inl .p0) rfl e7 rfl) rfl <| AM.qv (q_move rfl) rfl <| AM.qv (q_move rfl) rfl <| bndE h fun v13 e8 h => AM.qv (t_index_sl rfl rfl rfl e8) rfl <| AM.qv (t_load_aptr_agg (g := MarkS.av) rfl rfl (.inl .p0) rfl e8 rfl) rfl <| bndE h fun v14 e9 h => AM.callp rfl (campaign_byMoment_c e9) (CoL.refl _) rfl <| AM.qv (q_eql rfl rfl) rfl <| AM.nil <| rN <| ATodo.cond_d rfl (fun hc => ?_) (fun hc => ?_)
        · refine have h := iteT hc h; tSR <| rA rfl rfl <| rA rfl rfl <| rN <| ATodo.ret <| have h := outL h hA1; ?_
          obtain rfl := Option.some.inj h
          exact ImpX.arr (s := 4) 6 rfl fun b15 => ImpX.here ⟨_, .cons (.tmp _ _ rfl) (.cons (.tmp _ _ rfl) .nil), _, .cons .p0 .nil, ⟨b15, rfl, rfl⟩⟩
        · refine have h := iteF hc h; tK <| ATodo.blk <| tR <| rM rfl rfl <| ARun.qv (q_addw rfl rfl) rfl <| rA rfl rfl <| rN <| ATodo.stop <| ?_
          obtain rfl := Option.some.inj h
          exact hJ1 _ _ rfl <| ImpX.lq [0] rfl rfl rfl
      · refine have h := iteF hc h; ATodo.exit rfl <| have h := outL h hA1; ?_
        unfold campaign_Merge_k1 at h
        refine tS <| tSR <| rM rfl rfl <| ARun.qv (t_len_sl rfl) rfl <| ARun.qv (q_gtr rfl rfl) rfl <| rN <| ATodo.cond_d rfl (fun hc => ?_) (fun hc => ?_)
        · refine have h := iteT hc h; tSR <| rA rfl rfl <| rA rfl rfl <| rN <| ATodo.ret <| ?_
          obtain rfl := Option.some.inj h
          exact ImpX.arr (s := 4) 6 rfl fun b16 => ImpX.here ⟨_, .cons (.tmp _ _ rfl) (.cons (.tmp _ _ rfl) .nil), _, .cons .p0 .nil, ⟨b16, rfl, rfl⟩⟩
        · refine have h := iteF hc h; tK <| tSR <| rM rfl rfl <| rA rfl rfl <| rA rfl rfl <| rN <| ATodo.ret <| ?_
          obtain rfl := Option.some.inj h
          exact ImpX.here ⟨_, .cons (.tmp _ _ rfl) (.cons (.tmp _ _ rfl) .nil), _, .cons .p0 .nil, ⟨b9, rfl, rfl⟩⟩

set_option maxHeartbeats 4000000 in
theorem Q_in_c [GI : GTab] {p0x0 : Int} {p1x0 : Int} {p2x0 : Int} {r : Bool} (h : Q_in p0x0 p1x0 p2x0 = r) : Pu Tryz.prog 65 [I p0x0, I p1x0, I p2x0] (.bool r) := by
  unfold Q_in at h
  refine ACall.bodyN Tryz.func65 rfl Tryz.ntmps65 Tryz.results65 rfl rfl ?_
  refine tSR <| rA rfl rfl <| rN <| tS <| ATodo.cut (fun σ' => ∃ (c1 : Bool), Q_in_j1 c1 = r ∧ σ' = ⟨15, [(6, .bool c1)], []⟩) ?_ ?_
  · refine tR <| rM rfl rfl <| rM rfl rfl <| ARun.qv (q_leq rfl rfl) rfl <| rM rfl rfl <| ARun.guard_dt rfl rfl rfl (fun hc => ?_) (fun hc => ?_)
    · rw [andTd hc] at h
      exact rM rfl rfl <| rY rfl rfl rfl <| rM rfl rfl <| rY rfl rfl rfl <| ARun.qv (q_leq rfl rfl) rfl <| rT rfl rfl rfl <| rA rfl rfl <| rN <| ATodo.stop <| ImpX.lq [] ⟨decide (p0x0 ≤ p2x0), h, rfl⟩ rfl rfl
    · rw [andFd hc] at h
      exact rG rfl rfl rfl rfl <| rG rfl rfl rfl rfl <| rE rfl rfl rfl <| rA rfl rfl <| rN <| ATodo.stop <| ImpX.lq [] ⟨false, h, rfl⟩ rfl rfl
  · rintro σ' ⟨c1, h, rfl⟩
    unfold Q_in_j1 at h
    refine ATodo.ret <| ?_
    obtain rfl := h
    exact ImpX.here ⟨_, .cons (.tmp _ _ rfl) .nil, rfl⟩

set_option maxHeartbeats 4000000 in
theorem Q_only_c [GI : GTab] {p0x0 : Str} {p1x0 : Str} {r : Bool} (h : Q_only p0x0 p1x0 = some r) : Pu Tryz.prog 69 [.str p0x0, .str p1x0] (.bool r) := by
  unfold Q_only at h
  refine ACall.bodyN Tryz.func69 rfl Tryz.ntmps69 Tryz.results69 rfl rfl ?_
  refine tSR <| rA rfl rfl <| rN <| tS <| tSR <| rM rfl rfl <| ARun.qv (q_len_str rfl) rfl <| rM rfl rfl <| rN <| ATodo.block <| ATodo.loopI (fun x : Int => Q_only_b1 p0x0 p1x0 x) (fun x σ' => σ' = ⟨18, [(0, .str p0x0), (1, .str p1x0), (7, I (p0x0.length : Int)), (8, I x)], []⟩) h ?_ ?_
  · exact ImpX.lq [] rfl rfl rfl
  · intro n2 z1 σ' J1 hmk h hJ1 hA1
    obtain rfl := hmk
    replace h : Q_only_b1 p0x0 p1x0 n2 = some z1 := h
    unfold Q_only_b1 at h
    refine tSR <| ARun.qv (q_lss rfl rfl) rfl <| rN <| tS <| ATodo.cond_d rfl (fun hc => ?_) (fun hc => ?_)
    · refine have h := iteT hc h; tK <| tS <| ATodo.block <| tSR <| rM rfl rfl <| rA rfl rfl <| rN <| tSR <| rM rfl rfl <| rM rfl rfl <| rM rfl rfl <| bndE h fun c3 e1 h => ARun.qv (t_index_str rfl rfl e1) rfl <| r_callp rfl (strings_IndexByte_c rfl) (CoL.refl _) rfl <| ARun.qv (q_lss rfl rfl) rfl <| rN <| ATodo.cond_d rfl (fun hc => ?_) (fun hc => ?_)
      · refine have h := iteT hc h; tSR <| rA rfl rfl <| rN <| ATodo.ret <| have h := outL h hA1; ?_
        obtain rfl := Option.some.inj h
        exact ImpX.here ⟨_, .cons (.tmp _ _ rfl) .nil, rfl⟩
      · refine have h := iteF hc h; tK <| ATodo.blk <| tR <| ARun.qv (q_addw rfl rfl) rfl <| rM rfl rfl <| rN <| ATodo.stop <| ?_
        obtain rfl := Option.some.inj h
        exact hJ1 _ _ rfl <| ImpX.lq [] rfl rfl rfl
    · refine have h := iteF hc h; ATodo.exit rfl <| have h := outL h hA1; tSR <| rA rfl rfl <| rN <| ATodo.ret <| ?_
      obtain rfl := Option.some.inj h
      exact ImpX.here ⟨_, .cons (.tmp _ _ rfl) .nil, rfl⟩

set_option maxHeartbeats 4000000 in
theorem Q_Key_c [GI : GTab] {p0x0 : Str} {r : Bool} (h : Q_Key p0x0 = some r) : Pu Tryz.prog 24 [.str p0x0] (.bool r) := by
  unfold Q_Key at h
  refine ACall.bodyN Tryz.func24 rfl Tryz.ntmps24 Tryz.results24 rfl rfl ?_
  refine tSR <| rA rfl rfl <| rN <| tS <| ATodo.cut (fun σ' => ∃ (c1 : Bool), Q_Key_j1 c1 = some r ∧ σ' = ⟨15, [(2, .bool c1)], []⟩) ?_ ?_
  · refine tR <| rM rfl rfl <| ARun.qv (q_len_str rfl) rfl <| r_callp rfl (Q_in_c rfl) (CoL.refl _) rfl <| rM rfl rfl <| ARun.guard rfl rfl rfl (fun hc => ?_) (fun hc => ?_)
    · refine have h := iteT hc h; rM rfl rfl <| rY rfl rfl rfl <| bndE h fun l2 e1 h => ARun.qv (t_slice_str rfl .none (.some _ _ _ rfl) rfl rfl e1) rfl <| rY rfl rfl rfl <| bndE h fun v3 e2 h => r_callp rfl (Q_only_c e2) (CoL.refl _) rfl <| rT rfl rfl rfl <| rM rfl rfl <| ARun.guard rfl rfl rfl (fun hc => ?_) (fun hc => ?_)
      · exact have h := iteT hc h; rM rfl rfl <| rY rfl rfl rfl <| bndE h fun v4 e3 h => r_callp rfl (Q_only_c e3) (CoL.refl _) rfl <| rT rfl rfl rfl <| rA rfl rfl <| rN <| ATodo.stop <| ImpX.lq [] ⟨v4, h, rfl⟩ rfl rfl
      · exact have h := iteFb hc h; rG rfl rfl rfl rfl <| rE rfl rfl rfl <| rA rfl rfl <| rN <| ATodo.stop <| ImpX.lq [] ⟨false, h, rfl⟩ rfl rfl
    · exact have h := iteFb hc h; rG rfl rfl rfl rfl <| rG rfl rfl rfl rfl <| rE rfl rfl rfl <| rM rfl rfl <| rG rfl rfl rfl rfl <| rG rfl rfl rfl rfl <| rE rfl rfl rfl <| rA rfl rfl <| rN <| ATodo.stop <| ImpX.lq [] ⟨false, h, rfl⟩ rfl rfl
  · rintro σ' ⟨c1, h, rfl⟩
    unfold Q_Key_j1 at h
    refine ATodo.ret <| ?_
    obtain rfl := Option.some.inj h
    exact ImpX.here ⟨_, .cons (.tmp _ _ rfl) .nil, rfl⟩

set_option maxHeartbeats 4000000 in
theorem Q_versionFault_c [GI : GTab] {p0x0 : Version} {r : Int} (h : Q_versionFault p0x0 = r) : Pu Tryz.prog 63 [.agg [I p0x0.Major, I p0x0.Minor, I p0x0.Patch]] (I r) := by
  unfold Q_versionFault at h
  refine ACall.bodyN Tryz.func63 rfl Tryz.ntmps63 Tryz.results63 rfl rfl ?_
  refine tSR <| n_box rfl rfl rfl rfl fun b1 => rA rfl rfl <| rN <| tS <| tS <| ATodo.cut (fun σ' => ∃ (c2 : Bool), Q_versionFault_j1 c2 = r ∧ σ' = ⟨19, [(18, .bool c2)], []⟩) ?_ ?_
  · refine tR <| rF rfl rfl rfl <| rL rfl rfl .p0 rfl rfl <| r_callp rfl (Q_in_c rfl) (CoL.refl _) rfl <| ARun.qv (q_not rfl) rfl <| rM rfl rfl <| ARun.guard rfl rfl rfl (fun hc => ?_) (fun hc => ?_)
    · rw [orFb hc] at h
      refine rF rfl rfl rfl <| rY rfl rfl rfl <| rL rfl rfl .p0 rfl rfl <| rY rfl rfl rfl <| r_callp rfl (Q_in_c rfl) (CoL.refl _) rfl <| rY rfl rfl rfl <| ARun.qv (q_not rfl) rfl <| rE rfl rfl rfl <| rM rfl rfl <| ARun.guard rfl rfl rfl (fun hc => ?_) (fun hc => ?_)
      · rw [orFb hc] at h
        exact rF rfl rfl rfl <| rY rfl rfl rfl <| rL rfl rfl .p0 rfl rfl <| rY rfl rfl rfl <| r_callp rfl (Q_in_c rfl) (CoL.refl _) rfl <| rY rfl rfl rfl <| ARun.qv (q_not rfl) rfl <| rE rfl rfl rfl <| rN <| ATodo.stop <| ImpX.lq [] ⟨!(Q_in p0x0.Patch (0 : Int) (9999 : Int)), h, rfl⟩ rfl rfl
      · rw [orTb hc] at h
        exact rG rfl rfl rfl rfl <| rG rfl rfl rfl rfl <| rG rfl rfl rfl rfl <| rT rfl rfl rfl <| rN <| ATodo.stop <| ImpX.lq [] ⟨true, h, rfl⟩ rfl rfl
    · rw [orTb hc] at h
      exact rG rfl rfl rfl rfl <| rG rfl rfl rfl rfl <| rG rfl rfl rfl rfl <| rT rfl rfl rfl <| rM rfl rfl <| rG rfl rfl rfl rfl <| rG rfl rfl rfl rfl <| rG rfl rfl rfl rfl <| rG rfl rfl rfl rfl <| rT rfl rfl rfl <| rN <| ATodo.stop <| ImpX.lq [] ⟨true, h, rfl⟩ rfl rfl
  · rintro σ' ⟨c2, h, rfl⟩
    unfold Q_versionFault_j1 at h
    refine ATodo.cond rfl (fun hc => ?_) (fun hc => ?_)
    · refine have h := iteT hc h; tSR <| rA rfl rfl <| rN <| ATodo.ret <| ?_
      obtain rfl := h
      exact ImpX.here ⟨_, .cons (.tmp _ _ rfl) .nil, rfl⟩
    · refine have h := iteFb hc h; tK <| tSR <| rA rfl rfl <| rN <| ATodo.ret <| ?_
      obtain rfl := h
      exact ImpX.here ⟨_, .cons (.tmp _ _ rfl) .nil, rfl⟩

set_option maxHeartbeats 4000000 in
theorem Q_Moment_c [GI : GTab] {p0x0 : Int} {r : Bool} (h : Q_Moment p0x0 = r) : Pu Tryz.prog 64 [I p0x0] (.bool r) := by
  unfold Q_Moment at h
  refine ACall.bodyN Tryz.func64 rfl Tryz.ntmps64 Tryz.results64 rfl rfl ?_
  refine tSR <| rA rfl rfl <| rN <| tSR <| rM rfl rfl <| r_callp rfl (Q_in_c rfl) (CoL.refl _) rfl <| rA rfl rfl <| rN <| ATodo.ret <| ?_
  obtain rfl := h
  exact ImpX.here ⟨_, .cons (.tmp _ _ rfl) .nil, rfl⟩

set_option maxHeartbeats 4000000 in
theorem Q_CampaignFault_c [GI : GTab] {p0x0 : Campaign} {r : Int} (h : Q_CampaignFault p0x0 = some r) : Pu Tryz.prog 16 [.agg [.str p0x0.Key, I p0x0.Target.Major, I p0x0.Target.Minor, I p0x0.Target.Patch, I p0x0.At, .list 4 (p0x0.Waves.map Wave.av), I p0x0.Hours.From, I p0x0.Hours.To, I p0x0.Room]] (I r) := by
  unfold Q_CampaignFault at h
  refine ACall.bodyN Tryz.func16 rfl Tryz.ntmps16 Tryz.results16 rfl rfl ?_
  refine tSR <| n_box rfl rfl rfl rfl fun b1 => rA rfl rfl <| rN <| tS <| tSR <| rF rfl rfl rfl <| rL rfl rfl .p0 rfl rfl <| bndE h fun v2 e1 h => r_callp rfl (Q_Key_c e1) (CoL.refl _) rfl <| ARun.qv (q_not rfl) rfl <| rN <| ATodo.cond rfl (fun hc => ?_) (fun hc => ?_)
  · refine have h := iteT hc h; tSR <| rA rfl rfl <| rN <| ATodo.ret <| ?_
    obtain rfl := Option.some.inj h
    exact ImpX.here ⟨_, .cons (.tmp _ _ rfl) .nil, rfl⟩
  · refine have h := iteFb hc h; tK <| tS <| tSR <| rF rfl rfl rfl <| ARun.qv (n_load_ptr_part rfl rfl .p0 rfl rfl) rfl <| r_callp rfl (Q_versionFault_c rfl) (CoL.refl _) rfl <| rA rfl rfl <| rN <| tSR <| rM rfl rfl <| ARun.qv (q_neq rfl rfl) rfl <| rN <| ATodo.cond_d rfl (fun hc => ?_) (fun hc => ?_)
    · refine have h := iteT hc h; tSR <| rM rfl rfl <| rA rfl rfl <| rN <| ATodo.ret <| ?_
      obtain rfl := Option.some.inj h
      exact ImpX.here ⟨_, .cons (.tmp _ _ rfl) .nil, rfl⟩
    · refine have h := iteF hc h; tK <| tS <| ATodo.block <| tSR <| rF rfl rfl rfl <| rL rfl rfl .p0 rfl rfl <| r_callp rfl (Q_Moment_c rfl) (CoL.refl _) rfl <| ARun.qv (q_not rfl) rfl <| rA rfl rfl <| rN <| ATodo.cond rfl (fun hc => ?_) (fun hc => ?_)
      · refine have h := iteT hc h; tSR <| rA rfl rfl <| rN <| ATodo.ret <| ?_
        obtain rfl := Option.some.inj h
        exact ImpX.here ⟨_, .cons (.tmp _ _ rfl) .nil, rfl⟩
      · refine have h := iteFb hc h; tSR <| rF rfl rfl rfl <| rL rfl rfl .p0 rfl rfl <| ARun.qv (t_len rfl) rfl <| ARun.qv (q_eql rfl rfl) rfl <| rA rfl rfl <| rN <| ATodo.cond_d rfl (fun hc => ?_) (fun hc => ?_)
        · refine have h := iteT hc h; tSR <| rA rfl rfl <| rN <| ATodo.ret <| ?_
          obtain rfl := Option.some.inj h
          exact ImpX.here ⟨_, .cons (.tmp _ _ rfl) .nil, rfl⟩
        · refine have h := iteF hc h; tSR <| rF rfl rfl rfl <| rL rfl rfl .p0 rfl rfl <| ARun.qv (t_len rfl) rfl <| ARun.qv (q_gtr rfl rfl) rfl <| rA rfl rfl <| rN <| ATodo.cond_d rfl (fun hc => ?_) (fun hc => ?_)
          · refine have h := iteT hc h; tSR <| rA rfl rfl <| rN <| ATodo.ret <| ?_
            obtain rfl := Option.some.inj h
            exact ImpX.here ⟨_, .cons (.tmp _ _ rfl) .nil, rfl⟩
          · refine have h := iteF hc h; tK <| ATodo.blk <| tSR <| rA rfl rfl <| rN <| tS <| tSR <| rF rfl rfl rfl <| rL rfl rfl .p0 rfl rfl <| ARun.qv (t_len rfl) rfl <| rM rfl rfl <| rN <| ATodo.block <| ATodo.loopI (fun x : Int × Int => Q_CampaignFault_b1 p0x0 x.1 x.2) (fun x σ' => σ' = ⟨88, [(1, .ptr b1 0), (4, I x.1), (33, .list 4 (p0x0.Waves.map Wave.av)), (34, I (p0x0.Waves.length : Int)), (35, I x.2)], [(b1, .cells [.str p0x0.Key, I p0x0.Target.Major, I p0x0.Target.Minor, I p0x0.Target.Patch, I p0x0.At, .list 4 (p0x0.Waves.map Wave.av), I p0x0.Hours.From, I p0x0.Hours.To, I p0x0.Room])]⟩) h ?_ ?_
            · exact ImpX.lq [0] rfl rfl rfl
            · intro x z1 σ' J1 hmk h hJ1 hA1
              obtain ⟨n5, n6⟩ := x
              obtain rfl := hmk
              replace h : Q_CampaignFault_b1 p0x0 n5 n6 = some z1 := h
              unfold Q_CampaignFault_b1 at h
              refine tSR <| ARun.qv (q_lss rfl rfl) rfl <| rN <| tS <| ATodo.cond_d rfl (fun hc => ?_) (fun hc => ?_)
              · refine have h := iteT hc h; tK <| tS <| ATodo.block <| tSR <| bndE h fun v7 e2 h => ARun.qv (t_index rfl rfl rfl e2 rfl rfl) rfl <| ARun.qv (q_load_rptr_agg rfl rfl rfl) rfl <| n_alloc rfl rfl rfl rfl fun b8 => n_store_ptr rfl rfl rfl rfl .p0 rfl rfl <| rN <| tS <| tS <| ATodo.cut (fun σ' => ∃ (c9 : Bool), Q_CampaignFault_j1 n5 n6 v7 c9 = some z1 ∧ σ' = ⟨88, [(1, .ptr b1 0), (4, I n5), (6, .ptr b8 0), (33, .list 4 (p0x0.Waves.map Wave.av)), (34, I (p0x0.Waves.length : Int)), (35, I n6), (60, .bool c9)], [(b1, .cells [.str p0x0.Key, I p0x0.Target.Major, I p0x0.Target.Minor, I p0x0.Target.Patch, I p0x0.At, .list 4 (p0x0.Waves.map Wave.av), I p0x0.Hours.From, I p0x0.Hours.To, I p0x0.Room]), (b8, .cells [I v7.Part, I v7.Wait, I v7.Least, I v7.Fails])]⟩) ?_ ?_
                · refine tR <| rF rfl rfl rfl <| rL rfl rfl .p0 rfl rfl <| r_callp rfl (Q_in_c rfl) (CoL.refl _) rfl <| ARun.qv (q_not rfl) rfl <| rM rfl rfl <| ARun.guard rfl rfl rfl (fun hc => ?_) (fun hc => ?_)
                  · rw [orFb hc] at h
                    refine rF rfl rfl rfl <| rY rfl rfl rfl <| rL rfl rfl .p0 rfl rfl <| rY rfl rfl rfl <| r_callp rfl (Q_in_c rfl) (CoL.refl _) rfl <| rY rfl rfl rfl <| ARun.qv (q_not rfl) rfl <| rE rfl rfl rfl <| rM rfl rfl <| ARun.guard rfl rfl rfl (fun hc => ?_) (fun hc => ?_)
                    · rw [orFb hc] at h
                      refine rF rfl rfl rfl <| rY rfl rfl rfl <| rL rfl rfl .p0 rfl rfl <| rY rfl rfl rfl <| r_callp rfl (Q_in_c rfl) (CoL.refl _) rfl <| rY rfl rfl rfl <| ARun.qv (q_not rfl) rfl <| rE rfl rfl rfl <| rM rfl rfl <| ARun.guard rfl rfl rfl (fun hc => ?_) (fun hc => ?_)
                      · rw [orFb hc] at h
                        exact rF rfl rfl rfl <| rY rfl rfl rfl <| rL rfl rfl .p0 rfl rfl <| rY rfl rfl rfl <| r_callp rfl (Q_in_c rfl) (CoL.refl _) rfl <| rY rfl rfl rfl <| ARun.qv (q_not rfl) rfl <| rE rfl rfl rfl <| rN <| ATodo.stop <| ImpX.lq [1, 0] ⟨!(Q_in v7.Fails (0 : Int) (1000 : Int)), h, rfl⟩ rfl rfl
                      · rw [orTb hc] at h
                        exact rG rfl rfl rfl rfl <| rG rfl rfl rfl rfl <| rG rfl rfl rfl rfl <| rT rfl rfl rfl <| rN <| ATodo.stop <| ImpX.lq [1, 0] ⟨true, h, rfl⟩ rfl rfl
                    · rw [orTb hc] at h
                      exact rG rfl rfl rfl rfl <| rG rfl rfl rfl rfl <| rG rfl rfl rfl rfl <| rT rfl rfl rfl <| rM rfl rfl <| rG rfl rfl rfl rfl <| rG rfl rfl rfl rfl <| rG rfl rfl rfl rfl <| rG rfl rfl rfl rfl <| rT rfl rfl rfl <| rN <| ATodo.stop <| ImpX.lq [1, 0] ⟨true, h, rfl⟩ rfl rfl
                  · rw [orTb hc] at h
                    exact rG rfl rfl rfl rfl <| rG rfl rfl rfl rfl <| rG rfl rfl rfl rfl <| rT rfl rfl rfl <| rM rfl rfl <| rG rfl rfl rfl rfl <| rG rfl rfl rfl rfl <| rG rfl rfl rfl rfl <| rG rfl rfl rfl rfl <| rT rfl rfl rfl <| rM rfl rfl <| rG rfl rfl rfl rfl <| rG rfl rfl rfl rfl <| rG rfl rfl rfl rfl <| rG rfl rfl rfl rfl <| rT rfl rfl rfl <| rN <| ATodo.stop <| ImpX.lq [1, 0] ⟨true, h, rfl⟩ rfl rfl
                · rintro σ' ⟨c9, h, rfl⟩
                  unfold Q_CampaignFault_j1 at h
                  refine ATodo.cond rfl (fun hc => ?_) (fun hc => ?_)
                  · refine have h := iteT hc h; tSR <| rA rfl rfl <| rN <| ATodo.ret <| have h := outL h hA1; ?_
                    obtain rfl := Option.some.inj h
                    exact ImpX.here ⟨_, .cons (.tmp _ _ rfl) .nil, rfl⟩
                  · refine have h := iteFb hc h; tK <| tR <| rM rfl rfl <| rF rfl rfl rfl <| rL rfl rfl .p1 rfl rfl <| ARun.qv (q_addw rfl rfl) rfl <| rA rfl rfl <| rN <| ATodo.blk <| tR <| ARun.qv (q_addw rfl rfl) rfl <| rM rfl rfl <| rN <| ATodo.stop <| ?_
                    obtain rfl := Option.some.inj h
                    exact hJ1 _ _ rfl <| ImpX.lq [0] rfl rfl rfl
              · refine have h := iteF hc h; ATodo.exit rfl <| have h := outL h hA1; ?_
                unfold Q_CampaignFault_k3 at h
                refine tS <| ATodo.block <| tSR <| rM rfl rfl <| ARun.qv (q_neq rfl rfl) rfl <| rA rfl rfl <| rN <| ATodo.cond_d rfl (fun hc => ?_) (fun hc => ?_)
                · refine have h := iteT hc h; tSR <| rA rfl rfl <| rN <| ATodo.ret <| ?_
                  obtain rfl := Option.some.inj h
                  exact ImpX.here ⟨_, .cons (.tmp _ _ rfl) .nil, rfl⟩
                · refine have h := iteF hc h; tS <| ATodo.cut (fun σ' => ∃ (c10 : Bool), Q_CampaignFault_j2 c10 = some r ∧ σ' = ⟨88, [(69, .bool c10)], []⟩) ?_ ?_
                  · refine tR <| rF rfl rfl rfl <| rF rfl rfl rfl <| rL rfl rfl .p0 rfl rfl <| r_callp rfl (Q_in_c rfl) (CoL.refl _) rfl <| ARun.qv (q_not rfl) rfl <| rM rfl rfl <| ARun.guard rfl rfl rfl (fun hc => ?_) (fun hc => ?_)
                    · rw [orFb hc] at h
                      refine rF rfl rfl rfl <| rY rfl rfl rfl <| rF rfl rfl rfl <| rY rfl rfl rfl <| rL rfl rfl .p0 rfl rfl <| rY rfl rfl rfl <| r_callp rfl (Q_in_c rfl) (CoL.refl _) rfl <| rY rfl rfl rfl <| ARun.qv (q_not rfl) rfl <| rE rfl rfl rfl <| rM rfl rfl <| ARun.guard rfl rfl rfl (fun hc => ?_) (fun hc => ?_)
                      · rw [orFb hc] at h
                        exact rF rfl rfl rfl <| rY rfl rfl rfl <| rL rfl rfl .p0 rfl rfl <| rY rfl rfl rfl <| r_callp rfl (Q_in_c rfl) (CoL.refl _) rfl <| rY rfl rfl rfl <| ARun.qv (q_not rfl) rfl <| rE rfl rfl rfl <| rA rfl rfl <| rN <| ATodo.stop <| ImpX.lq [] ⟨!(Q_in p0x0.Room (1 : Int) (500 : Int)), h, rfl⟩ rfl rfl
                      · rw [orTb hc] at h
                        exact rG rfl rfl rfl rfl <| rG rfl rfl rfl rfl <| rG rfl rfl rfl rfl <| rT rfl rfl rfl <| rA rfl rfl <| rN <| ATodo.stop <| ImpX.lq [] ⟨true, h, rfl⟩ rfl rfl
                    · rw [orTb hc] at h
                      exact rG rfl rfl rfl rfl <| rG rfl rfl rfl rfl <| rG rfl rfl rfl rfl <| rG rfl rfl rfl rfl <| rT rfl rfl rfl <| rM rfl rfl <| rG rfl rfl rfl rfl <| rG rfl rfl rfl rfl <| rG rfl rfl rfl rfl <| rG rfl rfl rfl rfl <| rT rfl rfl rfl <| rA rfl rfl <| rN <| ATodo.stop <| ImpX.lq [] ⟨true, h, rfl⟩ rfl rfl
                  · rintro σ' ⟨c10, h, rfl⟩
                    unfold Q_CampaignFault_j2 at h
                    refine ATodo.cond rfl (fun hc => ?_) (fun hc => ?_)
                    · refine have h := iteT hc h; tSR <| rA rfl rfl <| rN <| ATodo.ret <| ?_
                      obtain rfl := Option.some.inj h
                      exact ImpX.here ⟨_, .cons (.tmp _ _ rfl) .nil, rfl⟩
                    · refine have h := iteFb hc h; tK <| ATodo.blk <| tSR <| rA rfl rfl <| rN <| ATodo.ret <| ?_
                      obtain rfl := Option.some.inj h
                      exact ImpX.here ⟨_, .cons (.tmp _ _ rfl) .nil, rfl⟩

set_option maxHeartbeats 4000000 in
theorem campaign_CheckFleet_c [GI : GTab] {p0x0 : List DeviceS} {r : Int} (h : campaign_CheckFleet p0x0 = some r) : Pu Tryz.prog 18 [.list 7 (p0x0.map DeviceS.av)] (I r) := by
  unfold campaign_CheckFleet at h
  refine ACall.bodyN Tryz.func18 rfl Tryz.ntmps18 Tryz.results18 rfl rfl ?_
  refine tSR <| rA rfl rfl <| rN <| tS <| tSR <| rM rfl rfl <| ARun.qv (t_len rfl) rfl <| ARun.qv (q_gtr rfl rfl) rfl <| rN <| ATodo.cond_d rfl (fun hc => ?_) (fun hc => ?_)
  · refine have h := iteT hc h; tSR <| rA rfl rfl <| rN <| ATodo.ret <| ?_
    obtain rfl := Option.some.inj h
    exact ImpX.here ⟨_, .cons (.tmp _ _ rfl) .nil, rfl⟩
  · refine have h := iteF hc h; tK <| tS <| tSR <| rM rfl rfl <| ARun.qv (t_len rfl) rfl <| rM rfl rfl <| rN <| ATodo.block <| ATodo.loopI (fun x : Int => campaign_CheckFleet_b1 p0x0 x) (fun x σ' => σ' = ⟨57, [(0, .list 7 (p0x0.map DeviceS.av)), (8, .list 7 (p0x0.map DeviceS.av)), (9, I (p0x0.length : Int)), (10, I x)], []⟩) h ?_ ?_
    · exact ImpX.lq [] rfl rfl rfl
    · intro n2 z1 σ' J1 hmk h hJ1 hA1
      obtain rfl := hmk
      replace h : campaign_CheckFleet_b1 p0x0 n2 = some z1 := h
      unfold campaign_CheckFleet_b1 at h
      refine tSR <| ARun.qv (q_lss rfl rfl) rfl <| rN <| tS <| ATodo.cond_d rfl (fun hc => ?_) (fun hc => ?_)
      · refine have h := iteT hc h; tK <| tS <| ATodo.block <| tSR <| rM rfl rfl <| bndE h fun v3 e1 h => ARun.qv (t_index rfl rfl rfl e1 rfl rfl) rfl <| ARun.qv (q_load_rptr_agg rfl rfl rfl) rfl <| n_alloc rfl rfl rfl rfl fun b4 => rA rfl rfl <| n_store_ptr rfl rfl rfl rfl .p0 rfl rfl <| rN <| ATodo.block <| tS <| ATodo.cut (fun σ' => ∃ (c5 : Bool), campaign_CheckFleet_j1 p0x0 n2 v3 c5 = some z1 ∧ σ' = ⟨57, [(0, .list 7 (p0x0.map DeviceS.av)), (3, I n2), (4, .ptr b4 0), (8, .list 7 (p0x0.map DeviceS.av)), (9, I (p0x0.length : Int)), (10, I n2), (15, .bool c5)], [(b4, .cells [.str v3.Key, .str v3.Model, .str v3.Tenant, I v3.Firmware.Major, I v3.Firmware.Minor, I v3.Firmware.Patch, .list 2 (v3.Tags.map Pair.av)])]⟩) ?_ ?_
        · refine tR <| rF rfl rfl rfl <| rL rfl rfl .p0 rfl rfl <| bndE h fun v6 e2 h => r_callp rfl (base_Key_c e2) (CoL.refl _) rfl <| ARun.qv (q_not rfl) rfl <| rM rfl rfl <| ARun.guard rfl rfl rfl (fun hc => ?_) (fun hc => ?_)
          · refine have h := iteFb hc h; rF rfl rfl rfl <| rY rfl rfl rfl <| rL rfl rfl .p0 rfl rfl <| rY rfl rfl rfl <| bndE h fun v7 e3 h => r_callp rfl (base_Key_c e3) (CoL.refl _) rfl <| rY rfl rfl rfl <| ARun.qv (q_not rfl) rfl <| rE rfl rfl rfl <| rM rfl rfl <| ARun.guard rfl rfl rfl (fun hc => ?_) (fun hc => ?_)
            · exact have h := iteFb hc h; rF rfl rfl rfl <| rY rfl rfl rfl <| rL rfl rfl .p0 rfl rfl <| rY rfl rfl rfl <| bndE h fun v8 e4 h => r_callp rfl (base_Key_c e4) (CoL.refl _) rfl <| rY rfl rfl rfl <| ARun.qv (q_not rfl) rfl <| rE rfl rfl rfl <| rA rfl rfl <| rN <| ATodo.stop <| ImpX.lq [0] ⟨!v8, h, rfl⟩ rfl rfl
            · exact have h := iteT hc h; rG rfl rfl rfl rfl <| rG rfl rfl rfl rfl <| rG rfl rfl rfl rfl <| rT rfl rfl rfl <| rA rfl rfl <| rN <| ATodo.stop <| ImpX.lq [0] ⟨true, h, rfl⟩ rfl rfl
          · exact have h := iteT hc h; rG rfl rfl rfl rfl <| rG rfl rfl rfl rfl <| rG rfl rfl rfl rfl <| rT rfl rfl rfl <| rM rfl rfl <| rG rfl rfl rfl rfl <| rG rfl rfl rfl rfl <| rG rfl rfl rfl rfl <| rG rfl rfl rfl rfl <| rT rfl rfl rfl <| rA rfl rfl <| rN <| ATodo.stop <| ImpX.lq [0] ⟨true, h, rfl⟩ rfl rfl
        · rintro σ' ⟨c5, h, rfl⟩
          unfold campaign_CheckFleet_j1 at h
          refine ATodo.cond rfl (fun hc => ?_) (fun hc => ?_)
          · refine have h := iteT hc h; tSR <| rA rfl rfl <| rN <| ATodo.ret <| have h := outL h hA1; ?_
            obtain rfl := Option.some.inj h
            exact ImpX.here ⟨_, .cons (.tmp _ _ rfl) .nil, rfl⟩
          · refine have h := iteFb hc h; tS <| ATodo.cut (fun σ' => ∃ (c9 : Bool), campaign_CheckFleet_j2 n2 v3 c9 = some z1 ∧ σ' = ⟨57, [(0, .list 7 (p0x0.map DeviceS.av)), (4, .ptr b4 0), (8, .list 7 (p0x0.map DeviceS.av)), (9, I (p0x0.length : Int)), (10, I n2), (32, .bool c9)], [(b4, .cells [.str v3.Key, .str v3.Model, .str v3.Tenant, I v3.Firmware.Major, I v3.Firmware.Minor, I v3.Firmware.Patch, .list 2 (v3.Tags.map Pair.av)])]⟩) ?_ ?_
            · refine ATodo.regionM (id := 8) (A := [0, 1, 3, 7, 15, 7, 7, 71, 231, 487, 999, 2047, 4095, 8191]) 14 mixed rfl (by kernel_rfl) (by kernel_rfl) <| AM.qv (q_move rfl) rfl <| AM.qv (q_gtr rfl rfl) rfl <| AM.qv (q_move rfl) rfl <| AM.guard_dt rfl rfl rfl (fun hc => ?_) (fun hc => ?_)
              · exact have h := iteT hc h; AM.qv (n_field_ptr rfl rfl) rfl <| AM.guard_yes rfl rfl rfl <| AM.qv (q_load_ptr rfl rfl .p0 rfl) rfl <| AM.guard_yes rfl rfl rfl <| AM.qv (q_move rfl) rfl <| AM.guard_yes rfl rfl rfl <| AM.qv (q_move rfl) rfl <| AM.guard_yes rfl rfl rfl <| AM.qv (q_subw rfl rfl) rfl <| AM.guard_yes rfl rfl rfl <| bndE h fun v10 e5 h => AM.qv (t_index rfl rfl rfl e5 rfl rfl) rfl <| AM.guard_yes rfl rfl rfl <| AM.qv (n_field_rptr rfl rfl) rfl <| AM.guard_yes rfl rfl rfl <| AM.qv (q_load_rptr rfl rfl rfl) rfl <| AM.guard_yes rfl rfl rfl <| AM.qv (t_sleq rfl rfl) rfl <| AM.qv (q_pick_t rfl rfl) rfl <| AM.qv (q_assign rfl) rfl <| AM.nil <| rN <| ATodo.stop <| ImpX.lq [0] ⟨Op.bytesLess v3.Key v10.Key || v3.Key == v10.Key, h, rfl⟩ rfl rfl
              · exact have h := iteF hc h; AM.guard_no rfl rfl rfl rfl <| AM.guard_no rfl rfl rfl rfl <| AM.guard_no rfl rfl rfl rfl <| AM.guard_no rfl rfl rfl rfl <| AM.guard_no rfl rfl rfl rfl <| AM.guard_no rfl rfl rfl rfl <| AM.guard_no rfl rfl rfl rfl <| AM.guard_no rfl rfl rfl rfl <| AM.qv (q_pick_f rfl rfl) rfl <| AM.qv (q_assign rfl) rfl <| AM.nil <| rN <| ATodo.stop <| ImpX.lq [0] ⟨false, h, rfl⟩ rfl rfl
            · rintro σ' ⟨c9, h, rfl⟩
              unfold campaign_CheckFleet_j2 at h
              refine ATodo.cond rfl (fun hc => ?_) (fun hc => ?_)
              · refine have h := iteT hc h; tSR <| rA rfl rfl <| rN <| ATodo.ret <| have h := outL h hA1; ?_
                obtain rfl := Option.some.inj h
                exact ImpX.here ⟨_, .cons (.tmp _ _ rfl) .nil, rfl⟩
              · refine have h := iteFb hc h; tSR <| rF rfl rfl rfl <| ARun.qv (n_load_ptr_part rfl rfl .p0 rfl rfl) rfl <| r_callp rfl (base_Version_c rfl) (CoL.refl _) rfl <| ARun.qv (q_not rfl) rfl <| rA rfl rfl <| rN <| ATodo.cond rfl (fun hc => ?_) (fun hc => ?_)
                · refine have h := iteT hc h; tSR <| rA rfl rfl <| rN <| ATodo.ret <| have h := outL h hA1; ?_
                  obtain rfl := Option.some.inj h
                  exact ImpX.here ⟨_, .cons (.tmp _ _ rfl) .nil, rfl⟩
                · refine have h := iteFb hc h; tSR <| rF rfl rfl rfl <| rL rfl rfl .p0 rfl rfl <| ARun.qv (t_len rfl) rfl <| ARun.qv (q_gtr rfl rfl) rfl <| rA rfl rfl <| rN <| ATodo.cond_d rfl (fun hc => ?_) (fun hc => ?_)
                  · refine have h := iteT hc h; tSR <| rA rfl rfl <| rN <| ATodo.ret <| have h := outL h hA1; ?_
                    obtain rfl := Option.some.inj h
                    exact ImpX.here ⟨_, .cons (.tmp _ _ rfl) .nil, rfl⟩
                  · refine have h := iteF hc h; tK <| ATodo.blk <| ATodo.blk <| tR <| ARun.qv (q_addw rfl rfl) rfl <| rM rfl rfl <| rN <| ATodo.stop <| ?_
                    obtain rfl := Option.some.inj h
                    exact hJ1 _ _ rfl <| ImpX.lq [] rfl rfl rfl
      · refine have h := iteF hc h; ATodo.exit rfl <| have h := outL h hA1; tSR <| rA rfl rfl <| rN <| ATodo.ret <| ?_
        obtain rfl := Option.some.inj h
        exact ImpX.here ⟨_, .cons (.tmp _ _ rfl) .nil, rfl⟩

set_option maxHeartbeats 4000000 in
theorem Q_FleetFault_c [GI : GTab] {p0x0 : List DeviceS} {r : Int} (h : Q_FleetFault p0x0 = some r) : Pu Tryz.prog 19 [.list 7 (p0x0.map DeviceS.av)] (I r) := by
  unfold Q_FleetFault at h
  refine ACall.bodyN Tryz.func19 rfl Tryz.ntmps19 Tryz.results19 rfl rfl ?_
  refine tSR <| rA rfl rfl <| rN <| tS <| tSR <| rM rfl rfl <| ARun.qv (t_len rfl) rfl <| ARun.qv (q_gtr rfl rfl) rfl <| rN <| ATodo.cond_d rfl (fun hc => ?_) (fun hc => ?_)
  · refine have h := iteT hc h; tSR <| rA rfl rfl <| rN <| ATodo.ret <| ?_
    obtain rfl := Option.some.inj h
    exact ImpX.here ⟨_, .cons (.tmp _ _ rfl) .nil, rfl⟩
  · refine have h := iteF hc h; tK <| tSR <| rA rfl rfl <| rN <| tS <| tSR <| rM rfl rfl <| ARun.qv (t_len rfl) rfl <| rM rfl rfl <| rN <| ATodo.block <| ATodo.loopI (fun x : Str × Int => Q_FleetFault_b1 p0x0 x.1 x.2) (fun x σ' => σ' = ⟨51, [(3, .str x.1), (10, .list 7 (p0x0.map DeviceS.av)), (11, I (p0x0.length : Int)), (12, I x.2)], []⟩) h ?_ ?_
    · exact ImpX.lq [] rfl rfl rfl
    · intro x z1 σ' J1 hmk h hJ1 hA1
      obtain ⟨q3, n4⟩ := x
      obtain rfl := hmk
      replace h : Q_FleetFault_b1 p0x0 q3 n4 = some z1 := h
      unfold Q_FleetFault_b1 at h
      refine tSR <| ARun.qv (q_lss rfl rfl) rfl <| rN <| tS <| ATodo.cond_d rfl (fun hc => ?_) (fun hc => ?_)
      · refine have h := iteT hc h; tK <| tS <| ATodo.block <| tSR <| bndE h fun v5 e1 h => ARun.qv (t_index rfl rfl rfl e1 rfl rfl) rfl <| ARun.qv (q_load_rptr_agg rfl rfl rfl) rfl <| n_alloc rfl rfl rfl rfl fun b6 => n_store_ptr rfl rfl rfl rfl .p0 rfl rfl <| rN <| tS <| ATodo.block <| tS <| ATodo.cut (fun σ' => ∃ (c7 : Bool), Q_FleetFault_j1 q3 n4 v5 c7 = some z1 ∧ σ' = ⟨51, [(3, .str q3), (5, .ptr b6 0), (10, .list 7 (p0x0.map DeviceS.av)), (11, I (p0x0.length : Int)), (12, I n4), (16, .bool c7)], [(b6, .cells [.str v5.Key, .str v5.Model, .str v5.Tenant, I v5.Firmware.Major, I v5.Firmware.Minor, I v5.Firmware.Patch, .list 2 (v5.Tags.map Pair.av)])]⟩) ?_ ?_
        · refine tR <| rF rfl rfl rfl <| rL rfl rfl .p0 rfl rfl <| bndE h fun v8 e2 h => r_callp rfl (Q_Key_c e2) (CoL.refl _) rfl <| ARun.qv (q_not rfl) rfl <| rM rfl rfl <| ARun.guard rfl rfl rfl (fun hc => ?_) (fun hc => ?_)
          · refine have h := iteFb hc h; rF rfl rfl rfl <| rY rfl rfl rfl <| rL rfl rfl .p0 rfl rfl <| rY rfl rfl rfl <| bndE h fun v9 e3 h => r_callp rfl (Q_Key_c e3) (CoL.refl _) rfl <| rY rfl rfl rfl <| ARun.qv (q_not rfl) rfl <| rE rfl rfl rfl <| rM rfl rfl <| ARun.guard rfl rfl rfl (fun hc => ?_) (fun hc => ?_)
            · exact have h := iteFb hc h; rF rfl rfl rfl <| rY rfl rfl rfl <| rL rfl rfl .p0 rfl rfl <| rY rfl rfl rfl <| bndE h fun v10 e4 h => r_callp rfl (Q_Key_c e4) (CoL.refl _) rfl <| rY rfl rfl rfl <| ARun.qv (q_not rfl) rfl <| rE rfl rfl rfl <| rA rfl rfl <| rN <| ATodo.stop <| ImpX.lq [0] ⟨!v10, h, rfl⟩ rfl rfl
            · exact have h := iteT hc h; rG rfl rfl rfl rfl <| rG rfl rfl rfl rfl <| rG rfl rfl rfl rfl <| rT rfl rfl rfl <| rA rfl rfl <| rN <| ATodo.stop <| ImpX.lq [0] ⟨true, h, rfl⟩ rfl rfl
          · exact have h := iteT hc h; rG rfl rfl rfl rfl <| rG rfl rfl rfl rfl <| rG rfl rfl rfl rfl <| rT rfl rfl rfl <| rM rfl rfl <| rG rfl rfl rfl rfl <| rG rfl rfl rfl rfl <| rG rfl rfl rfl rfl <| rG rfl rfl rfl rfl <| rT rfl rfl rfl <| rA rfl rfl <| rN <| ATodo.stop <| ImpX.lq [0] ⟨true, h, rfl⟩ rfl rfl
        · rintro σ' ⟨c7, h, rfl⟩
          unfold Q_FleetFault_j1 at h
          refine ATodo.cond rfl (fun hc => ?_) (fun hc => ?_)
          · refine have h := iteT hc h; tSR <| rA rfl rfl <| rN <| ATodo.ret <| have h := outL h hA1; ?_
            obtain rfl := Option.some.inj h
            exact ImpX.here ⟨_, .cons (.tmp _ _ rfl) .nil, rfl⟩
          · refine have h := iteFb hc h; tSR <| rF rfl rfl rfl <| rL rfl rfl .p0 rfl rfl <| rM rfl rfl <| ARun.qv (t_sleq rfl rfl) rfl <| rA rfl rfl <| rN <| ATodo.cond rfl (fun hc => ?_) (fun hc => ?_)
            · refine have h := iteT hc h; tSR <| rA rfl rfl <| rN <| ATodo.ret <| have h := outL h hA1; ?_
              obtain rfl := Option.some.inj h
              exact ImpX.here ⟨_, .cons (.tmp _ _ rfl) .nil, rfl⟩
            · refine have h := iteFb hc h; tK <| ATodo.blk <| tSR <| rF rfl rfl rfl <| rL rfl rfl .p0 rfl rfl <| rA rfl rfl <| rN <| tS <| tSR <| rF rfl rfl rfl <| ARun.qv (n_load_ptr_part rfl rfl .p0 rfl rfl) rfl <| r_callp rfl (Q_versionFault_c rfl) (CoL.refl _) rfl <| rA rfl rfl <| rN <| tSR <| rM rfl rfl <| ARun.qv (q_neq rfl rfl) rfl <| rN <| ATodo.cond_d rfl (fun hc => ?_) (fun hc => ?_)
              · refine have h := iteT hc h; tSR <| rM rfl rfl <| rA rfl rfl <| rN <| ATodo.ret <| have h := outL h hA1; ?_
                obtain rfl := Option.some.inj h
                exact ImpX.here ⟨_, .cons (.tmp _ _ rfl) .nil, rfl⟩
              · refine have h := iteF hc h; tK <| tSR <| rF rfl rfl rfl <| rL rfl rfl .p0 rfl rfl <| ARun.qv (t_len rfl) rfl <| ARun.qv (q_gtr rfl rfl) rfl <| rN <| ATodo.cond_d rfl (fun hc => ?_) (fun hc => ?_)
                · refine have h := iteT hc h; tSR <| rA rfl rfl <| rN <| ATodo.ret <| have h := outL h hA1; ?_
                  obtain rfl := Option.some.inj h
                  exact ImpX.here ⟨_, .cons (.tmp _ _ rfl) .nil, rfl⟩
                · refine have h := iteF hc h; tK <| ATodo.blk <| tR <| ARun.qv (q_addw rfl rfl) rfl <| rM rfl rfl <| rN <| ATodo.stop <| ?_
                  obtain rfl := Option.some.inj h
                  exact hJ1 _ _ rfl <| ImpX.lq [] rfl rfl rfl
      · refine have h := iteF hc h; ATodo.exit rfl <| have h := outL h hA1; tSR <| rA rfl rfl <| rN <| ATodo.ret <| ?_
        obtain rfl := Option.some.inj h
        exact ImpX.here ⟨_, .cons (.tmp _ _ rfl) .nil, rfl⟩

set_option maxHeartbeats 4000000 in
theorem Q_MarksFault_c [GI : GTab] {p0x0 : List MarkS} {r : Int} (h : Q_MarksFault p0x0 = some r) : Pu Tryz.prog 21 [.list 6 (p0x0.map MarkS.av)] (I r) := by
  unfold Q_MarksFault at h
  refine ACall.bodyN Tryz.func21 rfl Tryz.ntmps21 Tryz.results21 rfl rfl ?_
  refine tSR <| rA rfl rfl <| rN <| tS <| tSR <| rM rfl rfl <| ARun.qv (t_len rfl) rfl <| ARun.qv (q_gtr rfl rfl) rfl <| rN <| ATodo.cond_d rfl (fun hc => ?_) (fun hc => ?_)
  · refine have h := iteT hc h; tSR <| rA rfl rfl <| rN <| ATodo.ret <| ?_
    obtain rfl := Option.some.inj h
    exact ImpX.here ⟨_, .cons (.tmp _ _ rfl) .nil, rfl⟩
  · refine have h := iteF hc h; tK <| tS <| tSR <| rM rfl rfl <| ARun.qv (t_len rfl) rfl <| rM rfl rfl <| rN <| ATodo.block <| ATodo.loopI (fun x : Int => Q_MarksFault_b1 p0x0 x) (fun x σ' => σ' = ⟨50, [(0, .list 6 (p0x0.map MarkS.av)), (9, .list 6 (p0x0.map MarkS.av)), (10, I (p0x0.length : Int)), (11, I x)], []⟩) h ?_ ?_
    · exact ImpX.lq [] rfl rfl rfl
    · intro n2 z1 σ' J1 hmk h hJ1 hA1
      obtain rfl := hmk
      replace h : Q_MarksFault_b1 p0x0 n2 = some z1 := h
      unfold Q_MarksFault_b1 at h
      refine tSR <| ARun.qv (q_lss rfl rfl) rfl <| rN <| tS <| ATodo.cond_d rfl (fun hc => ?_) (fun hc => ?_)
      · refine have h := iteT hc h; tK <| tS <| ATodo.block <| tSR <| rM rfl rfl <| bndE h fun v3 e1 h => ARun.qv (t_index rfl rfl rfl e1 rfl rfl) rfl <| ARun.qv (q_load_rptr_agg rfl rfl rfl) rfl <| n_alloc rfl rfl rfl rfl fun b4 => rA rfl rfl <| n_store_ptr rfl rfl rfl rfl .p0 rfl rfl <| rN <| tS <| ATodo.block <| tSR <| rF rfl rfl rfl <| rL rfl rfl .p0 rfl rfl <| r_callp rfl (Q_Moment_c rfl) (CoL.refl _) rfl <| ARun.qv (q_not rfl) rfl <| rA rfl rfl <| rN <| ATodo.cond rfl (fun hc => ?_) (fun hc => ?_)
        · refine have h := iteT hc h; tSR <| rA rfl rfl <| rN <| ATodo.ret <| have h := outL h hA1; ?_
          obtain rfl := Option.some.inj h
          exact ImpX.here ⟨_, .cons (.tmp _ _ rfl) .nil, rfl⟩
        · refine have h := iteFb hc h; tSR <| rF rfl rfl rfl <| rL rfl rfl .p0 rfl rfl <| bndE h fun v5 e2 h => r_callp rfl (Q_Key_c e2) (CoL.refl _) rfl <| ARun.qv (q_not rfl) rfl <| rA rfl rfl <| rN <| ATodo.cond rfl (fun hc => ?_) (fun hc => ?_)
          · refine have h := iteT hc h; tSR <| rA rfl rfl <| rN <| ATodo.ret <| have h := outL h hA1; ?_
            obtain rfl := Option.some.inj h
            exact ImpX.here ⟨_, .cons (.tmp _ _ rfl) .nil, rfl⟩
          · refine have h := iteFb hc h; tSR <| rF rfl rfl rfl <| rL rfl rfl .p0 rfl rfl <| r_callp rfl (Q_in_c rfl) (CoL.refl _) rfl <| ARun.qv (q_not rfl) rfl <| rA rfl rfl <| rN <| ATodo.cond rfl (fun hc => ?_) (fun hc => ?_)
            · refine have h := iteT hc h; tSR <| rA rfl rfl <| rN <| ATodo.ret <| have h := outL h hA1; ?_
              obtain rfl := Option.some.inj h
              exact ImpX.here ⟨_, .cons (.tmp _ _ rfl) .nil, rfl⟩
            · refine have h := iteFb hc h; tK <| ATodo.blk <| tS <| tSR <| rF rfl rfl rfl <| ARun.qv (n_load_ptr_part rfl rfl .p0 rfl rfl) rfl <| r_callp rfl (Q_versionFault_c rfl) (CoL.refl _) rfl <| rA rfl rfl <| rN <| tSR <| rM rfl rfl <| ARun.qv (q_neq rfl rfl) rfl <| rN <| ATodo.cond_d rfl (fun hc => ?_) (fun hc => ?_)
              · refine have h := iteT hc h; tSR <| rM rfl rfl <| rA rfl rfl <| rN <| ATodo.ret <| have h := outL h hA1; ?_
                obtain rfl := Option.some.inj h
                exact ImpX.here ⟨_, .cons (.tmp _ _ rfl) .nil, rfl⟩
              · refine have h := iteF hc h; tK <| tS <| ATodo.cut (fun σ' => ∃ (c6 : Bool), Q_MarksFault_j1 n2 c6 = some z1 ∧ σ' = ⟨50, [(0, .list 6 (p0x0.map MarkS.av)), (9, .list 6 (p0x0.map MarkS.av)), (10, I (p0x0.length : Int)), (11, I n2), (48, .bool c6)], []⟩) ?_ ?_
                · refine ATodo.regionM (id := 15) (A := [0, 1, 3, 7, 7, 23, 63, 127, 7, 511, 1023, 2047]) 12 mixed rfl (by kernel_rfl) (by kernel_rfl) <| AM.qv (q_move rfl) rfl <| AM.qv (q_gtr rfl rfl) rfl <| AM.qv (q_move rfl) rfl <| AM.guard_dt rfl rfl rfl (fun hc => ?_) (fun hc => ?_)
                  · exact have h := iteT hc h; AM.qv (q_move rfl) rfl <| AM.guard_yes rfl rfl rfl <| AM.qv (q_move rfl) rfl <| AM.guard_yes rfl rfl rfl <| AM.qv (q_subw rfl rfl) rfl <| AM.guard_yes rfl rfl rfl <| bndE h fun v7 e3 h => AM.qv (t_index rfl rfl rfl e3 rfl rfl) rfl <| AM.guard_yes rfl rfl rfl <| AM.qv (q_load_rptr_agg rfl rfl rfl) rfl <| AM.guard_yes rfl rfl rfl <| AM.qv (q_load_ptr_all rfl rfl .p0 rfl) rfl <| AM.guard_yes rfl rfl rfl <| AM.callp rfl (Q_MarkOrder_c rfl) (CoL.refl _) rfl <| AM.guard_yes rfl rfl rfl <| AM.qv (q_geq rfl rfl) rfl <| AM.qv (q_pick_t rfl rfl) rfl <| AM.nil <| rN <| ATodo.stop <| ImpX.lq [] ⟨decide ((0 : Int) ≤ (Q_MarkOrder v7 v3)), h, rfl⟩ rfl rfl
                  · exact have h := iteF hc h; AM.guard_no rfl rfl rfl rfl <| AM.guard_no rfl rfl rfl rfl <| AM.guard_no rfl rfl rfl rfl <| AM.guard_no rfl rfl rfl rfl <| AM.guard_no rfl rfl rfl rfl <| AM.guard_no rfl rfl rfl rfl <| AM.guard_no rfl rfl rfl rfl <| AM.qv (q_pick_f rfl rfl) rfl <| AM.nil <| rN <| ATodo.stop <| ImpX.lq [] ⟨false, h, rfl⟩ rfl rfl
                · rintro σ' ⟨c6, h, rfl⟩
                  unfold Q_MarksFault_j1 at h
                  refine ATodo.cond rfl (fun hc => ?_) (fun hc => ?_)
                  · refine have h := iteT hc h; tSR <| rA rfl rfl <| rN <| ATodo.ret <| have h := outL h hA1; ?_
                    obtain rfl := Option.some.inj h
                    exact ImpX.here ⟨_, .cons (.tmp _ _ rfl) .nil, rfl⟩
                  · refine have h := iteFb hc h; tK <| ATodo.blk <| tR <| ARun.qv (q_addw rfl rfl) rfl <| rM rfl rfl <| rN <| ATodo.stop <| ?_
                    obtain rfl := Option.some.inj h
                    exact hJ1 _ _ rfl <| ImpX.lq [] rfl rfl rfl
      · refine have h := iteF hc h; ATodo.exit rfl <| have h := outL h hA1; tSR <| rA rfl rfl <| rN <| ATodo.ret <| ?_
        obtain rfl := Option.some.inj h
        exact ImpX.here ⟨_, .cons (.tmp _ _ rfl) .nil, rfl⟩

set_option maxHeartbeats 4000000 in
theorem L_when_c [GI : GTab] {p0x0 : Bool} {p1x0 : Int} {r : Int} (h : L_when p0x0 p1x0 = r) : Pu Tryz.prog 23 [.bool p0x0, I p1x0] (I r) := by
  unfold L_when at h
  refine ACall.bodyN Tryz.func23 rfl Tryz.ntmps23 Tryz.results23 rfl rfl ?_
  refine tSR <| rA rfl rfl <| rN <| tS <| tSR <| rM rfl rfl <| rN <| ATodo.cond rfl (fun hc => ?_) (fun hc => ?_)
  · refine have h := iteT hc h; tSR <| rM rfl rfl <| rA rfl rfl <| rN <| ATodo.ret <| ?_
    obtain rfl := h
    exact ImpX.here ⟨_, .cons (.tmp _ _ rfl) .nil, rfl⟩
  · refine have h := iteFb hc h; tK <| tSR <| rA rfl rfl <| rN <| ATodo.ret <| ?_
    obtain rfl := h
    exact ImpX.here ⟨_, .cons (.tmp _ _ rfl) .nil, rfl⟩

set_option maxHeartbeats 4000000 in
theorem L_errs_c [GI : GTab] {p0x0 : List Int} {r : Int} (h : L_errs p0x0 = some r) : Pu Tryz.prog 22 [.list 1 (p0x0.map I)] (I r) := by
  unfold L_errs at h
  refine ACall.bodyN Tryz.func22 rfl Tryz.ntmps22 Tryz.results22 rfl rfl ?_
  refine tSR <| rA rfl rfl <| rN <| tS <| tSR <| rM rfl rfl <| ARun.qv (t_len rfl) rfl <| rM rfl rfl <| rN <| ATodo.block <| ATodo.loopI (fun x : Int => L_errs_b1 p0x0 x) (fun x σ' => σ' = ⟨15, [(5, .list 1 (p0x0.map I)), (6, I (p0x0.length : Int)), (7, I x)], []⟩) h ?_ ?_
  · exact ImpX.lq [] rfl rfl rfl
  · intro n2 z1 σ' J1 hmk h hJ1 hA1
    obtain rfl := hmk
    replace h : L_errs_b1 p0x0 n2 = some z1 := h
    unfold L_errs_b1 at h
    refine tSR <| ARun.qv (q_lss rfl rfl) rfl <| rN <| tS <| ATodo.cond_d rfl (fun hc => ?_) (fun hc => ?_)
    · refine have h := iteT hc h; tK <| tS <| ATodo.block <| tSR <| bndE h fun v3 e1 h => ARun.qv (t_index rfl rfl rfl e1 rfl rfl) rfl <| ARun.qv (q_load_rptr rfl rfl rfl) rfl <| rA rfl rfl <| rN <| tSR <| rM rfl rfl <| ARun.qv (q_neq rfl rfl) rfl <| rN <| ATodo.cond_d rfl (fun hc => ?_) (fun hc => ?_)
      · refine have h := iteT hc h; tSR <| rM rfl rfl <| rA rfl rfl <| rN <| ATodo.ret <| have h := outL h hA1; ?_
        obtain rfl := Option.some.inj h
        exact ImpX.here ⟨_, .cons (.tmp _ _ rfl) .nil, rfl⟩
      · refine have h := iteF hc h; tK <| ATodo.blk <| tR <| ARun.qv (q_addw rfl rfl) rfl <| rM rfl rfl <| rN <| ATodo.stop <| ?_
        obtain rfl := Option.some.inj h
        exact hJ1 _ _ rfl <| ImpX.lq [] rfl rfl rfl
    · refine have h := iteF hc h; ATodo.exit rfl <| have h := outL h hA1; tSR <| rA rfl rfl <| rN <| ATodo.ret <| ?_
      obtain rfl := Option.some.inj h
      exact ImpX.here ⟨_, .cons (.tmp _ _ rfl) .nil, rfl⟩

set_option maxHeartbeats 4000000 in
theorem Q_lot_c [GI : GTab] {p0x0 : Campaign} {p1x0 : Str} {r : Int} (h : Q_lot p0x0 p1x0 = some r) : Pu Tryz.prog 70 [.agg [.str p0x0.Key, I p0x0.Target.Major, I p0x0.Target.Minor, I p0x0.Target.Patch, I p0x0.At, .list 4 (p0x0.Waves.map Wave.av), I p0x0.Hours.From, I p0x0.Hours.To, I p0x0.Room], .str p1x0] (I r) := by
  unfold Q_lot at h
  refine ACall.bodyN Tryz.func70 rfl Tryz.ntmps70 Tryz.results70 rfl rfl ?_
  refine tSR <| n_box rfl rfl rfl rfl fun b1 => rA rfl rfl <| rN <| tSR <| rA rfl rfl <| rN <| tS <| tSR <| rF rfl rfl rfl <| rL rfl rfl .p0 rfl rfl <| bndE h fun q2 e1 h => ARun.qv (q_sadd e1 rfl rfl) rfl <| rM rfl rfl <| bndE h fun q3 e2 h => ARun.qv (q_sadd e2 rfl rfl) rfl <| t_conv_sb rfl rfl <| ARun.qv (t_len rfl) rfl <| rM rfl rfl <| rN <| ATodo.block <| ATodo.loopI (fun x : Int × Int => Q_lot_b1 q3 x.1 x.2) (fun x σ' => σ' = ⟨31, [(5, .int .u64 x.1), (13, .list 1 ((bytesI q3).map (AV.int .u8))), (14, I ((bytesI q3).length : Int)), (15, I x.2)], []⟩) h ?_ ?_
  · exact ImpX.lq [] rfl rfl rfl
  · intro x z1 σ' J1 hmk h hJ1 hA1
    obtain ⟨n6, n7⟩ := x
    obtain rfl := hmk
    replace h : Q_lot_b1 q3 n6 n7 = some z1 := h
    unfold Q_lot_b1 at h
    refine tSR <| ARun.qv (q_lss rfl rfl) rfl <| rN <| tS <| ATodo.cond_d rfl (fun hc => ?_) (fun hc => ?_)
    · refine have h := iteT hc h; tK <| tS <| ATodo.block <| tSR <| bndE h fun v8 e3 h => ARun.qv (t_index rfl rfl rfl e3 rfl rfl) rfl <| ARun.qv (q_load_rptr rfl rfl rfl) rfl <| rA rfl rfl <| rN <| tR <| rM rfl rfl <| rM rfl rfl <| ARun.qv (q_conv_int rfl) rfl <| ARun.qv (t_xor rfl rfl) rfl <| ARun.qv (q_mulw rfl rfl) rfl <| rA rfl rfl <| rN <| ATodo.blk <| tR <| ARun.qv (q_addw rfl rfl) rfl <| rM rfl rfl <| rN <| ATodo.stop <| ?_
      obtain rfl := Option.some.inj h
      exact hJ1 _ _ rfl <| ImpX.lq [] rfl rfl rfl
    · refine have h := iteF hc h; ATodo.exit rfl <| have h := outL h hA1; tSR <| rM rfl rfl <| rM rfl rfl <| ARun.qv (t_shr rfl rfl (by decide)) rfl <| ARun.qv (t_xor rfl rfl) rfl <| ARun.qv (q_rem rfl rfl (by decide)) rfl <| ARun.qv (q_conv_int rfl) rfl <| rA rfl rfl <| rN <| ATodo.ret <| ?_
      obtain rfl := Option.some.inj h
      exact ImpX.here ⟨_, .cons (.tmp _ _ rfl) .nil, rfl⟩

set_option maxHeartbeats 4000000 in
theorem Q_WaveOf_c [GI : GTab] {p0x0 : Campaign} {p1x0 : Str} {r : Int} (h : Q_WaveOf p0x0 p1x0 = some r) : Pu Tryz.prog 25 [.agg [.str p0x0.Key, I p0x0.Target.Major, I p0x0.Target.Minor, I p0x0.Target.Patch, I p0x0.At, .list 4 (p0x0.Waves.map Wave.av), I p0x0.Hours.From, I p0x0.Hours.To, I p0x0.Room], .str p1x0] (I r) := by
  unfold Q_WaveOf at h
  refine ACall.bodyN Tryz.func25 rfl Tryz.ntmps25 Tryz.results25 rfl rfl ?_
  refine tSR <| n_box rfl rfl rfl rfl fun b1 => rA rfl rfl <| rN <| tSR <| ARun.qv (q_load_ptr_all rfl rfl .p0 rfl) rfl <| rM rfl rfl <| bndE h fun v2 e1 h => r_callp rfl (Q_lot_c e1) (CoL.refl _) rfl <| rA rfl rfl <| rN <| tS <| tSR <| rF rfl rfl rfl <| rL rfl rfl .p0 rfl rfl <| ARun.qv (t_len rfl) rfl <| rM rfl rfl <| rN <| ATodo.block <| ATodo.loopI (fun x : Int × Int => Q_WaveOf_b1 p0x0 x.1 x.2) (fun x σ' => σ' = ⟨27, [(5, I x.1), (12, .list 4 (p0x0.Waves.map Wave.av)), (13, I (p0x0.Waves.length : Int)), (14, I x.2)], []⟩) h ?_ ?_
  · exact ImpX.lq [] rfl rfl rfl
  · intro x z1 σ' J1 hmk h hJ1 hA1
    obtain ⟨n5, n6⟩ := x
    obtain rfl := hmk
    replace h : Q_WaveOf_b1 p0x0 n5 n6 = some z1 := h
    unfold Q_WaveOf_b1 at h
    refine tSR <| ARun.qv (q_lss rfl rfl) rfl <| rN <| tS <| ATodo.cond_d rfl (fun hc => ?_) (fun hc => ?_)
    · refine have h := iteT hc h; tK <| tS <| ATodo.block <| tSR <| rM rfl rfl <| bndE h fun v7 e2 h => ARun.qv (t_index rfl rfl rfl e2 rfl rfl) rfl <| ARun.qv (q_load_rptr_agg rfl rfl rfl) rfl <| n_alloc rfl rfl rfl rfl fun b8 => rA rfl rfl <| n_store_ptr rfl rfl rfl rfl .p0 rfl rfl <| rN <| tSR <| rM rfl rfl <| rF rfl rfl rfl <| rL rfl rfl .p0 rfl rfl <| ARun.qv (q_subw rfl rfl) rfl <| rA rfl rfl <| rN <| tSR <| rM rfl rfl <| ARun.qv (q_lss rfl rfl) rfl <| rN <| ATodo.cond_d rfl (fun hc => ?_) (fun hc => ?_)
      · refine have h := iteT hc h; tSR <| rM rfl rfl <| rA rfl rfl <| rN <| ATodo.ret <| have h := outL h hA1; ?_
        obtain rfl := Option.some.inj h
        exact ImpX.here ⟨_, .cons (.tmp _ _ rfl) .nil, rfl⟩
      · refine have h := iteF hc h; tK <| ATodo.blk <| tR <| ARun.qv (q_addw rfl rfl) rfl <| rM rfl rfl <| rN <| ATodo.stop <| ?_
        obtain rfl := Option.some.inj h
        exact hJ1 _ _ rfl <| ImpX.lq [] rfl rfl rfl
    · refine have h := iteF hc h; ATodo.exit rfl <| have h := outL h hA1; tSR <| rA rfl rfl <| rN <| ATodo.ret <| ?_
      obtain rfl := Option.some.inj h
      exact ImpX.here ⟨_, .cons (.tmp _ _ rfl) .nil, rfl⟩

set_option maxHeartbeats 4000000 in
theorem Q_MarksOf_c [GI : GTab] {p0x0 : List MarkS} {p1x0 : List MarkS} {r : (List MarkS) × Int} (h : Q_MarksOf p0x0 p1x0 = some r) : ACall Tryz.prog 26 [.list 6 (p0x0.map MarkS.av), .list 6 (p1x0.map MarkS.av)] [] (T1 (fun d_0 => [(d_0, .arr 6 (r.1.map MarkS.av))]) (fun d_0 => .tup [.sl 6 d_0 0 r.1.length, I r.2])) := by
  unfold Q_MarksOf at h
  refine ACall.lessH ?_
  refine ACall.bodyN Tryz.func26 rfl Tryz.ntmps26 Tryz.results26 rfl rfl ?_
  refine tSR <| rA rfl rfl <| rA rfl rfl <| rN <| tSR <| rM rfl rfl <| rM rfl rfl <| n_buildSliceL (xs := ([p0x0, p1x0] : List (List MarkS)).map (encL 6 MarkS.av)) rfl rfl rfl rfl rfl rfl <| bndE h fun v1 e1 h => t_call1 rfl (slices_Concat_Mark_Mark_c e1) (CoL.refl _) .nil (fun _ => rfl) rfl fun b2 => rA rfl rfl <| rN <| tSR <| rM rfl rfl <| bndE h fun v3 e2 h => t_call0 rfl (slices_SortStableFunc_Mark_Mark_c (fun e => Q_MarkOrder_c (Option.some.inj e)) (lenOk_f e2)) (CoL.refl _) (.cons .p0 .nil) rfl rfl <| ARun.ghost <| ImpX.eqs (s := 6) (av' := .sl 6 b2 0 v3.length) rfl (congrArg (AV.sl 6 b2 0) (lenOk_l e2)) <| ImpX.here <| ARun.ghost <| ImpX.eqs (s := 11) (av' := .sl 6 b2 0 v3.length) rfl (congrArg (AV.sl 6 b2 0) (lenOk_l e2)) <| ImpX.here <| ARun.ghost <| ImpX.eqs (s := 12) (av' := .sl 6 b2 0 v3.length) rfl (congrArg (AV.sl 6 b2 0) (lenOk_l e2)) <| ImpX.here <| rN <| tSR <| rM rfl rfl <| bndE h fun v4 e3 h => t_call1 rfl (slices_Compact_Mark_Mark_c e3) (CoL.refl _) (.cons .p0 .nil) (fun _ => rfl) rfl fun b5 => rA rfl rfl <| rN <| tS <| tSR <| rM rfl rfl <| ARun.qv (t_len_sl rfl) rfl <| rM rfl rfl <| rN <| ATodo.block <| ATodo.loopI (fun x : Int => Q_MarksOf_b1 v4 x) (fun x σ' => σ' = ⟨41, [(6, .sl 6 b5 0 v4.length), (17, I (v4.length : Int)), (18, I x)], [(b5, .arr 6 (v4.map MarkS.av))]⟩) h ?_ ?_
  · exact ImpX.lq [0] rfl rfl rfl
  · intro n7 z1 σ' J1 hmk h hJ1 hA1
    obtain rfl := hmk
    replace h : Q_MarksOf_b1 v4 n7 = some z1 := h
    unfold Q_MarksOf_b1 at h
    refine tSR <| ARun.qv (q_lss rfl rfl) rfl <| rN <| tS <| ATodo.cond_d rfl (fun hc => ?_) (fun hc => ?_)
    · refine have h := iteT hc h; tK <| tS <| ATodo.block <| tSR <| rM rfl rfl <| rA rfl rfl <| rN <| tS <| ATodo.cut (fun σ' => ∃ (c8 : Bool), Q_MarksOf_j1 n7 c8 = some z1 ∧ σ' = ⟨41, [(6, .sl 6 b5 0 v4.length), (17, I (v4.length : Int)), (18, I n7), (35, .bool c8)], [(b5, .arr 6 (v4.map MarkS.av))]⟩) ?_ ?_
      · refine ATodo.regionM (id := 7) (A := [0, 1, 3, 7, 7, 23, 63, 127, 7, 7, 775, 1799, 4095, 8191, 16383]) 15 mixed rfl (by kernel_rfl) (by kernel_rfl) <| AM.qv (q_move rfl) rfl <| AM.qv (q_gtr rfl rfl) rfl <| AM.qv (q_move rfl) rfl <| AM.guard_dt rfl rfl rfl (fun hc => ?_) (fun hc => ?_)
        · exact have h := iteT hc h; AM.qv (q_move rfl) rfl <| AM.guard_yes rfl rfl rfl <| AM.qv (q_move rfl) rfl <| AM.guard_yes rfl rfl rfl <| AM.qv (q_subw rfl rfl) rfl <| AM.guard_yes rfl rfl rfl <| bndE h fun v9 e4 h => AM.qv (t_index_sl rfl rfl rfl e4) rfl <| AM.guard_yes rfl rfl rfl <| AM.qv (t_load_aptr_agg (g := MarkS.av) rfl rfl (.inl .p0) rfl e4 rfl) rfl <| AM.guard_yes rfl rfl rfl <| AM.qv (q_move rfl) rfl <| AM.guard_yes rfl rfl rfl <| AM.qv (q_move rfl) rfl <| AM.guard_yes rfl rfl rfl <| bndE h fun v10 e5 h => AM.qv (t_index_sl rfl rfl rfl e5) rfl <| AM.guard_yes rfl rfl rfl <| AM.qv (t_load_aptr_agg (g := MarkS.av) rfl rfl (.inl .p0) rfl e5 rfl) rfl <| AM.guard_yes rfl rfl rfl <| AM.callp rfl (Q_MarkOrder_c rfl) (CoL.refl _) rfl <| AM.guard_yes rfl rfl rfl <| AM.qv (q_eql rfl rfl) rfl <| AM.qv (q_pick_t rfl rfl) rfl <| AM.nil <| rN <| ATodo.stop <| ImpX.lq [0] ⟨decide ((Q_MarkOrder v9 v10) = (0 : Int)), h, rfl⟩ rfl rfl
        · exact have h := iteF hc h; AM.guard_no rfl rfl rfl rfl <| AM.guard_no rfl rfl rfl rfl <| AM.guard_no rfl rfl rfl rfl <| AM.guard_no rfl rfl rfl rfl <| AM.guard_no rfl rfl rfl rfl <| AM.guard_no rfl rfl rfl rfl <| AM.guard_no rfl rfl rfl rfl <| AM.guard_no rfl rfl rfl rfl <| AM.guard_no rfl rfl rfl rfl <| AM.guard_no rfl rfl rfl rfl <| AM.qv (q_pick_f rfl rfl) rfl <| AM.nil <| rN <| ATodo.stop <| ImpX.lq [0] ⟨false, h, rfl⟩ rfl rfl
      · rintro σ' ⟨c8, h, rfl⟩
        unfold Q_MarksOf_j1 at h
        refine ATodo.cond rfl (fun hc => ?_) (fun hc => ?_)
        · refine have h := iteT hc h; tSR <| rA rfl rfl <| rA rfl rfl <| rN <| ATodo.ret <| have h := outL h hA1; ?_
          obtain rfl := Option.some.inj h
          exact ImpX.arr (s := 4) 6 rfl fun b11 => ImpX.here ⟨_, .cons (.tmp _ _ rfl) (.cons (.tmp _ _ rfl) .nil), _, .cons .p0 .nil, ⟨b11, rfl, rfl⟩⟩
        · refine have h := iteFb hc h; tK <| ATodo.blk <| tR <| ARun.qv (q_addw rfl rfl) rfl <| rM rfl rfl <| rN <| ATodo.stop <| ?_
          obtain rfl := Option.some.inj h
          exact hJ1 _ _ rfl <| ImpX.lq [0] rfl rfl rfl
    · refine have h := iteF hc h; ATodo.exit rfl <| have h := outL h hA1; ?_
      unfold Q_MarksOf_k2 at h
      refine tS <| tSR <| rM rfl rfl <| ARun.qv (t_len_sl rfl) rfl <| ARun.qv (q_gtr rfl rfl) rfl <| rN <| ATodo.cond_d rfl (fun hc => ?_) (fun hc => ?_)
      · refine have h := iteT hc h; tSR <| rA rfl rfl <| rA rfl rfl <| rN <| ATodo.ret <| ?_
        obtain rfl := Option.some.inj h
        exact ImpX.arr (s := 4) 6 rfl fun b12 => ImpX.here ⟨_, .cons (.tmp _ _ rfl) (.cons (.tmp _ _ rfl) .nil), _, .cons .p0 .nil, ⟨b12, rfl, rfl⟩⟩
      · refine have h := iteF hc h; tK <| tSR <| rM rfl rfl <| rA rfl rfl <| rA rfl rfl <| rN <| ATodo.ret <| ?_
        obtain rfl := Option.some.inj h
        exact ImpX.here ⟨_, .cons (.tmp _ _ rfl) (.cons (.tmp _ _ rfl) .nil), _, .cons .p0 .nil, ⟨b5, rfl, rfl⟩⟩

set_option maxHeartbeats 4000000 in
theorem slices_Equal_Mark_Mark_c [GI : GTab] {p0x0 : List MarkS} {p1x0 : List MarkS} {r : Bool} (h : slices_Equal_Mark_Mark p0x0 p1x0 = some r) : Pu Tryz.prog 27 [.list 6 (p0x0.map MarkS.av), .list 6 (p1x0.map MarkS.av)] (.bool r) := by
  unfold slices_Equal_Mark_Mark at h
  refine ACall.bodyN Tryz.func27 rfl Tryz.ntmps27 Tryz.results27 rfl rfl ?_
  refine tSR <| rA rfl rfl <| rN <| tS <| tSR <| rM rfl rfl <| ARun.qv (t_len rfl) rfl <| rM rfl rfl <| ARun.qv (t_len rfl) rfl <| ARun.qv (q_neq rfl rfl) rfl <| rN <| ATodo.cond_d rfl (fun hc => ?_) (fun hc => ?_)
  · refine have h := iteT hc h; tSR <| rA rfl rfl <| rN <| ATodo.ret <| ?_
    obtain rfl := Option.some.inj h
    exact ImpX.here ⟨_, .cons (.tmp _ _ rfl) .nil, rfl⟩
  · refine have h := iteF hc h; tK <| tS <| tSR <| rM rfl rfl <| ARun.qv (t_len rfl) rfl <| rM rfl rfl <| rN <| ATodo.block <| ATodo.loopI (fun x : Int => slices_Equal_Mark_Mark_b1 p0x0 p1x0 x) (fun x σ' => σ' = ⟨26, [(0, .list 6 (p0x0.map MarkS.av)), (1, .list 6 (p1x0.map MarkS.av)), (12, I (p0x0.length : Int)), (13, I x)], []⟩) h ?_ ?_
    · exact ImpX.lq [] rfl rfl rfl
    · intro n2 z1 σ' J1 hmk h hJ1 hA1
      obtain rfl := hmk
      replace h : slices_Equal_Mark_Mark_b1 p0x0 p1x0 n2 = some z1 := h
      unfold slices_Equal_Mark_Mark_b1 at h
      refine tSR <| ARun.qv (q_lss rfl rfl) rfl <| rN <| tS <| ATodo.cond_d rfl (fun hc => ?_) (fun hc => ?_)
      · refine have h := iteT hc h; tK <| tS <| ATodo.block <| tSR <| rM rfl rfl <| rA rfl rfl <| rN <| tS <| ATodo.regionM (id := 6) (A := [0, 0, 3, 7, 0, 0, 48, 112, 255]) 9 mixed rfl (by kernel_rfl) (by kernel_rfl) <| AM.qv (q_move rfl) rfl <| AM.qv (q_move rfl) rfl <| bndE h fun v3 e1 h => AM.qv (t_index rfl rfl rfl e1 rfl rfl) rfl <| AM.qv (q_load_rptr_agg rfl rfl rfl) rfl <| AM.qv (q_move rfl) rfl <| AM.qv (q_move rfl) rfl <| bndE h fun v4 e2 h => AM.qv (t_index rfl rfl rfl e2 rfl rfl) rfl <| AM.qv (q_load_rptr_agg rfl rfl rfl) rfl <| AM.qv (t_tne (g := MarkS.av) (X := v3) (Y := v4) rfl rfl rfl rfl rfl) rfl <| AM.nil <| rN <| ATodo.cond_d rfl (fun hc => ?_) (fun hc => ?_)
        · refine have h := iteT hc h; tSR <| rA rfl rfl <| rN <| ATodo.ret <| have h := outL h hA1; ?_
          obtain rfl := Option.some.inj h
          exact ImpX.here ⟨_, .cons (.tmp _ _ rfl) .nil, rfl⟩
        · refine have h := iteF hc h; tK <| ATodo.blk <| tR <| ARun.qv (q_addw rfl rfl) rfl <| rM rfl rfl <| rN <| ATodo.stop <| ?_
          obtain rfl := Option.some.inj h
          exact hJ1 _ _ rfl <| ImpX.lq [] rfl rfl rfl
      · refine have h := iteF hc h; ATodo.exit rfl <| have h := outL h hA1; tSR <| rA rfl rfl <| rN <| ATodo.ret <| ?_
        obtain rfl := Option.some.inj h
        exact ImpX.here ⟨_, .cons (.tmp _ _ rfl) .nil, rfl⟩

set_option maxHeartbeats 4000000 in
theorem base_Number_c {p0x0 : Str} {p1x0 : Int} {r : Int × Bool} (h : base_Number p0x0 p1x0 = some r) : Pu Tryz.prog 159 [.str p0x0, I p1x0] (.tup [I r.1, .bool r.2]) := by
  unfold base_Number at h
  refine ACall.bodyN Tryz.func159 rfl Tryz.ntmps159 Tryz.results159 rfl rfl ?_
  refine tSR <| rA rfl rfl <| rA rfl rfl <| rN <| tSR <| rM rfl rfl <| r_callp rfl (strings_TrimPrefix_c rfl) (CoL.refl _) rfl <| rA rfl rfl <| rN <| tS <| tS <| ATodo.cut (fun σ' => ∃ (c1 : Bool), base_Number_j1 p0x0 c1 = some r ∧ σ' = ⟨61, [(0, .str p0x0), (6, .str (Lib.trimPrefix p0x0 ([45] : Str))), (36, .bool c1)], []⟩) ?_ ?_
  · refine tR <| rM rfl rfl <| ARun.qv (q_seq rfl rfl) rfl <| rM rfl rfl <| ARun.guard_df rfl rfl rfl (fun hc => ?_) (fun hc => ?_)
    · refine have h := iteF hc h; rM rfl rfl <| rY rfl rfl rfl <| ARun.qv (q_len_str rfl) rfl <| rY rfl rfl rfl <| rM rfl rfl <| rY rfl rfl rfl <| ARun.qv (q_gtr rfl rfl) rfl <| rE rfl rfl rfl <| rM rfl rfl <| ARun.guard_df rfl rfl rfl (fun hc => ?_) (fun hc => ?_)
      · refine have h := iteF hc h; rM rfl rfl <| rY rfl rfl rfl <| bndE h fun c2 e1 h => ARun.qv (t_index_str rfl rfl e1) rfl <| rY rfl rfl rfl <| ARun.qv (q_eql rfl rfl) rfl <| rY rfl rfl rfl <| rM rfl rfl <| ARun.guard_dt rfl rfl rfl (fun hc => ?_) (fun hc => ?_)
        · rw [andTd hc] at h
          refine rM rfl rfl <| rY rfl rfl rfl <| ARun.qv (q_len_str rfl) rfl <| rY rfl rfl rfl <| ARun.qv (q_gtr rfl rfl) rfl <| rY rfl rfl rfl <| rM rfl rfl <| ARun.guard_df rfl rfl rfl (fun hc => ?_) (fun hc => ?_)
          · rw [orFd hc] at h
            exact rM rfl rfl <| rY rfl rfl rfl <| ARun.qv (q_len_str rfl) rfl <| rY rfl rfl rfl <| rM rfl rfl <| rY rfl rfl rfl <| ARun.qv (q_len_str rfl) rfl <| rY rfl rfl rfl <| ARun.qv (q_gtr rfl rfl) rfl <| rY rfl rfl rfl <| rE rfl rfl rfl <| rY rfl rfl rfl <| rT rfl rfl rfl <| rE rfl rfl rfl <| rN <| ATodo.stop <| ImpX.lq [] ⟨decide (((Lib.trimPrefix p0x0 ([45] : Str)).length : Int) < (p0x0.length : Int)), h, rfl⟩ rfl rfl
          · rw [orTd hc] at h
            exact rG rfl rfl rfl rfl <| rG rfl rfl rfl rfl <| rG rfl rfl rfl rfl <| rG rfl rfl rfl rfl <| rY rfl rfl rfl <| rT rfl rfl rfl <| rY rfl rfl rfl <| rT rfl rfl rfl <| rE rfl rfl rfl <| rN <| ATodo.stop <| ImpX.lq [] ⟨true, h, rfl⟩ rfl rfl
        · rw [andFd hc] at h
          exact rG rfl rfl rfl rfl <| rG rfl rfl rfl rfl <| rG rfl rfl rfl rfl <| ARun.guard_und rfl rfl rfl <| ARun.guard_und rfl rfl rfl <| ARun.guard_und rfl rfl rfl <| ARun.guard_und rfl rfl rfl <| ARun.guard_und rfl rfl rfl <| rG rfl rfl rfl rfl <| rY rfl rfl rfl <| rE rfl rfl rfl <| rE rfl rfl rfl <| rN <| ATodo.stop <| ImpX.lq [] ⟨false, h, rfl⟩ rfl rfl
      · exact have h := iteT hc h; rG rfl rfl rfl rfl <| rG rfl rfl rfl rfl <| rG rfl rfl rfl rfl <| ARun.guard_und rfl rfl rfl <| ARun.guard_und rfl rfl rfl <| ARun.guard_und rfl rfl rfl <| ARun.guard_und rfl rfl rfl <| ARun.guard_und rfl rfl rfl <| ARun.guard_und rfl rfl rfl <| ARun.guard_und rfl rfl rfl <| ARun.guard_und rfl rfl rfl <| ARun.guard_und rfl rfl rfl <| ARun.guard_und rfl rfl rfl <| rG rfl rfl rfl rfl <| rT rfl rfl rfl <| rN <| ATodo.stop <| ImpX.lq [] ⟨true, h, rfl⟩ rfl rfl
    · exact have h := iteT hc h; rG rfl rfl rfl rfl <| rG rfl rfl rfl rfl <| rG rfl rfl rfl rfl <| rT rfl rfl rfl <| rM rfl rfl <| rG rfl rfl rfl rfl <| rG rfl rfl rfl rfl <| rG rfl rfl rfl rfl <| rG rfl rfl rfl rfl <| ARun.guard_und rfl rfl rfl <| ARun.guard_und rfl rfl rfl <| ARun.guard_und rfl rfl rfl <| ARun.guard_und rfl rfl rfl <| ARun.guard_und rfl rfl rfl <| ARun.guard_und rfl rfl rfl <| ARun.guard_und rfl rfl rfl <| ARun.guard_und rfl rfl rfl <| ARun.guard_und rfl rfl rfl <| ARun.guard_und rfl rfl rfl <| rG rfl rfl rfl rfl <| rT rfl rfl rfl <| rN <| ATodo.stop <| ImpX.lq [] ⟨true, h, rfl⟩ rfl rfl
  · rintro σ' ⟨c1, h, rfl⟩
    unfold base_Number_j1 at h
    refine ATodo.cond rfl (fun hc => ?_) (fun hc => ?_)
    · refine have h := iteT hc h; tSR <| rA rfl rfl <| rA rfl rfl <| rN <| ATodo.ret <| ?_
      obtain rfl := Option.some.inj h
      exact ImpX.here ⟨_, .cons (.tmp _ _ rfl) (.cons (.tmp _ _ rfl) .nil), rfl⟩
    · refine have h := iteFb hc h; tK <| tS <| tSR <| rM rfl rfl <| ARun.qv (q_len_str rfl) rfl <| rM rfl rfl <| rN <| ATodo.block <| ATodo.loopI (fun x : Int => base_Number_b1 p0x0 x) (fun x σ' => σ' = ⟨61, [(0, .str p0x0), (6, .str (Lib.trimPrefix p0x0 ([45] : Str))), (38, I ((Lib.trimPrefix p0x0 ([45] : Str)).length : Int)), (39, I x)], []⟩) h ?_ ?_
      · exact ImpX.lq [] rfl rfl rfl
      · intro n4 z1 σ' J1 hmk h hJ1 hA1
        obtain rfl := hmk
        replace h : base_Number_b1 p0x0 n4 = some z1 := h
        unfold base_Number_b1 at h
        refine tSR <| ARun.qv (q_lss rfl rfl) rfl <| rN <| tS <| ATodo.cond_d rfl (fun hc => ?_) (fun hc => ?_)
        · refine have h := iteT hc h; tK <| tS <| ATodo.block <| tSR <| rM rfl rfl <| rA rfl rfl <| rN <| tS <| ATodo.cut (fun σ' => ∃ (c5 : Bool), base_Number_j2 n4 c5 = some z1 ∧ σ' = ⟨61, [(0, .str p0x0), (6, .str (Lib.trimPrefix p0x0 ([45] : Str))), (38, I ((Lib.trimPrefix p0x0 ([45] : Str)).length : Int)), (39, I n4), (51, .bool c5)], []⟩) ?_ ?_
          · refine tR <| rM rfl rfl <| rM rfl rfl <| bndE h fun c6 e2 h => ARun.qv (t_index_str rfl rfl e2) rfl <| ARun.qv (q_lss rfl rfl) rfl <| rM rfl rfl <| ARun.guard_df rfl rfl rfl (fun hc => ?_) (fun hc => ?_)
            · exact have h := iteF hc h; rM rfl rfl <| rY rfl rfl rfl <| rM rfl rfl <| rY rfl rfl rfl <| bndE h fun c7 e3 h => ARun.qv (t_index_str rfl rfl e3) rfl <| rY rfl rfl rfl <| ARun.qv (q_gtr rfl rfl) rfl <| rE rfl rfl rfl <| rN <| ATodo.stop <| ImpX.lq [] ⟨decide ((57 : Int) < (c7.toNat : Int)), h, rfl⟩ rfl rfl
            · exact have h := iteT hc h; rG rfl rfl rfl rfl <| rG rfl rfl rfl rfl <| rG rfl rfl rfl rfl <| rT rfl rfl rfl <| rN <| ATodo.stop <| ImpX.lq [] ⟨true, h, rfl⟩ rfl rfl
          · rintro σ' ⟨c5, h, rfl⟩
            unfold base_Number_j2 at h
            refine ATodo.cond rfl (fun hc => ?_) (fun hc => ?_)
            · refine have h := iteT hc h; tSR <| rA rfl rfl <| rA rfl rfl <| rN <| ATodo.ret <| have h := outL h hA1; ?_
              obtain rfl := Option.some.inj h
              exact ImpX.here ⟨_, .cons (.tmp _ _ rfl) (.cons (.tmp _ _ rfl) .nil), rfl⟩
            · refine have h := iteFb hc h; tK <| ATodo.blk <| tR <| ARun.qv (q_addw rfl rfl) rfl <| rM rfl rfl <| rN <| ATodo.stop <| ?_
              obtain rfl := Option.some.inj h
              exact hJ1 _ _ rfl <| ImpX.lq [] rfl rfl rfl
        · refine have h := iteF hc h; ATodo.exit rfl <| have h := outL h hA1; ?_
          unfold base_Number_k3 at h
          refine tSR <| rM rfl rfl <| bndE h fun v8 e4 h => t_callE rfl (strconv_Atoi_c e4) (CoL.refl _) rfl fun e9 e5 => rM rfl rfl <| rX rfl rfl rfl <| rX rfl rfl rfl <| rA rfl rfl <| rA rfl rfl <| rN <| tS <| ATodo.regionM (id := 11) (A := [0, 0, 2, 1, 15]) 5 mixed rfl (by kernel_rfl) (by kernel_rfl) <| AM.qv (q_move rfl) rfl <| AM.qv (q_move rfl) rfl <| AM.qv (q_eqE e5 rfl) rfl <| AM.qv (q_assign rfl) rfl <| AM.qv (q_assign rfl) rfl <| AM.nil <| rN <| ATodo.ret <| ?_
          obtain rfl := Option.some.inj h
          exact ImpX.here ⟨_, .cons (.tmp _ _ rfl) (.cons (.tmp _ _ rfl) .nil), rfl⟩

set_option maxHeartbeats 4000000 in
theorem base_Numbers_c {p0x0 : List Str} {p1x0 : Int} {r : (List Int) × Bool} (h : base_Numbers p0x0 p1x0 = some r) : ACall Tryz.prog 115 [.list 1 (p0x0.map AV.str), I p1x0] [] (T1 (fun d_0 => [(d_0, .arr 1 (r.1.map I))]) (fun d_0 => .tup [.sl 1 d_0 0 r.1.length, .bool r.2])) := by
  unfold base_Numbers at h
  refine ACall.lessH ?_
  refine ACall.bodyN Tryz.func115 rfl Tryz.ntmps115 Tryz.results115 rfl rfl ?_
  refine tSR <| rA rfl rfl <| rA rfl rfl <| rN <| tSR <| rA rfl rfl <| rN <| tS <| tSR <| rM rfl rfl <| ARun.qv (t_len rfl) rfl <| rM rfl rfl <| rN <| ATodo.block <| ATodo.loopI (fun x : (List Int) × Int => base_Numbers_b1 p0x0 p1x0 x.1 x.2) (fun x σ' => ∃ (b4 : Bk), σ' = ⟨31, [(1, I p1x0), (6, .sl 1 b4 0 x.1.length), (11, .list 1 (p0x0.map AV.str)), (12, I (p0x0.length : Int)), (13, I x.2)], [(b4, .arr 1 (x.1.map I))]⟩) h ?_ ?_
  · exact ImpX.arr (s := 6) 1 rfl fun b7 => ImpX.lq [0] ⟨b7, rfl⟩ rfl rfl
  · intro x z1 σ' J1 hmk h hJ1 hA1
    obtain ⟨l5, n6⟩ := x
    obtain ⟨b4, rfl⟩ := hmk
    replace h : base_Numbers_b1 p0x0 p1x0 l5 n6 = some z1 := h
    unfold base_Numbers_b1 at h
    refine tSR <| ARun.qv (q_lss rfl rfl) rfl <| rN <| tS <| ATodo.cond_d rfl (fun hc => ?_) (fun hc => ?_)
    · refine have h := iteT hc h; tK <| tS <| ATodo.block <| tSR <| bndE h fun v8 e1 h => ARun.qv (t_index rfl rfl rfl e1 rfl rfl) rfl <| ARun.qv (q_load_rptr rfl rfl rfl) rfl <| rA rfl rfl <| rN <| tSR <| rM rfl rfl <| rM rfl rfl <| bndE h fun v9 e2 h => r_callp rfl (base_Number_c e2) (CoL.refl _) rfl <| rM rfl rfl <| rX rfl rfl rfl <| rX rfl rfl rfl <| rA rfl rfl <| rA rfl rfl <| rN <| tS <| tSR <| rM rfl rfl <| ARun.qv (q_not rfl) rfl <| rN <| ATodo.cond rfl (fun hc => ?_) (fun hc => ?_)
      · refine have h := iteT hc h; tSR <| rA rfl rfl <| rA rfl rfl <| rN <| ATodo.ret <| have h := outL h hA1; ?_
        obtain rfl := Option.some.inj h
        exact ImpX.arr (s := 4) 1 rfl fun b10 => ImpX.here ⟨_, .cons (.tmp _ _ rfl) (.cons (.tmp _ _ rfl) .nil), _, .cons .p0 .nil, ⟨b10, rfl, rfl⟩⟩
      · refine have h := iteFb hc h; tK <| tR <| rM rfl rfl <| rM rfl rfl <| n_buildSliceL (xs := ([v9.1] : List Int).map I) rfl rfl rfl rfl rfl rfl <| bndE h fun l11 e3 h => t_append (g := I) rfl rfl rfl rfl rfl rfl rfl rfl (.list _) e3 (fun _ => .p0) rfl fun b12 => rA rfl rfl <| rN <| ATodo.blk <| tR <| ARun.qv (q_addw rfl rfl) rfl <| rM rfl rfl <| rN <| ATodo.stop <| ?_
        obtain rfl := Option.some.inj h
        exact hJ1 _ _ rfl <| ImpX.lq [0] ⟨b12, rfl⟩ rfl rfl
    · refine have h := iteF hc h; ATodo.exit rfl <| have h := outL h hA1; tSR <| rM rfl rfl <| rA rfl rfl <| rA rfl rfl <| rN <| ATodo.ret <| ?_
      obtain rfl := Option.some.inj h
      exact ImpX.here ⟨_, .cons (.tmp _ _ rfl) (.cons (.tmp _ _ rfl) .nil), _, .cons .p0 .nil, ⟨b4, rfl, rfl⟩⟩

set_option maxHeartbeats 4000000 in
theorem campaign_ParseVersion_c {p0x0 : Str} {r : Version × Int} (h : campaign_ParseVersion p0x0 = some r) : Pu Tryz.prog 71 [.str p0x0] (.tup [.agg [I r.1.Major, I r.1.Minor, I r.1.Patch], I r.2]) := by
  unfold campaign_ParseVersion at h
  refine ACall.bodyN Tryz.func71 rfl Tryz.ntmps71 Tryz.results71 rfl rfl ?_
  refine tSR <| n_alloc rfl rfl rfl rfl fun b1 => rA rfl rfl <| rN <| tSR <| rM rfl rfl <| bndE h fun v2 e1 h => t_call1 rfl (strings_Split_c e1) (CoL.refl _) .nil (fun _ => rfl) rfl fun b3 => bndE h fun v4 e2 h => t_callL1 rfl (base_Numbers_c e2) .nil (.cons (CoB.arrT .p0) (.cons (.co (.refl _)) .nil)) (fun _ => rfl) (fun _ => rfl) (fun _ => (.cons (NoS.arrT (fun _ => rfl)) .nil)) rfl fun b5 => rM rfl rfl <| rX rfl rfl rfl <| rX rfl rfl rfl <| rA rfl rfl <| rA rfl rfl <| rN <| tS <| tS <| ATodo.cut (fun σ' => ∃ (c6 : Bool), campaign_ParseVersion_j1 v4 c6 = some r ∧ σ' = ⟨36, [(2, .ptr b1 0), (4, .sl 1 b5 0 v4.1.length), (19, .bool c6)], [(b1, .cells [I (0 : Int), I (0 : Int), I (0 : Int)]), (b5, .arr 1 (v4.1.map I))]⟩) ?_ ?_
  · refine tR <| rM rfl rfl <| ARun.qv (q_not rfl) rfl <| rM rfl rfl <| ARun.guard rfl rfl rfl (fun hc => ?_) (fun hc => ?_)
    · rw [orFb hc] at h
      exact rM rfl rfl <| rY rfl rfl rfl <| ARun.qv (t_len_sl rfl) rfl <| rY rfl rfl rfl <| ARun.qv (q_neq rfl rfl) rfl <| rE rfl rfl rfl <| rN <| ATodo.stop <| ImpX.lq [2, 0] ⟨decide ((v4.1.length : Int) ≠ (3 : Int)), h, rfl⟩ rfl rfl
    · rw [orTb hc] at h
      exact rG rfl rfl rfl rfl <| rG rfl rfl rfl rfl <| rT rfl rfl rfl <| rN <| ATodo.stop <| ImpX.lq [2, 0] ⟨true, h, rfl⟩ rfl rfl
  · rintro σ' ⟨c6, h, rfl⟩
    unfold campaign_ParseVersion_j1 at h
    refine ATodo.cond rfl (fun hc => ?_) (fun hc => ?_)
    · refine have h := iteT hc h; tSR <| ARun.qv (n_build rfl rfl rfl rfl rfl) rfl <| n_store_ptr rfl rfl rfl rfl .p0 rfl rfl <| rA rfl rfl <| rN <| ATodo.ret <| ?_
      obtain rfl := Option.some.inj h
      exact ImpX.here ⟨_, .cons (.all _ _ _ _ _ _ rfl .p0 TUnder.h TInfo.h rfl rfl) (.cons (.tmp _ _ rfl) .nil), rfl⟩
    · refine have h := iteFb hc h; tK <| tS <| bndE h fun v7 e3 h => bndE h fun v8 e4 h => bndE h fun v9 e5 h => ATodo.regionT (id := 4) (A := [0, 1, 3, 0, 8, 24, 0, 64, 192, 511, 0, 2047]) (H0 := []) (HH := fun β => [((β 10), .cells [I (0 : Int), I (0 : Int), I (0 : Int)]), (b1, .cells [I (0 : Int), I (0 : Int), I (0 : Int)]), (b5, .arr 1 (v4.1.map I))]) 11 mixed rfl (by kernel_rfl) (by kernel_rfl) [⟨some 10, none, [], fun b => (b, .cells [I (0 : Int), I (0 : Int), I (0 : Int)]), none⟩] [10] rfl (by kernel_rfl) rfl .nil (fun _ => rfl) <| AT.am 10 rfl rfl <| AM.qv (q_move rfl) rfl <| AM.qv (t_index_sl rfl rfl rfl e3) rfl <| AM.qv (t_load_aptr (g := I) rfl rfl (.inl .p1) e3 rfl) rfl <| AM.qv (q_move rfl) rfl <| AM.qv (t_index_sl rfl rfl rfl e4) rfl <| AM.qv (t_load_aptr (g := I) rfl rfl (.inl .p1) e4 rfl) rfl <| AM.qv (q_move rfl) rfl <| AM.qv (t_index_sl rfl rfl rfl e5) rfl <| AM.qv (t_load_aptr (g := I) rfl rfl (.inl .p1) e5 rfl) rfl <| AM.qv (n_build rfl rfl rfl rfl rfl) rfl <| AM.nil <| AT.runD (V := fun b => .ptr b 0) (Ti := []) (Pi := fun b => [(b, .cells [I (0 : Int), I (0 : Int), I (0 : Int)])]) (fun _ => rfl) (fun _ => rfl) (fun _ _ => rfl) rfl (fun _ => rfl) rfl rfl rfl ?_ ?_
      · exact n_alloc rfl rfl rfl rfl fun b10 => ARun.nil ⟨b10, _, rfl, rfl⟩
      refine AT.nilN (fun _ => rfl) fun β => ?_
      generalize β 10 = b10
      clear β
      refine n_store_ptr rfl rfl rfl rfl .p0 rfl rfl <| rN <| tS <| tSR <| ARun.qv (q_load_ptr_all rfl rfl .p0 rfl) rfl <| r_callp rfl (base_Version_c (rfl : base_Version (⟨v7, v8, v9⟩ : Version) = _)) (CoL.refl _) rfl <| ARun.qv (q_not rfl) rfl <| rN <| ATodo.cond rfl (fun hc => ?_) (fun hc => ?_)
      · refine have h := iteT hc h; tSR <| ARun.qv (n_build rfl rfl rfl rfl rfl) rfl <| n_store_ptr rfl rfl rfl rfl .p1 rfl rfl <| rA rfl rfl <| rN <| ATodo.ret <| ?_
        obtain rfl := Option.some.inj h
        exact ImpX.here ⟨_, .cons (.all _ _ _ _ _ _ rfl .p1 TUnder.h TInfo.h rfl rfl) (.cons (.tmp _ _ rfl) .nil), rfl⟩
      · refine have h := iteFb hc h; tK <| tSR <| ARun.qv (q_load_ptr_all rfl rfl .p0 rfl) rfl <| n_store_ptr rfl rfl rfl rfl .p1 rfl rfl <| rA rfl rfl <| rN <| ATodo.ret <| ?_
        obtain rfl := Option.some.inj h
        exact ImpX.here ⟨_, .cons (.all _ _ _ _ _ _ rfl .p1 TUnder.h TInfo.h rfl rfl) (.cons (.tmp _ _ rfl) .nil), rfl⟩

set_option maxHeartbeats 4000000 in
theorem L_versioned_c {r : Bool} (h : L_versioned = some r) : Pu Tryz.prog 28 [] (.bool r) := by
  unfold L_versioned at h
  refine ACall.bodyN Tryz.func28 rfl Tryz.ntmps28 Tryz.results28 rfl rfl ?_
  refine tSR <| rA rfl rfl <| rN <| tSR <| bndE h fun v1 e1 h => r_callp rfl (campaign_ParseVersion_c e1) (CoL.refl _) rfl <| rM rfl rfl <| rX rfl rfl rfl <| rX rfl rfl rfl <| n_alloc rfl rfl rfl rfl fun b2 => n_store_ptr rfl rfl rfl rfl .p0 rfl rfl <| rA rfl rfl <| rN <| tS <| ATodo.cut (fun σ' => ∃ (c3 : Bool), L_versioned_j1 c3 = some r ∧ σ' = ⟨14, [(0, .bool c3)], []⟩) ?_ ?_
  · refine tR <| rM rfl rfl <| ARun.qv (q_eql rfl rfl) rfl <| rM rfl rfl <| ARun.guard_dt rfl rfl rfl (fun hc => ?_) (fun hc => ?_)
    · rw [andTd hc] at h
      exact ARun.qv (q_load_ptr_all rfl rfl .p0 rfl) rfl <| rY rfl rfl rfl <| ARun.qv (n_build rfl rfl rfl rfl rfl) rfl <| rY rfl rfl rfl <| ARun.qv (t_teq (g := Version.av) (X := v1.1) (Y := (⟨(1 : Int), (2 : Int), (3 : Int)⟩ : Version)) rfl rfl rfl rfl rfl) rfl <| rT rfl rfl rfl <| rA rfl rfl <| rN <| ATodo.stop <| ImpX.lq [] ⟨decide (v1.1 = (⟨(1 : Int), (2 : Int), (3 : Int)⟩ : Version)), h, rfl⟩ rfl rfl
    · rw [andFd hc] at h
      exact rG rfl rfl rfl rfl <| rG rfl rfl rfl rfl <| rE rfl rfl rfl <| rA rfl rfl <| rN <| ATodo.stop <| ImpX.lq [] ⟨false, h, rfl⟩ rfl rfl
  · rintro σ' ⟨c3, h, rfl⟩
    unfold L_versioned_j1 at h
    refine ATodo.ret <| ?_
    obtain rfl := Option.some.inj h
    exact ImpX.here ⟨_, .cons (.tmp _ _ rfl) .nil, rfl⟩

set_option maxHeartbeats 4000000 in
theorem L_CampaignsCheck_c {p0x0 : List Int} {r : Bool} (h : L_CampaignsCheck p0x0 = some r) : Pu Tryz.prog 3 [.list 1 (p0x0.map I)] (.bool r) := by
  unfold L_CampaignsCheck at h
  refine ACall.bodyN Tryz.func3 rfl Tryz.ntmps3 Tryz.results3 rfl rfl ?_
  refine tSR <| rA rfl rfl <| rN <| tSR <| rM rfl rfl <| ARun.qv (n_build rfl rfl rfl rfl rfl) rfl <| n_box rfl rfl rfl rfl fun b1 => rA rfl rfl <| rN <| tSR <| rM rfl rfl <| bndE h fun v2 e1 h => t_call0 rfl (Stream_Campaign_c e1) (CoL.refl _) (.cons .p0 .nil) rfl rfl <| rM rfl rfl <| bndE h fun v3 e2 h => t_call1 rfl (Stream_Fleet_c e2) (CoL.refl _) (.cons .p0 .nil) (fun _ => rfl) rfl fun b4 => rM rfl rfl <| n_buildSliceL (xs := ([([100, 49] : Str), ([100, 50] : Str), ([100, 51] : Str), ([120, 57] : Str), ([] : Str), ([65] : Str)]).map AV.str) rfl rfl rfl rfl rfl rfl <| bndE h fun v5 e3 h => t_call0 rfl (Stream_Some_c e3) (CoL.refl _) (.cons .p0 .nil) rfl rfl <| n_alloc rfl rfl rfl rfl fun b6 => n_store_ptr rfl rfl rfl rfl .p0 rfl rfl <| rA rfl rfl <| rA rfl rfl <| rN <| tS <| bndE h fun v7 e4 h => ATodo.regionT (id := 3) (A := [0, 0, 0, 0, 8, 31, 63]) (H0 := [(b1, .cells [.list 1 (v5.2.L.map I), I v5.2.at_])]) (HH := fun β => [(b1, .cells [.list 1 (v7.2.L.map I), I v7.2.at_]), (b6, .cells [.str v2.1.Key, I v2.1.Target.Major, I v2.1.Target.Minor, I v2.1.Target.Patch, I v2.1.At, .list 4 (v2.1.Waves.map Wave.av), I v2.1.Hours.From, I v2.1.Hours.To, I v2.1.Room]), (b4, .arr 7 (v3.1.map DeviceS.av))]) 5 mixed rfl (by kernel_rfl) (by kernel_rfl) [⟨none, some 4, [], fun _ => (b1, .cells [.list 1 (v5.2.L.map I), I v5.2.at_]), none⟩, ⟨some 4, none, [], fun _ => (b1, .cells [.list 1 (v7.2.L.map I), I v7.2.at_]), none⟩] [] rfl (by kernel_rfl) rfl (.cons .p1 .nil) (fun _ => rfl) <| AT.am 4 rfl rfl <| AM.qv (q_move rfl) rfl <| AM.qv (q_load_ptr_all rfl rfl .p0 rfl) rfl <| AM.qv (q_move rfl) rfl <| AM.qv (q_move rfl) rfl <| AM.nil <| AT.runS (av := I v7.1) (Ti := [(b1, .cells [.list 1 (v5.2.L.map I), I v5.2.at_])]) (Pi := [(b1, .cells [.list 1 (v7.2.L.map I), I v7.2.at_])]) (fun _ => rfl) (fun _ => rfl) (fun _ => rfl) rfl rfl rfl ?_ ?_
  · exact t_call0 rfl (Stream_Range_c e4) (CoL.refl _) (.cons .p0 .nil) rfl rfl <| ARun.nil ⟨_, rfl, rfl⟩
  refine AT.nilN (fun _ => rfl) fun β => bndE h fun v8 e5 h => ARun.ghost <| ImpX.freeze .p2 <| ImpX.here <| t_call1 rfl (Stream_Marks_c e5) (.cons (.refl _) (.cons (.refl _) (.cons (Co.froT .p2) (.cons (.refl _) .nil)))) (.cons .p0 .nil) (fun _ => rfl) rfl fun b9 => rA rfl rfl <| rN <| tS <| bndE h fun v10 e6 h => ATodo.regionT (id := 4) (A := [0, 0, 0, 0, 8, 31, 63]) (H0 := [(b1, .cells [.list 1 (v8.2.L.map I), I v8.2.at_])]) (HH := fun β => [(b1, .cells [.list 1 (v10.2.L.map I), I v10.2.at_]), (b9, .arr 6 (v8.1.map MarkS.av)), (b6, .cells [.str v2.1.Key, I v2.1.Target.Major, I v2.1.Target.Minor, I v2.1.Target.Patch, I v2.1.At, .list 4 (v2.1.Waves.map Wave.av), I v2.1.Hours.From, I v2.1.Hours.To, I v2.1.Room]), (b4, .fro 7 (v3.1.map DeviceS.av))]) 5 mixed rfl (by kernel_rfl) (by kernel_rfl) [⟨none, some 4, [], fun _ => (b1, .cells [.list 1 (v8.2.L.map I), I v8.2.at_]), none⟩, ⟨some 4, none, [], fun _ => (b1, .cells [.list 1 (v10.2.L.map I), I v10.2.at_]), none⟩] [] rfl (by kernel_rfl) rfl (.cons .p0 .nil) (fun _ => rfl) <| AT.am 4 rfl rfl <| AM.qv (q_move rfl) rfl <| AM.qv (q_load_ptr_all rfl rfl .p1 rfl) rfl <| AM.qv (q_move rfl) rfl <| AM.qv (q_move rfl) rfl <| AM.nil <| AT.runS (av := I v10.1) (Ti := [(b1, .cells [.list 1 (v8.2.L.map I), I v8.2.at_])]) (Pi := [(b1, .cells [.list 1 (v10.2.L.map I), I v10.2.at_])]) (fun _ => rfl) (fun _ => rfl) (fun _ => rfl) rfl rfl rfl ?_ ?_
  · exact t_call0 rfl (Stream_Range_c e6) (CoL.refl _) (.cons .p0 .nil) rfl rfl <| ARun.nil ⟨_, rfl, rfl⟩
  refine AT.nilN (fun _ => rfl) fun β => bndE h fun v11 e7 h => t_call1 rfl (Stream_Marks_c e7) (.cons (.refl _) (.cons (.refl _) (.cons (Co.froT .p3) (.cons (.refl _) .nil)))) (.cons .p0 .nil) (fun _ => rfl) rfl fun b12 => rA rfl rfl <| rN <| tS <| tS <| ATodo.cut (fun σ' => ∃ (l13 : List Int) (n14 : Int) (c15 : Bool), L_CampaignsCheck_j1 v2 v3 v5 v8 v11 l13 n14 c15 = some r ∧ σ' = ⟨132, [(3, .ptr b1 0), (4, .ptr b6 0), (5, .sl 7 b4 0 v3.1.length), (6, .str v5.1), (7, .sl 6 b9 0 v8.1.length), (8, .sl 6 b12 0 v11.1.length), (45, .bool c15)], [(b1, .cells [.list 1 (l13.map I), I n14]), (b6, .cells [.str v2.1.Key, I v2.1.Target.Major, I v2.1.Target.Minor, I v2.1.Target.Patch, I v2.1.At, .list 4 (v2.1.Waves.map Wave.av), I v2.1.Hours.From, I v2.1.Hours.To, I v2.1.Room]), (b4, .fro 7 (v3.1.map DeviceS.av)), (b9, .arr 6 (v8.1.map MarkS.av)), (b12, .arr 6 (v11.1.map MarkS.av))]⟩) ?_ ?_
  · refine tR <| rM rfl rfl <| ARun.qv (t_len_sl rfl) rfl <| ARun.qv (q_gtr rfl rfl) rfl <| rM rfl rfl <| ARun.guard_dt rfl rfl rfl (fun hc => ?_) (fun hc => ?_)
    · exact have h := iteT hc h; rM rfl rfl <| rY rfl rfl rfl <| bndE h fun v16 e8 h => t_call0 rfl (Stream_Flip_c e8) (CoL.refl _) (.cons .p0 .nil) rfl rfl <| rT rfl rfl rfl <| rN <| ATodo.stop <| ImpX.lq [0, 2, 2, 1, 0] ⟨v16.2.L, v16.2.at_, v16.1, h, rfl⟩ rfl rfl
    · exact have h := iteF hc h; rG rfl rfl rfl rfl <| rE rfl rfl rfl <| rN <| ATodo.stop <| ImpX.lq [0, 2, 2, 1, 0] ⟨v11.2.L, v11.2.at_, false, h, rfl⟩ rfl rfl
  · rintro σ' ⟨l13, n14, c15, h, rfl⟩
    unfold L_CampaignsCheck_j1 at h
    refine ATodo.cut (fun σ' => ∃ (b17 : Bk) (l18 : List MarkS), L_CampaignsCheck_j2 v2 v3 v5 v8 l18 = some r ∧ σ' = ⟨132, [(4, .ptr b6 0), (5, .sl 7 b4 0 v3.1.length), (6, .str v5.1), (7, .sl 6 b9 0 v8.1.length), (8, .sl 6 b17 0 l18.length)], [(b6, .cells [.str v2.1.Key, I v2.1.Target.Major, I v2.1.Target.Minor, I v2.1.Target.Patch, I v2.1.At, .list 4 (v2.1.Waves.map Wave.av), I v2.1.Hours.From, I v2.1.Hours.To, I v2.1.Room]), (b4, .fro 7 (v3.1.map DeviceS.av)), (b9, .arr 6 (v8.1.map MarkS.av)), (b17, .arr 6 (l18.map MarkS.av))]⟩) ?_ ?_
    · refine ATodo.cond rfl (fun hc => ?_) (fun hc => ?_)
      · exact have h := iteT hc h; tR <| rM rfl rfl <| rM rfl rfl <| rM rfl rfl <| ARun.qv (t_len_sl rfl) rfl <| bndE h fun v19 e9 h => t_call0 rfl (Stream_Next_c e9) (CoL.refl _) (.cons .p0 .nil) rfl rfl <| bndE h fun l20 e10 h => ARun.qv (t_slice_sl rfl rfl (.some _ _ _ rfl) .none rfl rfl e10) rfl <| bndE h fun v21 e11 h => t_callL1 rfl (slices_Clone_Mark_Mark_c e11) .nil (.cons (CoB.partT e10 .p3) .nil) (fun _ => rfl) (fun _ => rfl) (fun _ => (.cons (NoS.arrT (fun _ => rfl)) .nil)) rfl fun b22 => rA rfl rfl <| rN <| ATodo.stop <| ImpX.lq [2, 2, 2, 0] ⟨b22, v21, h, rfl⟩ rfl rfl
      · exact have h := iteFb hc h; tK <| ATodo.stop <| ImpX.lq [1, 1, 1, 1] ⟨b12, v11.1, h, rfl⟩ rfl rfl
    · rintro σ' ⟨b17, l18, h, rfl⟩
      unfold L_CampaignsCheck_j2 at h
      refine tSR <| ARun.qv (q_load_ptr_all rfl rfl .p0 rfl) rfl <| rM rfl rfl <| bndE h fun v23 e12 h => r_callp rfl (campaign_Wave_c e12) (CoL.refl _) rfl <| rM rfl rfl <| rX rfl rfl rfl <| rX rfl rfl rfl <| rA rfl rfl <| rA rfl rfl <| rN <| tSR <| rM rfl rfl <| rM rfl rfl <| bndE h fun v24 e13 h => t_callL1 rfl (campaign_Merge_c e13) .nil (.cons (CoB.arrT .p2) (.cons (CoB.arrT .p3) .nil)) (fun _ => rfl) (fun _ => rfl) (fun _ => (.cons (NoS.arrT (fun _ => rfl)) .nil)) rfl fun b25 => rM rfl rfl <| rX rfl rfl rfl <| rX rfl rfl rfl <| rA rfl rfl <| rA rfl rfl <| rN <| tSR <| ARun.qv (q_load_ptr_all rfl rfl .p1 rfl) rfl <| bndE h fun v26 e14 h => r_callp rfl (Q_CampaignFault_c e14) (CoL.refl _) rfl <| rA rfl rfl <| rN <| tS <| tS <| ATodo.cut (fun σ' => ∃ (c27 : Bool), L_CampaignsCheck_j3 v2 v5 v8 l18 v23 v24 v26 c27 = some r ∧ σ' = ⟨132, [(4, .ptr b6 0), (6, .str v5.1), (7, .sl 6 b9 0 v8.1.length), (8, .sl 6 b17 0 l18.length), (9, I v23.1), (10, I v23.2), (11, .sl 6 b25 0 v24.1.length), (12, I v24.2), (13, I v26), (84, .bool c27)], [(b6, .cells [.str v2.1.Key, I v2.1.Target.Major, I v2.1.Target.Minor, I v2.1.Target.Patch, I v2.1.At, .list 4 (v2.1.Waves.map Wave.av), I v2.1.Hours.From, I v2.1.Hours.To, I v2.1.Room]), (b9, .arr 6 (v8.1.map MarkS.av)), (b17, .arr 6 (l18.map MarkS.av)), (b25, .arr 6 (v24.1.map MarkS.av))]⟩) ?_ ?_
      · refine tR <| ARun.qv (q_load_ptr_all rfl rfl .p1 rfl) rfl <| bndE h fun v28 e15 h => r_callp rfl (campaign_CheckCampaign_c e15) (CoL.refl _) rfl <| rM rfl rfl <| ARun.qv (q_neq rfl rfl) rfl <| rM rfl rfl <| ARun.guard_df rfl rfl rfl (fun hc => ?_) (fun hc => ?_)
        · refine have h := iteF hc h; rM rfl rfl <| rY rfl rfl rfl <| bndE h fun v29 e16 h => r_callp rfl (campaign_CheckFleet_c e16) (.cons (Co.froT .p2) .nil) rfl <| rY rfl rfl rfl <| rM rfl rfl <| rY rfl rfl rfl <| bndE h fun v30 e17 h => r_callp rfl (Q_FleetFault_c e17) (.cons (Co.froT .p2) .nil) rfl <| rY rfl rfl rfl <| ARun.qv (q_neq rfl rfl) rfl <| rE rfl rfl rfl <| rM rfl rfl <| ARun.guard_df rfl rfl rfl (fun hc => ?_) (fun hc => ?_)
          · exact have h := iteF hc h; rM rfl rfl <| rY rfl rfl rfl <| bndE h fun v31 e18 h => r_callpB rfl (campaign_CheckMarks_c e18) (.cons (CoB.arrT .p3) .nil) rfl rfl <| rY rfl rfl rfl <| rM rfl rfl <| rY rfl rfl rfl <| bndE h fun v32 e19 h => r_callpB rfl (Q_MarksFault_c e19) (.cons (CoB.arrT .p3) .nil) rfl rfl <| rY rfl rfl rfl <| ARun.qv (q_neq rfl rfl) rfl <| rE rfl rfl rfl <| rN <| ATodo.stop <| ImpX.lq [1, 2, 2, 0] ⟨decide (v31 ≠ v32), h, rfl⟩ rfl rfl
          · exact have h := iteT hc h; rG rfl rfl rfl rfl <| rG rfl rfl rfl rfl <| rG rfl rfl rfl rfl <| rG rfl rfl rfl rfl <| rT rfl rfl rfl <| rN <| ATodo.stop <| ImpX.lq [1, 2, 2, 0] ⟨true, h, rfl⟩ rfl rfl
        · exact have h := iteT hc h; rG rfl rfl rfl rfl <| rG rfl rfl rfl rfl <| rG rfl rfl rfl rfl <| rG rfl rfl rfl rfl <| rT rfl rfl rfl <| rM rfl rfl <| rG rfl rfl rfl rfl <| rG rfl rfl rfl rfl <| rG rfl rfl rfl rfl <| rG rfl rfl rfl rfl <| rG rfl rfl rfl rfl <| rT rfl rfl rfl <| rN <| ATodo.stop <| ImpX.lq [1, 2, 2, 0] ⟨true, h, rfl⟩ rfl rfl
      · rintro σ' ⟨c27, h, rfl⟩
        unfold L_CampaignsCheck_j3 at h
        refine ATodo.cond rfl (fun hc => ?_) (fun hc => ?_)
        · refine have h := iteT hc h; tSR <| rA rfl rfl <| rN <| ATodo.ret <| ?_
          obtain rfl := Option.some.inj h
          exact ImpX.here ⟨_, .cons (.tmp _ _ rfl) .nil, rfl⟩
        · refine have h := iteFb hc h; tK <| tSR <| rA rfl rfl <| rN <| tS <| tSR <| rM rfl rfl <| rM rfl rfl <| bndE h fun v33 e20 h => r_callp rfl (Q_Key_c e20) (CoL.refl _) rfl <| ARun.qv (q_not rfl) rfl <| r_callp rfl (L_when_c rfl) (CoL.refl _) rfl <| n_buildSliceL (xs := ([v26, (L_when (!v33) (5 : Int))]).map I) rfl rfl rfl rfl rfl rfl <| bndE h fun v34 e21 h => r_callp rfl (L_errs_c e21) (CoL.refl _) rfl <| rA rfl rfl <| rN <| tSR <| rM rfl rfl <| ARun.qv (q_eql rfl rfl) rfl <| rN <| ATodo.cut (fun σ' => ∃ (n35 : Int), L_CampaignsCheck_j4 v8 l18 v23 v24 v34 n35 = some r ∧ σ' = ⟨132, [(7, .sl 6 b9 0 v8.1.length), (8, .sl 6 b17 0 l18.length), (9, I v23.1), (10, I v23.2), (11, .sl 6 b25 0 v24.1.length), (12, I v24.2), (13, I v34), (14, I n35)], [(b9, .arr 6 (v8.1.map MarkS.av)), (b17, .arr 6 (l18.map MarkS.av)), (b25, .arr 6 (v24.1.map MarkS.av))]⟩) ?_ ?_
          · refine ATodo.cond_d rfl (fun hc => ?_) (fun hc => ?_)
            · exact have h := iteT hc h; tR <| ARun.qv (q_load_ptr_all rfl rfl .p0 rfl) rfl <| rM rfl rfl <| bndE h fun v36 e22 h => r_callp rfl (Q_WaveOf_c e22) (CoL.refl _) rfl <| rA rfl rfl <| rN <| ATodo.stop <| ImpX.lq [1, 1, 1] ⟨v36, h, rfl⟩ rfl rfl
            · exact have h := iteF hc h; tK <| ATodo.stop <| ImpX.lq [1, 1, 1] ⟨(0 : Int), h, rfl⟩ rfl rfl
          · rintro σ' ⟨n35, h, rfl⟩
            unfold L_CampaignsCheck_j4 at h
            refine tSR <| rM rfl rfl <| bndE h fun v37 e23 h => r_callpB rfl (Q_MarksFault_c e23) (.cons (CoB.arrT .p0) .nil) rfl rfl <| rM rfl rfl <| bndE h fun v38 e24 h => r_callpB rfl (Q_MarksFault_c e24) (.cons (CoB.arrT .p1) .nil) rfl rfl <| n_buildSliceL (xs := ([v37, v38] : List Int).map I) rfl rfl rfl rfl rfl rfl <| bndE h fun v39 e25 h => r_callp rfl (L_errs_c e25) (CoL.refl _) rfl <| rA rfl rfl <| rN <| tSR <| rA rfl rfl <| rN <| tS <| tSR <| rM rfl rfl <| ARun.qv (q_eql rfl rfl) rfl <| rN <| ATodo.cut (fun σ' => ∃ (b41 : Bk) (n40 : Int) (l42 : List MarkS), L_CampaignsCheck_j5 v23 v24 v34 n35 n40 l42 = some r ∧ σ' = ⟨132, [(9, I v23.1), (10, I v23.2), (11, .sl 6 b25 0 v24.1.length), (12, I v24.2), (13, I v34), (14, I n35), (15, I n40), (16, .sl 6 b41 0 l42.length)], [(b25, .arr 6 (v24.1.map MarkS.av)), (b41, .arr 6 (l42.map MarkS.av))]⟩) ?_ ?_
            · refine ATodo.cond_d rfl (fun hc => ?_) (fun hc => ?_)
              · exact have h := iteT hc h; tR <| rM rfl rfl <| rM rfl rfl <| bndE h fun v43 e26 h => t_callL1 rfl (Q_MarksOf_c e26) .nil (.cons (CoB.arrT .p0) (.cons (CoB.arrT .p1) .nil)) (fun _ => rfl) (fun _ => rfl) (fun _ => (.cons (NoS.arrT (fun _ => rfl)) .nil)) rfl fun b44 => rM rfl rfl <| rX rfl rfl rfl <| rX rfl rfl rfl <| rA rfl rfl <| rA rfl rfl <| rN <| ATodo.stop <| ImpX.lq [3, 0] ⟨b44, v43.2, v43.1, h, rfl⟩ rfl rfl
              · exact have h := iteF hc h; tK <| ATodo.stop <| ImpX.arr (s := 16) 6 rfl fun b45 => ImpX.lq [3, 0] ⟨b45, v39, [], h, rfl⟩ rfl rfl
            · rintro σ' ⟨b41, n40, l42, h, rfl⟩
              unfold L_CampaignsCheck_j5 at h
              refine tS <| ATodo.cut (fun σ' => ∃ (c46 : Bool), L_CampaignsCheck_j6 c46 = some r ∧ σ' = ⟨132, [(2, .bool c46)], []⟩) ?_ ?_
              · refine tR <| rM rfl rfl <| rM rfl rfl <| ARun.qv (q_eql rfl rfl) rfl <| rM rfl rfl <| ARun.guard_dt rfl rfl rfl (fun hc => ?_) (fun hc => ?_)
                · refine have h := iteT hc h; rM rfl rfl <| rY rfl rfl rfl <| rM rfl rfl <| rY rfl rfl rfl <| ARun.qv (q_eql rfl rfl) rfl <| rT rfl rfl rfl <| rM rfl rfl <| ARun.guard_dt rfl rfl rfl (fun hc => ?_) (fun hc => ?_)
                  · refine have h := iteT hc h; rM rfl rfl <| rY rfl rfl rfl <| rM rfl rfl <| rY rfl rfl rfl <| ARun.qv (q_eql rfl rfl) rfl <| rT rfl rfl rfl <| rM rfl rfl <| ARun.guard_dt rfl rfl rfl (fun hc => ?_) (fun hc => ?_)
                    · refine have h := iteT hc h; rM rfl rfl <| rY rfl rfl rfl <| rM rfl rfl <| rY rfl rfl rfl <| bndE h fun v47 e27 h => r_callpB rfl (slices_Equal_Mark_Mark_c e27) (.cons (CoB.arrT .p0) (.cons (CoB.arrT .p1) .nil)) rfl rfl <| rT rfl rfl rfl <| rM rfl rfl <| ARun.guard rfl rfl rfl (fun hc => ?_) (fun hc => ?_)
                      · exact have h := iteT hc h; bndE h fun v48 e28 h => r_callp rfl (L_versioned_c e28) (CoL.refl _) rfl <| rT rfl rfl rfl <| rA rfl rfl <| rN <| ATodo.stop <| ImpX.lq [] ⟨v48, h, rfl⟩ rfl rfl
                      · exact have h := iteFb hc h; rE rfl rfl rfl <| rA rfl rfl <| rN <| ATodo.stop <| ImpX.lq [] ⟨false, h, rfl⟩ rfl rfl
                    · exact have h := iteF hc h; rG rfl rfl rfl rfl <| rG rfl rfl rfl rfl <| rE rfl rfl rfl <| rM rfl rfl <| rG rfl rfl rfl rfl <| rE rfl rfl rfl <| rA rfl rfl <| rN <| ATodo.stop <| ImpX.lq [] ⟨false, h, rfl⟩ rfl rfl
                  · exact have h := iteF hc h; rG rfl rfl rfl rfl <| rG rfl rfl rfl rfl <| rE rfl rfl rfl <| rM rfl rfl <| rG rfl rfl rfl rfl <| rG rfl rfl rfl rfl <| rG rfl rfl rfl rfl <| rE rfl rfl rfl <| rM rfl rfl <| rG rfl rfl rfl rfl <| rE rfl rfl rfl <| rA rfl rfl <| rN <| ATodo.stop <| ImpX.lq [] ⟨false, h, rfl⟩ rfl rfl
                · exact have h := iteF hc h; rG rfl rfl rfl rfl <| rG rfl rfl rfl rfl <| rE rfl rfl rfl <| rM rfl rfl <| rG rfl rfl rfl rfl <| rG rfl rfl rfl rfl <| rG rfl rfl rfl rfl <| rE rfl rfl rfl <| rM rfl rfl <| rG rfl rfl rfl rfl <| rG rfl rfl rfl rfl <| rG rfl rfl rfl rfl <| rE rfl rfl rfl <| rM rfl rfl <| rG rfl rfl rfl rfl <| rE rfl rfl rfl <| rA rfl rfl <| rN <| ATodo.stop <| ImpX.lq [] ⟨false, h, rfl⟩ rfl rfl
              · rintro σ' ⟨c46, h, rfl⟩
                unfold L_CampaignsCheck_j6 at h
                refine ATodo.ret <| ?_
                obtain rfl := Option.some.inj h
                exact ImpX.here ⟨_, .cons (.tmp _ _ rfl) .nil, rfl⟩

end Go.Proofs.YtmeliclfmnekkaaGreatDoor

