/- The code computes the plain functions: proofs written by shal.py. -/
import Derived.Test.YtmlgacejioccmaaGreatDoorCmgW1
set_option maxRecDepth 100000
set_option linter.unusedVariables false
set_option linter.unusedSimpArgs false
namespace Go.Proofs.YtmlgacejioccmaaGreatDoor
open Go Go.Eng Go.Proofs Go.Beacon
attribute [local irreducible] ARun ATodo AQ QV ACall ImpX AWp AM
set_option maxHeartbeats 4000000 in
theorem Q_sign_c [GI : GTab] {p0x0 : Int} {r : Int} (h : Q_sign p0x0 = r) : Pu Tryz.prog 120 [I p0x0] (I r) := by
  unfold Q_sign at h
  refine ACall.bodyN Tryz.func120 rfl Tryz.ntmps120 Tryz.results120 rfl rfl ?_
  refine tSR <| rA rfl rfl <| rN <| tS <| ATodo.block <| tSR <| rM rfl rfl <| ARun.qv (q_lss rfl rfl) rfl <| rA rfl rfl <| rN <| ATodo.cond_d rfl (fun hc => ?_) (fun hc => ?_)
  · refine have h := iteT hc h; tSR <| rA rfl rfl <| rN <| ATodo.ret <| ?_
    obtain rfl := h
    exact ImpX.here ⟨_, .cons (.tmp _ _ rfl) .nil, rfl⟩
  · refine have h := iteF hc h; tSR <| rM rfl rfl <| ARun.qv (q_gtr rfl rfl) rfl <| rA rfl rfl <| rN <| ATodo.cond_d rfl (fun hc => ?_) (fun hc => ?_)
    · refine have h := iteT hc h; tSR <| rA rfl rfl <| rN <| ATodo.ret <| ?_
      obtain rfl := h
      exact ImpX.here ⟨_, .cons (.tmp _ _ rfl) .nil, rfl⟩
    · refine have h := iteF hc h; tK <| ATodo.blk <| tSR <| rA rfl rfl <| rN <| ATodo.ret <| ?_
      obtain rfl := h
      exact ImpX.here ⟨_, .cons (.tmp _ _ rfl) .nil, rfl⟩

set_option maxHeartbeats 4000000 in
theorem Q_StampOrder_c [GI : GTab] {p0x0 : Stamp} {p1x0 : Stamp} {r : Int} (h : Q_StampOrder p0x0 p1x0 = r) : Pu Tryz.prog 70 [.agg [I p0x0.At, .str p0x0.By, I p0x0.No], .agg [I p1x0.At, .str p1x0.By, I p1x0.No]] (I r) := by
  unfold Q_StampOrder at h
  refine ACall.bodyN Tryz.func70 rfl Tryz.ntmps70 Tryz.results70 rfl rfl ?_
  refine tSR <| n_box rfl rfl rfl rfl fun b1 => n_box rfl rfl rfl rfl fun b2 => rA rfl rfl <| rN <| tS <| ATodo.block <| tSR <| rF rfl rfl rfl <| rL rfl rfl .p1 rfl rfl <| rF rfl rfl rfl <| rL rfl rfl .p0 rfl rfl <| ARun.qv (q_neq rfl rfl) rfl <| rA rfl rfl <| rN <| ATodo.cond_d rfl (fun hc => ?_) (fun hc => ?_)
  · refine have h := iteT hc h; tSR <| rF rfl rfl rfl <| rL rfl rfl .p1 rfl rfl <| rF rfl rfl rfl <| rL rfl rfl .p0 rfl rfl <| ARun.qv (q_subw rfl rfl) rfl <| r_callp rfl (Q_sign_c rfl) (CoL.refl _) rfl <| rA rfl rfl <| rN <| ATodo.ret <| ?_
    obtain rfl := h
    exact ImpX.here ⟨_, .cons (.tmp _ _ rfl) .nil, rfl⟩
  · refine have h := iteF hc h; tSR <| rF rfl rfl rfl <| rL rfl rfl .p1 rfl rfl <| rF rfl rfl rfl <| rL rfl rfl .p0 rfl rfl <| ARun.qv (q_sne rfl rfl) rfl <| rA rfl rfl <| rN <| ATodo.cond_d rfl (fun hc => ?_) (fun hc => ?_)
    · refine have h := iteT hc h; tSR <| rF rfl rfl rfl <| rL rfl rfl .p1 rfl rfl <| rF rfl rfl rfl <| rL rfl rfl .p0 rfl rfl <| r_callp rfl (strings_Compare_c rfl) (CoL.refl _) rfl <| rA rfl rfl <| rN <| ATodo.ret <| ?_
      obtain rfl := h
      exact ImpX.here ⟨_, .cons (.tmp _ _ rfl) .nil, rfl⟩
    · refine have h := iteF hc h; tK <| ATodo.blk <| tSR <| rF rfl rfl rfl <| rL rfl rfl .p1 rfl rfl <| rF rfl rfl rfl <| rL rfl rfl .p0 rfl rfl <| ARun.qv (q_subw rfl rfl) rfl <| r_callp rfl (Q_sign_c rfl) (CoL.refl _) rfl <| rA rfl rfl <| rN <| ATodo.ret <| ?_
      obtain rfl := h
      exact ImpX.here ⟨_, .cons (.tmp _ _ rfl) .nil, rfl⟩

set_option maxHeartbeats 4000000 in
theorem Q_MergeOf_1x_c [GI : GTab] {p0x0 : Cell} {p1x0 : Cell} {r : Int} (h : Q_MergeOf_1x p0x0 p1x0 = r) : Pu Tryz.prog 69 [.agg [.str p0x0.Prop_.Name, I p0x0.Prop_.Value.Kind, .bool p0x0.Prop_.Value.Flag, I p0x0.Prop_.Value.Number, .str p0x0.Prop_.Value.Words, I p0x0.Stamp.At, .str p0x0.Stamp.By, I p0x0.Stamp.No], .agg [.str p1x0.Prop_.Name, I p1x0.Prop_.Value.Kind, .bool p1x0.Prop_.Value.Flag, I p1x0.Prop_.Value.Number, .str p1x0.Prop_.Value.Words, I p1x0.Stamp.At, .str p1x0.Stamp.By, I p1x0.Stamp.No]] (I r) := by
  unfold Q_MergeOf_1x at h
  refine ACall.bodyN Tryz.func69 rfl Tryz.ntmps69 Tryz.results69 rfl rfl ?_
  refine tSR <| n_box rfl rfl rfl rfl fun b1 => n_box rfl rfl rfl rfl fun b2 => rA rfl rfl <| rN <| tSR <| rF rfl rfl rfl <| ARun.qv (n_load_ptr_part rfl rfl .p1 rfl rfl) rfl <| rF rfl rfl rfl <| ARun.qv (n_load_ptr_part rfl rfl .p0 rfl rfl) rfl <| r_callp rfl (Q_StampOrder_c rfl) (CoL.refl _) rfl <| rA rfl rfl <| rN <| ATodo.ret <| ?_
  obtain rfl := h
  exact ImpX.here ⟨_, .cons (.tmp _ _ rfl) .nil, rfl⟩

set_option maxHeartbeats 4000000 in
theorem Q_MergeOf_2x_c [GI : GTab] {p0x0 : Cell} {p1x0 : Cell} {r : Int} (h : Q_MergeOf_2x p0x0 p1x0 = r) : Pu Tryz.prog 72 [.agg [.str p0x0.Prop_.Name, I p0x0.Prop_.Value.Kind, .bool p0x0.Prop_.Value.Flag, I p0x0.Prop_.Value.Number, .str p0x0.Prop_.Value.Words, I p0x0.Stamp.At, .str p0x0.Stamp.By, I p0x0.Stamp.No], .agg [.str p1x0.Prop_.Name, I p1x0.Prop_.Value.Kind, .bool p1x0.Prop_.Value.Flag, I p1x0.Prop_.Value.Number, .str p1x0.Prop_.Value.Words, I p1x0.Stamp.At, .str p1x0.Stamp.By, I p1x0.Stamp.No]] (I r) := by
  unfold Q_MergeOf_2x at h
  refine ACall.bodyN Tryz.func72 rfl Tryz.ntmps72 Tryz.results72 rfl rfl ?_
  refine tSR <| n_box rfl rfl rfl rfl fun b1 => n_box rfl rfl rfl rfl fun b2 => rA rfl rfl <| rN <| tSR <| rF rfl rfl rfl <| rF rfl rfl rfl <| rL rfl rfl .p1 rfl rfl <| rF rfl rfl rfl <| rF rfl rfl rfl <| rL rfl rfl .p0 rfl rfl <| r_callp rfl (strings_Compare_c rfl) (CoL.refl _) rfl <| rA rfl rfl <| rN <| ATodo.ret <| ?_
  obtain rfl := h
  exact ImpX.here ⟨_, .cons (.tmp _ _ rfl) .nil, rfl⟩

set_option maxHeartbeats 4000000 in
theorem slices_SortFunc_Cell_Cell_k : SortK Tryz.prog 71 8 := ⟨fun enc hk h1 cf hO g cb blk off cap d w eg hc hH hb hs => AnyQ.slices_SortFunc_eq Tryz.sortF71 8 Tryz.isAgg49 Tryz.sizeOf49 enc hk h1 cf hO g cb blk off cap d w eg hc hH hb hs, fun p cap fv w => AnyF.slices_SortFunc_none Tryz.sortF71 p cap fv w⟩
theorem slices_SortFunc_Cell_Cell_c [GI : GTab] {b_0 : Bk} {p0x0 : List Cell} {fnb : Cell → Cell → Option Int} {fnb_F : FuncId} [IsFn Tryz.prog fnb_F] {fnb_C : List AV} (fnb_h : ∀ {y0 y1 : _} {u : Int}, fnb y0 y1 = some u → @Pu strongT Tryz.prog fnb_F (Cell.av y0 :: Cell.av y1 :: fnb_C) (I u)) {r : (List Cell)} (h : slices_SortFunc_Cell_Cell p0x0 fnb = some r) : ACall Tryz.prog 71 [.sl 8 b_0 0 p0x0.length, .func (.func fnb_F) fnb_C] [(b_0, .arr 8 (p0x0.map Cell.av))] (T0 [(b_0, .arr 8 (r.map Cell.av))] (.tup [])) :=
  sort_acall (fn := fnb) slices_SortFunc_Cell_Cell_k rfl @fnb_h (fun _ => rfl) h

set_option maxHeartbeats 4000000 in
theorem Q_MergeOf_c [GI : GTab] {p0x0 : List Cell} {p1x0 : List Cell} {r : (List Cell) × Int} (h : Q_MergeOf p0x0 p1x0 = some r) : ACall Tryz.prog 26 [.list 8 (p0x0.map Cell.av), .list 8 (p1x0.map Cell.av)] [] (T1 (fun d_0 => [(d_0, .arr 8 (r.1.map Cell.av))]) (fun d_0 => .tup [.sl 8 d_0 0 r.1.length, I r.2])) := by
  unfold Q_MergeOf at h
  refine ACall.lessH ?_
  refine ACall.bodyN Tryz.func26 rfl Tryz.ntmps26 Tryz.results26 rfl rfl ?_
  refine tSR <| rA rfl rfl <| rA rfl rfl <| rN <| tSR <| rM rfl rfl <| rM rfl rfl <| n_buildSliceL (xs := ([p0x0, p1x0] : List (List Cell)).map (encL 8 Cell.av)) rfl rfl rfl rfl rfl rfl <| bndE h fun v1 e1 h => t_call1 rfl (slices_Concat_Cell_Cell_c e1) (CoL.refl _) .nil (fun _ => rfl) rfl fun b2 => rA rfl rfl <| rN <| tSR <| rM rfl rfl <| bndE h fun v3 e2 h => t_call0 rfl (slices_SortStableFunc_Cell_Cell_c (fun e => Q_MergeOf_1x_c (Option.some.inj e)) (lenOk_f e2)) (CoL.refl _) (.cons .p0 .nil) rfl rfl <| ARun.ghost <| ImpX.eqs (s := 6) (av' := .sl 8 b2 0 v3.length) rfl (congrArg (AV.sl 8 b2 0) (lenOk_l e2)) <| ImpX.here <| ARun.ghost <| ImpX.eqs (s := 18) (av' := .sl 8 b2 0 v3.length) rfl (congrArg (AV.sl 8 b2 0) (lenOk_l e2)) <| ImpX.here <| ARun.ghost <| ImpX.eqs (s := 19) (av' := .sl 8 b2 0 v3.length) rfl (congrArg (AV.sl 8 b2 0) (lenOk_l e2)) <| ImpX.here <| rN <| tSR <| t_makeMap rfl fun b4 => rA rfl rfl <| rN <| tS <| tSR <| rM rfl rfl <| ARun.qv (t_len_sl rfl) rfl <| rM rfl rfl <| rN <| ATodo.block <| ATodo.loopI (fun x : (List (Str × Cell)) × Int => Q_MergeOf_b1 v3 x.1 x.2) (fun x σ' => σ' = ⟨72, [(7, .mref b4), (22, .sl 8 b2 0 v3.length), (23, I (v3.length : Int)), (24, I x.2)], [(b4, .mp (x.1.map (fun e => (AV.str e.1, Cell.av e.2)))), (b2, .arr 8 (v3.map Cell.av))]⟩) h ?_ ?_
  · exact ImpX.lq [0, 0] rfl rfl rfl
  · intro x z1 σ' J1 hmk h hJ1 hA1
    obtain ⟨l7, n8⟩ := x
    obtain rfl := hmk
    replace h : Q_MergeOf_b1 v3 l7 n8 = some z1 := h
    unfold Q_MergeOf_b1 at h
    refine tSR <| ARun.qv (q_lss rfl rfl) rfl <| rN <| tS <| ATodo.cond_d rfl (fun hc => ?_) (fun hc => ?_)
    · refine have h := iteT hc h; tK <| tS <| ATodo.block <| tSR <| bndE h fun v9 e3 h => ARun.qv (t_index_sl rfl rfl rfl e3) rfl <| ARun.qv (t_load_aptr_agg (g := Cell.av) rfl rfl (.inl .p1) rfl e3 rfl) rfl <| n_alloc rfl rfl rfl rfl fun b10 => n_store_ptr rfl rfl rfl rfl .p0 rfl rfl <| rN <| tS <| tSR <| rM rfl rfl <| rF rfl rfl rfl <| rF rfl rfl rfl <| rL rfl rfl .p0 rfl rfl <| bndE h fun v11 e4 h => ARun.qv (t_lookup2 (gk := AV.str) (gv := Cell.av) (M := l7) (key := v9.Prop_.Name) (Z := (⟨(⟨[], (⟨(0 : Int), false, (0 : Int), []⟩ : ValueS)⟩ : PropS), (⟨(0 : Int), [], (0 : Int)⟩ : Stamp)⟩ : Cell)) rfl rfl .p1 rfl rfl rfl e4 rfl) rfl <| rM rfl rfl <| rX rfl rfl rfl <| rX rfl rfl rfl <| n_alloc rfl rfl rfl rfl fun b12 => n_store_ptr rfl rfl rfl rfl .p0 rfl rfl <| rA rfl rfl <| rN <| tS <| ATodo.cut (fun σ' => ∃ (c13 : Bool), Q_MergeOf_j1 l7 n8 v9 c13 = some z1 ∧ σ' = ⟨72, [(7, .mref b4), (9, .ptr b10 0), (22, .sl 8 b2 0 v3.length), (23, I (v3.length : Int)), (24, I n8), (49, .bool c13)], [(b4, .mp (l7.map (fun e => (AV.str e.1, Cell.av e.2)))), (b10, .cells [.str v9.Prop_.Name, I v9.Prop_.Value.Kind, .bool v9.Prop_.Value.Flag, I v9.Prop_.Value.Number, .str v9.Prop_.Value.Words, I v9.Stamp.At, .str v9.Stamp.By, I v9.Stamp.No]), (b2, .arr 8 (v3.map Cell.av))]⟩) ?_ ?_
      · refine tR <| rM rfl rfl <| rM rfl rfl <| ARun.guard rfl rfl rfl (fun hc => ?_) (fun hc => ?_)
        · rw [andTb hc] at h
          refine rF rfl rfl rfl <| rY rfl rfl rfl <| ARun.qv (n_load_ptr_part rfl rfl .p0 rfl rfl) rfl <| rY rfl rfl rfl <| rF rfl rfl rfl <| rY rfl rfl rfl <| ARun.qv (n_load_ptr_part rfl rfl .p1 rfl rfl) rfl <| rY rfl rfl rfl <| r_callp rfl (Q_StampOrder_c rfl) (CoL.refl _) rfl <| rY rfl rfl rfl <| ARun.qv (q_eql rfl rfl) rfl <| rT rfl rfl rfl <| rM rfl rfl <| ARun.guard_dt rfl rfl rfl (fun hc => ?_) (fun hc => ?_)
          · rw [andTd hc] at h
            exact ARun.qv (q_load_ptr_all rfl rfl .p0 rfl) rfl <| rY rfl rfl rfl <| ARun.qv (q_load_ptr_all rfl rfl .p1 rfl) rfl <| rY rfl rfl rfl <| ARun.qv (t_tne (g := Cell.av) (X := v11.1) (Y := v9) rfl rfl rfl rfl rfl) rfl <| rT rfl rfl rfl <| rN <| ATodo.stop <| ImpX.lq [2, 1, 1] ⟨decide (v11.1 ≠ v9), h, rfl⟩ rfl rfl
          · rw [andFd hc] at h
            exact rG rfl rfl rfl rfl <| rG rfl rfl rfl rfl <| rE rfl rfl rfl <| rN <| ATodo.stop <| ImpX.lq [2, 1, 1] ⟨false, h, rfl⟩ rfl rfl
        · rw [andFb hc] at h
          exact rG rfl rfl rfl rfl <| rG rfl rfl rfl rfl <| rG rfl rfl rfl rfl <| rG rfl rfl rfl rfl <| rG rfl rfl rfl rfl <| rE rfl rfl rfl <| rM rfl rfl <| rG rfl rfl rfl rfl <| rG rfl rfl rfl rfl <| rG rfl rfl rfl rfl <| rE rfl rfl rfl <| rN <| ATodo.stop <| ImpX.lq [2, 1, 1] ⟨false, h, rfl⟩ rfl rfl
      · rintro σ' ⟨c13, h, rfl⟩
        unfold Q_MergeOf_j1 at h
        refine ATodo.cond rfl (fun hc => ?_) (fun hc => ?_)
        · refine have h := iteT hc h; tSR <| rA rfl rfl <| rA rfl rfl <| rN <| ATodo.ret <| have h := outL h hA1; ?_
          obtain rfl := Option.some.inj h
          exact ImpX.arr (s := 4) 8 rfl fun b14 => ImpX.here ⟨_, .cons (.tmp _ _ rfl) (.cons (.tmp _ _ rfl) .nil), _, .cons .p0 .nil, ⟨b14, rfl, rfl⟩⟩
        · refine have h := iteFb hc h; tK <| tR <| rM rfl rfl <| rF rfl rfl rfl <| rF rfl rfl rfl <| rL rfl rfl .p1 rfl rfl <| ARun.qv (q_load_ptr_all rfl rfl .p1 rfl) rfl <| t_mapUpdate (gk := AV.str) (gv := Cell.av) (M := l7) (key := v9.Prop_.Name) (v := v9) rfl rfl rfl rfl .p0 <| rN <| ATodo.blk <| tR <| ARun.qv (q_addw rfl rfl) rfl <| rM rfl rfl <| rN <| ATodo.stop <| ?_
          obtain rfl := Option.some.inj h
          exact hJ1 _ _ rfl <| ImpX.lq [0, 1] rfl rfl rfl
    · refine have h := iteF hc h; ATodo.exit rfl <| have h := outL h hA1; tSR <| rA rfl rfl <| rN <| tS <| tSR <| rM rfl rfl <| t_range (M := l7) (enc := (fun e => (AV.str e.1, Cell.av e.2))) rfl (fun _ _ => .p0) rfl fun b15 Le5 ce5 hLe5 hIe5 => rN <| ATodo.block <| ATodo.loopMap (fun e (x : (List Cell)) => Q_MergeOf_b2 e x) (fun x : (List Cell) => Q_MergeOf_f2 x) (fun R x σ' => ∃ (b18 : Bk) (s2m : List Nat), MIter Le5 ce5 s2m (R.map (fun e => (AV.str e.1, Cell.av e.2))) ∧ σ' = ⟨72, [(12, .sl 8 b18 0 x.length), (57, .ptr b15 0)], [(b15, .mit b4 ce5 s2m), (b4, .mpb Le5 ce5), (b18, .arr 8 (x.map Cell.av))]⟩) h ?_ ?_
      · exact ImpX.arr (s := 12) 8 rfl fun b20 => ImpX.lq [1, 1, 0] ⟨b20, [], hIe5, rfl⟩ rfl rfl
      · intro R2 l19 σ' J2 hmk hH2 hK2
        obtain ⟨b18, s2m, hI2m, rfl⟩ := hmk
        refine tSR <| t_next rfl hI2m .p1 (fun _ => .p0) rfl (fun hN => ?_) (fun v2m R' sv2m hP hlen hIv2m hCv2m => ?_)
        · have h := nilL hH2 hN
          replace h : Q_MergeOf_f2 l19 = _ := h
          unfold Q_MergeOf_f2 at h
          refine ARun.ghost <| ImpX.mpDone hLe5 .p1 <| ImpX.here <| rX rfl rfl rfl <| rN <| tS <| ATodo.cond_f rfl <| ATodo.exit rfl <| tSR <| rM rfl rfl <| bndE h fun v21 e6 h => t_call0 rfl (slices_SortFunc_Cell_Cell_c (fun e => Q_MergeOf_2x_c (GI := strongT) (Option.some.inj e)) (lenOk_f e6)) (CoL.refl _) (.cons .p2 .nil) rfl rfl <| ARun.ghost <| ImpX.eqs (s := 12) (av' := .sl 8 b18 0 v21.length) rfl (congrArg (AV.sl 8 b18 0) (lenOk_l e6)) <| ImpX.here <| ARun.ghost <| ImpX.eqs (s := 66) (av' := .sl 8 b18 0 v21.length) rfl (congrArg (AV.sl 8 b18 0) (lenOk_l e6)) <| ImpX.here <| rN <| tS <| tSR <| rM rfl rfl <| ARun.qv (t_len_sl rfl) rfl <| ARun.qv (q_gtr rfl rfl) rfl <| rN <| ATodo.cond_d rfl (fun hc => ?_) (fun hc => ?_)
          · refine have h := iteT hc h; tSR <| rA rfl rfl <| rA rfl rfl <| rN <| ATodo.ret <| ?_
            obtain rfl := Option.some.inj h
            exact ImpX.arr (s := 4) 8 rfl fun b22 => ImpX.here ⟨_, .cons (.tmp _ _ rfl) (.cons (.tmp _ _ rfl) .nil), _, .cons .p0 .nil, ⟨b22, rfl, rfl⟩⟩
          · refine have h := iteF hc h; tK <| tSR <| rM rfl rfl <| rA rfl rfl <| rA rfl rfl <| rN <| ATodo.ret <| ?_
            obtain rfl := Option.some.inj h
            exact ImpX.here ⟨_, .cons (.tmp _ _ rfl) (.cons (.tmp _ _ rfl) .nil), _, .cons .p0 .nil, ⟨b18, rfl, rfl⟩⟩
        · obtain ⟨z2, h, hN2, hA2⟩ := stepL hH2 hP
          replace h : Q_MergeOf_b2 v2m l19 = some z2 := h
          unfold Q_MergeOf_b2 at h
          have hJ2 := fun y σ' (e : z2 = .inl y) hi => hK2 R' y σ' hlen (hN2 y e) hi
          clear hN2 hP hK2 hH2
          refine rX rfl rfl rfl <| rN <| tS <| ATodo.cond_t rfl <| tK <| ATodo.block <| tSR <| ARun.qv (t_entry rfl .p0 .p1 hCv2m rfl rfl) rfl <| rX rfl rfl rfl <| n_alloc rfl rfl rfl rfl fun b23 => n_store_ptr rfl rfl rfl rfl .p0 rfl rfl <| rN <| tR <| rM rfl rfl <| ARun.qv (q_load_ptr_all rfl rfl .p0 rfl) rfl <| n_buildSliceL (xs := ([v2m.2] : List Cell).map Cell.av) rfl rfl rfl rfl rfl rfl <| bndE h fun l24 e7 h => t_append (g := Cell.av) rfl rfl rfl rfl rfl rfl rfl rfl (.list _) e7 (fun _ => .p3) rfl fun b25 => rA rfl rfl <| rN <| ATodo.blk <| ATodo.stop <| ?_
          obtain rfl := Option.some.inj h
          exact hJ2 _ _ rfl <| ImpX.lq [1, 1, 1] ⟨b25, sv2m, hIv2m, rfl⟩ rfl rfl

set_option maxHeartbeats 4000000 in
theorem L_CellsMerge_1x_c {b_2 : Bk} {b_3 : Bk} {p0x0 : List Cell} {p1x0 : Int} {p2x0 : Int} {p3x0 : List Cell} {r : (List Cell) × Int} (h : L_CellsMerge_1x p0x0 p1x0 p2x0 p3x0 = some r) : ACall Tryz.prog 25 [.list 8 (p0x0.map Cell.av), I p1x0, .ptr b_2 0, .ptr b_3 0] [(b_2, .cells [I p2x0]), (b_3, .cells [.list 8 (p3x0.map Cell.av)])] (T1 (fun d_0 => [(b_2, .cells [I p2x0]), (b_3, .cells [.list 8 (p3x0.map Cell.av)]), (d_0, .arr 8 (r.1.map Cell.av))]) (fun d_0 => .tup [.sl 8 d_0 0 r.1.length, I r.2])) := by
  unfold L_CellsMerge_1x at h
  refine ACall.lessH ?_
  refine ACall.bodyN Tryz.func25 rfl Tryz.ntmps25 Tryz.results25 rfl rfl ?_
  refine tSR <| rA rfl rfl <| rA rfl rfl <| rN <| tS <| tS <| ATodo.regionM (id := 1) (A := [0, 0, 2, 0, 15, 31, 63]) 7 mixed rfl (by kernel_rfl) (by kernel_rfl) <| AM.qv (q_load_ptr rfl rfl .p0 rfl) rfl <| AM.qv (q_move rfl) rfl <| bndE h fun v1 e1 h => AM.callp rfl (Q_CellsFault_c e1) (CoL.refl _) rfl <| AM.qv (q_move rfl) rfl <| AM.buildSliceL (xs := ([p2x0, v1, p1x0] : List Int).map I) rfl rfl rfl rfl rfl rfl <| bndE h fun v2 e2 h => AM.callp rfl (L_errs_c e2) (CoL.refl _) rfl <| AM.qv (q_assign rfl) rfl <| AM.nil <| rN <| tSR <| rM rfl rfl <| ARun.qv (q_neq rfl rfl) rfl <| rN <| ATodo.cond_d rfl (fun hc => ?_) (fun hc => ?_)
  · refine have h := iteT hc h; tSR <| rM rfl rfl <| rA rfl rfl <| rA rfl rfl <| rN <| ATodo.ret <| ?_
    obtain rfl := Option.some.inj h
    exact ImpX.arr (s := 6) 8 rfl fun b3 => ImpX.here ⟨_, .cons (.tmp _ _ rfl) (.cons (.tmp _ _ rfl) .nil), _, .cons .p1 (.cons .p1 (.cons .p0 .nil)), ⟨b3, rfl, rfl⟩⟩
  · refine have h := iteF hc h; tK <| tSR <| rL rfl rfl .p1 rfl rfl <| rM rfl rfl <| bndE h fun v4 e3 h => t_call1 rfl (Q_MergeOf_c e3) (CoL.refl _) .nil (fun _ => rfl) rfl fun b5 => rX rfl rfl rfl <| rX rfl rfl rfl <| rA rfl rfl <| rA rfl rfl <| rN <| ATodo.ret <| ?_
    obtain rfl := Option.some.inj h
    exact ImpX.here ⟨_, .cons (.tmp _ _ rfl) (.cons (.tmp _ _ rfl) .nil), _, .cons .p1 (.cons .p1 (.cons .p0 .nil)), ⟨b5, rfl, rfl⟩⟩

set_option maxHeartbeats 4000000 in
theorem L_CellsMerge_1x_c3x0x_c {b_2 : Bk} {b_3 : Bk} {b_3x0 : Bk} {p0x0 : List Cell} {p1x0 : Int} {p2x0 : Int} {p3x0 : List Cell} {r : (List Cell) × Int} (h : L_CellsMerge_1x_c3x0x p0x0 p1x0 p2x0 p3x0 = some r) : ACall Tryz.prog 25 [.list 8 (p0x0.map Cell.av), I p1x0, .ptr b_2 0, .ptr b_3 0] [(b_2, .cells [I p2x0]), (b_3, .cells [.sl 8 b_3x0 0 p3x0.length]), (b_3x0, .arr 8 (p3x0.map Cell.av))] (T1 (fun d_0 => [(b_2, .cells [I p2x0]), (b_3, .cells [.sl 8 b_3x0 0 p3x0.length]), (b_3x0, .arr 8 (p3x0.map Cell.av)), (d_0, .arr 8 (r.1.map Cell.av))]) (fun d_0 => .tup [.sl 8 d_0 0 r.1.length, I r.2])) := by
  unfold L_CellsMerge_1x_c3x0x at h
  refine ACall.lessH ?_
  refine ACall.bodyN Tryz.func25 rfl Tryz.ntmps25 Tryz.results25 rfl rfl ?_
  refine tSR <| rA rfl rfl <| rA rfl rfl <| rN <| tS <| tS <| ATodo.regionM (id := 1) (A := [0, 0, 2, 0, 15, 31, 63]) 7 mixed rfl (by kernel_rfl) (by kernel_rfl) <| AM.qv (q_load_ptr rfl rfl .p0 rfl) rfl <| AM.qv (q_move rfl) rfl <| bndE h fun v1 e1 h => AM.callp rfl (Q_CellsFault_c e1) (CoL.refl _) rfl <| AM.qv (q_move rfl) rfl <| AM.buildSliceL (xs := ([p2x0, v1, p1x0] : List Int).map I) rfl rfl rfl rfl rfl rfl <| bndE h fun v2 e2 h => AM.callp rfl (L_errs_c e2) (CoL.refl _) rfl <| AM.qv (q_assign rfl) rfl <| AM.nil <| rN <| tSR <| rM rfl rfl <| ARun.qv (q_neq rfl rfl) rfl <| rN <| ATodo.cond_d rfl (fun hc => ?_) (fun hc => ?_)
  · refine have h := iteT hc h; tSR <| rM rfl rfl <| rA rfl rfl <| rA rfl rfl <| rN <| ATodo.ret <| ?_
    obtain rfl := Option.some.inj h
    exact ImpX.arr (s := 6) 8 rfl fun b3 => ImpX.here ⟨_, .cons (.tmp _ _ rfl) (.cons (.tmp _ _ rfl) .nil), _, .cons .p1 (.cons .p1 (.cons .p1 (.cons .p0 .nil))), ⟨b3, rfl, rfl⟩⟩
  · refine have h := iteF hc h; tK <| tSR <| rL rfl rfl .p1 rfl rfl <| rM rfl rfl <| bndE h fun v4 e3 h => t_callL1 rfl (Q_MergeOf_c e3) .nil (.cons (CoB.arrT .p2) (.cons (.co (.refl _)) .nil)) (fun _ => rfl) (fun _ => rfl) (fun _ => (.cons (NoS.arrT (fun _ => rfl)) .nil)) rfl fun b5 => rX rfl rfl rfl <| rX rfl rfl rfl <| rA rfl rfl <| rA rfl rfl <| rN <| ATodo.ret <| ?_
    obtain rfl := Option.some.inj h
    exact ImpX.here ⟨_, .cons (.tmp _ _ rfl) (.cons (.tmp _ _ rfl) .nil), _, .cons .p1 (.cons .p1 (.cons .p1 (.cons .p0 .nil))), ⟨b5, rfl, rfl⟩⟩

set_option maxHeartbeats 4000000 in
theorem L_when_c [GI : GTab] {p0x0 : Bool} {p1x0 : Int} {r : Int} (h : L_when p0x0 p1x0 = r) : Pu Tryz.prog 12 [.bool p0x0, I p1x0] (I r) := by
  unfold L_when at h
  refine ACall.bodyN Tryz.func12 rfl Tryz.ntmps12 Tryz.results12 rfl rfl ?_
  refine tSR <| rA rfl rfl <| rN <| tS <| tSR <| rM rfl rfl <| rN <| ATodo.cond rfl (fun hc => ?_) (fun hc => ?_)
  · refine have h := iteT hc h; tSR <| rM rfl rfl <| rA rfl rfl <| rN <| ATodo.ret <| ?_
    obtain rfl := h
    exact ImpX.here ⟨_, .cons (.tmp _ _ rfl) .nil, rfl⟩
  · refine have h := iteFb hc h; tK <| tSR <| rA rfl rfl <| rN <| ATodo.ret <| ?_
    obtain rfl := h
    exact ImpX.here ⟨_, .cons (.tmp _ _ rfl) .nil, rfl⟩

set_option maxHeartbeats 4000000 in
theorem slices_Equal_Cell_Cell_c [GI : GTab] {p0x0 : List Cell} {p1x0 : List Cell} {r : Bool} (h : slices_Equal_Cell_Cell p0x0 p1x0 = some r) : Pu Tryz.prog 16 [.list 8 (p0x0.map Cell.av), .list 8 (p1x0.map Cell.av)] (.bool r) := by
  unfold slices_Equal_Cell_Cell at h
  refine ACall.bodyN Tryz.func16 rfl Tryz.ntmps16 Tryz.results16 rfl rfl ?_
  refine tSR <| rA rfl rfl <| rN <| tS <| tSR <| rM rfl rfl <| ARun.qv (t_len rfl) rfl <| rM rfl rfl <| ARun.qv (t_len rfl) rfl <| ARun.qv (q_neq rfl rfl) rfl <| rN <| ATodo.cond_d rfl (fun hc => ?_) (fun hc => ?_)
  · refine have h := iteT hc h; tSR <| rA rfl rfl <| rN <| ATodo.ret <| ?_
    obtain rfl := Option.some.inj h
    exact ImpX.here ⟨_, .cons (.tmp _ _ rfl) .nil, rfl⟩
  · refine have h := iteF hc h; tK <| tS <| tSR <| rM rfl rfl <| ARun.qv (t_len rfl) rfl <| rM rfl rfl <| rN <| ATodo.block <| ATodo.loopI (fun x : Int => slices_Equal_Cell_Cell_b1 p0x0 p1x0 x) (fun x σ' => σ' = ⟨26, [(0, .list 8 (p0x0.map Cell.av)), (1, .list 8 (p1x0.map Cell.av)), (12, I (p0x0.length : Int)), (13, I x)], []⟩) h ?_ ?_
    · exact ImpX.lq [] rfl rfl rfl
    · intro n2 z1 σ' J1 hmk h hJ1 hA1
      obtain rfl := hmk
      replace h : slices_Equal_Cell_Cell_b1 p0x0 p1x0 n2 = some z1 := h
      unfold slices_Equal_Cell_Cell_b1 at h
      refine tSR <| ARun.qv (q_lss rfl rfl) rfl <| rN <| tS <| ATodo.cond_d rfl (fun hc => ?_) (fun hc => ?_)
      · refine have h := iteT hc h; tK <| tS <| ATodo.block <| tSR <| rM rfl rfl <| rA rfl rfl <| rN <| tS <| ATodo.regionM (id := 6) (A := [0, 0, 3, 7, 0, 0, 48, 112, 255]) 9 mixed rfl (by kernel_rfl) (by kernel_rfl) <| AM.qv (q_move rfl) rfl <| AM.qv (q_move rfl) rfl <| bndE h fun v3 e1 h => AM.qv (t_index rfl rfl rfl e1 rfl rfl) rfl <| AM.qv (q_load_rptr_agg rfl rfl rfl) rfl <| AM.qv (q_move rfl) rfl <| AM.qv (q_move rfl) rfl <| bndE h fun v4 e2 h => AM.qv (t_index rfl rfl rfl e2 rfl rfl) rfl <| AM.qv (q_load_rptr_agg rfl rfl rfl) rfl <| AM.qv (t_tne (g := Cell.av) (X := v3) (Y := v4) rfl rfl rfl rfl rfl) rfl <| AM.nil <| rN <| ATodo.cond_d rfl (fun hc => ?_) (fun hc => ?_)
        · refine have h := iteT hc h; tSR <| rA rfl rfl <| rN <| ATodo.ret <| have h := outL h hA1; ?_
          obtain rfl := Option.some.inj h
          exact ImpX.here ⟨_, .cons (.tmp _ _ rfl) .nil, rfl⟩
        · refine have h := iteF hc h; tK <| ATodo.blk <| tR <| ARun.qv (q_addw rfl rfl) rfl <| rM rfl rfl <| rN <| ATodo.stop <| ?_
          obtain rfl := Option.some.inj h
          exact hJ1 _ _ rfl <| ImpX.lq [] rfl rfl rfl
      · refine have h := iteF hc h; ATodo.exit rfl <| have h := outL h hA1; tSR <| rA rfl rfl <| rN <| ATodo.ret <| ?_
        obtain rfl := Option.some.inj h
        exact ImpX.here ⟨_, .cons (.tmp _ _ rfl) .nil, rfl⟩

set_option maxHeartbeats 4000000 in
theorem twin_find_1x_c [GI : GTab] {p0x0 : PropS} {p1x0 : Str} {r : Int} (h : twin_find_1x p0x0 p1x0 = r) : Pu Tryz.prog 162 [.agg [.str p0x0.Name, I p0x0.Value.Kind, .bool p0x0.Value.Flag, I p0x0.Value.Number, .str p0x0.Value.Words], .str p1x0] (I r) := by
  unfold twin_find_1x at h
  refine ACall.bodyN Tryz.func162 rfl Tryz.ntmps162 Tryz.results162 rfl rfl ?_
  refine tSR <| n_box rfl rfl rfl rfl fun b1 => rA rfl rfl <| rN <| tSR <| rF rfl rfl rfl <| rL rfl rfl .p0 rfl rfl <| rM rfl rfl <| r_callp rfl (strings_Compare_c rfl) (CoL.refl _) rfl <| rA rfl rfl <| rN <| ATodo.ret <| ?_
  obtain rfl := h
  exact ImpX.here ⟨_, .cons (.tmp _ _ rfl) .nil, rfl⟩

set_option maxHeartbeats 4000000 in
theorem slices_BinarySearchFunc_Prop_Prop_string_c [GI : GTab] {p0x0 : List PropS} {p1x0 : Str} {fnc : PropS → Str → Option Int} {fnc_F : FuncId} [IsFn Tryz.prog fnc_F] {fnc_C : List AV} (fnc_h : ∀ {y0 y1 : _} {u : Int}, fnc y0 y1 = some u → Pu Tryz.prog fnc_F (.agg [.str y0.Name, I y0.Value.Kind, .bool y0.Value.Flag, I y0.Value.Number, .str y0.Value.Words] :: .str y1 ::  fnc_C) (I u)) {r : Int × Bool} (h : slices_BinarySearchFunc_Prop_Prop_string p0x0 p1x0 fnc = some r) : Pu Tryz.prog 161 [.list 5 (p0x0.map PropS.av), .str p1x0, .func (.func fnc_F) fnc_C] (.tup [I r.1, .bool r.2]) := by
  unfold slices_BinarySearchFunc_Prop_Prop_string at h
  refine ACall.bodyN Tryz.func161 rfl Tryz.ntmps161 Tryz.results161 rfl rfl ?_
  refine tSR <| rA rfl rfl <| rA rfl rfl <| rN <| tSR <| rM rfl rfl <| ARun.qv (t_len rfl) rfl <| rA rfl rfl <| rN <| tSR <| rM rfl rfl <| rA rfl rfl <| rA rfl rfl <| rN <| tS <| ATodo.block <| ATodo.loopI (fun x : Int × Int => slices_BinarySearchFunc_Prop_Prop_string_b1 p0x0 p1x0 fnc x.1 x.2) (fun x σ' => σ' = ⟨49, [(0, .list 5 (p0x0.map PropS.av)), (1, .str p1x0), (2, .func (.func fnc_F) fnc_C), (8, I (p0x0.length : Int)), (9, I x.1), (10, I x.2)], []⟩) h ?_ ?_
  · exact ImpX.lq [] rfl rfl rfl
  · intro x z1 σ' J1 hmk h hJ1 hA1
    obtain ⟨n3, n4⟩ := x
    obtain rfl := hmk
    replace h : slices_BinarySearchFunc_Prop_Prop_string_b1 p0x0 p1x0 fnc n3 n4 = some z1 := h
    unfold slices_BinarySearchFunc_Prop_Prop_string_b1 at h
    refine tS <| tSR <| rM rfl rfl <| rM rfl rfl <| ARun.qv (q_lss rfl rfl) rfl <| rN <| ATodo.cond_d rfl (fun hc => ?_) (fun hc => ?_)
    · refine have h := iteT hc h; tK <| ATodo.block <| tSR <| rM rfl rfl <| rM rfl rfl <| ARun.qv (q_addw rfl rfl) rfl <| ARun.qv (q_conv_int rfl) rfl <| ARun.qv (t_shr rfl rfl (by decide)) rfl <| ARun.qv (q_conv_int rfl) rfl <| rA rfl rfl <| rN <| tSR <| rM rfl rfl <| rM rfl rfl <| rM rfl rfl <| bndE h fun v5 e1 h => ARun.qv (t_index rfl rfl rfl e1 rfl rfl) rfl <| ARun.qv (q_load_rptr_agg rfl rfl rfl) rfl <| rM rfl rfl <| bndE h fun v6 e2 h => r_callvp rfl rfl (fnc_h e2) (CoL.refl _) rfl <| ARun.qv (q_lss rfl rfl) rfl <| rN <| ATodo.cut (fun σ' => ∃ (n7 : Int) (n8 : Int), slices_BinarySearchFunc_Prop_Prop_string_j1 n7 n8 = some z1 ∧ σ' = ⟨49, [(0, .list 5 (p0x0.map PropS.av)), (1, .str p1x0), (2, .func (.func fnc_F) fnc_C), (8, I (p0x0.length : Int)), (9, I n7), (10, I n8)], []⟩) ?_ ?_
      · refine ATodo.cond_d rfl (fun hc => ?_) (fun hc => ?_)
        · exact have h := iteT hc h; tR <| rM rfl rfl <| ARun.qv (q_addw rfl rfl) rfl <| rA rfl rfl <| rN <| ATodo.stop <| ImpX.lq [] ⟨w64 ((w64 (shrI .u64 (IntKind.u64.wrap (w64 (n3 + n4))) (1 : Int))) + (1 : Int)), n4, h, rfl⟩ rfl rfl
        · exact have h := iteF hc h; tR <| rM rfl rfl <| rA rfl rfl <| rN <| ATodo.stop <| ImpX.lq [] ⟨n3, w64 (shrI .u64 (IntKind.u64.wrap (w64 (n3 + n4))) (1 : Int)), h, rfl⟩ rfl rfl
      · rintro σ' ⟨n7, n8, h, rfl⟩
        unfold slices_BinarySearchFunc_Prop_Prop_string_j1 at h
        refine ATodo.blk <| ATodo.stop <| ?_
        obtain rfl := Option.some.inj h
        exact hJ1 _ _ rfl <| ImpX.lq [] rfl rfl rfl
    · refine have h := iteF hc h; ATodo.exit rfl <| have h := outL h hA1; ?_
      unfold slices_BinarySearchFunc_Prop_Prop_string_k3 at h
      refine tS <| ATodo.cut (fun σ' => ∃ (c9 : Bool), slices_BinarySearchFunc_Prop_Prop_string_j2 n3 c9 = some r ∧ σ' = ⟨49, [(6, I n3), (7, .bool c9)], []⟩) ?_ ?_
      · refine tR <| rM rfl rfl <| rM rfl rfl <| rM rfl rfl <| ARun.qv (q_lss rfl rfl) rfl <| rM rfl rfl <| ARun.guard_dt rfl rfl rfl (fun hc => ?_) (fun hc => ?_)
        · exact have h := iteT hc h; rM rfl rfl <| rY rfl rfl rfl <| rM rfl rfl <| rY rfl rfl rfl <| rM rfl rfl <| rY rfl rfl rfl <| bndE h fun v10 e3 h => ARun.qv (t_index rfl rfl rfl e3 rfl rfl) rfl <| rY rfl rfl rfl <| ARun.qv (q_load_rptr_agg rfl rfl rfl) rfl <| rY rfl rfl rfl <| rM rfl rfl <| rY rfl rfl rfl <| bndE h fun v11 e4 h => r_callvp rfl rfl (fnc_h e4) (CoL.refl _) rfl <| rY rfl rfl rfl <| ARun.qv (q_eql rfl rfl) rfl <| rT rfl rfl rfl <| rA rfl rfl <| rA rfl rfl <| rN <| ATodo.stop <| ImpX.lq [] ⟨decide (v11 = (0 : Int)), h, rfl⟩ rfl rfl
        · exact have h := iteF hc h; rG rfl rfl rfl rfl <| rG rfl rfl rfl rfl <| rG rfl rfl rfl rfl <| rG rfl rfl rfl rfl <| rG rfl rfl rfl rfl <| rG rfl rfl rfl rfl <| rG rfl rfl rfl rfl <| rE rfl rfl rfl <| rA rfl rfl <| rA rfl rfl <| rN <| ATodo.stop <| ImpX.lq [] ⟨false, h, rfl⟩ rfl rfl
      · rintro σ' ⟨c9, h, rfl⟩
        unfold slices_BinarySearchFunc_Prop_Prop_string_j2 at h
        refine ATodo.ret <| ?_
        obtain rfl := Option.some.inj h
        exact ImpX.here ⟨_, .cons (.tmp _ _ rfl) (.cons (.tmp _ _ rfl) .nil), rfl⟩

set_option maxHeartbeats 4000000 in
theorem twin_find_c [GI : GTab] {p0x0 : List PropS} {p1x0 : Str} {r : Int} (h : twin_find p0x0 p1x0 = some r) : Pu Tryz.prog 126 [.list 5 (p0x0.map PropS.av), .str p1x0] (I r) := by
  unfold twin_find at h
  refine ACall.bodyN Tryz.func126 rfl Tryz.ntmps126 Tryz.results126 rfl rfl ?_
  refine tSR <| rA rfl rfl <| rN <| tSR <| rM rfl rfl <| rM rfl rfl <| bndE h fun v1 e1 h => r_callpB rfl (slices_BinarySearchFunc_Prop_Prop_string_c (fun e => twin_find_1x_c (Option.some.inj e)) e1) (.cons (.co (.refl _)) (.cons (.co (.refl _)) (.cons (.funcL _ _ _ .nil) .nil))) rfl rfl <| rM rfl rfl <| rX rfl rfl rfl <| rX rfl rfl rfl <| rA rfl rfl <| rA rfl rfl <| rN <| tS <| tSR <| rM rfl rfl <| ARun.qv (q_not rfl) rfl <| rN <| ATodo.cond rfl (fun hc => ?_) (fun hc => ?_)
  · refine have h := iteT hc h; tSR <| rA rfl rfl <| rN <| ATodo.ret <| ?_
    obtain rfl := Option.some.inj h
    exact ImpX.here ⟨_, .cons (.tmp _ _ rfl) .nil, rfl⟩
  · refine have h := iteFb hc h; tK <| tSR <| rM rfl rfl <| rA rfl rfl <| rN <| ATodo.ret <| ?_
    obtain rfl := Option.some.inj h
    exact ImpX.here ⟨_, .cons (.tmp _ _ rfl) .nil, rfl⟩

set_option maxHeartbeats 4000000 in
theorem twin_CheckProps_1x_c [GI : GTab] {p0x0 : Str} {p1x0 : List PropS} {r : Bool} (h : twin_CheckProps_1x p0x0 p1x0 = some r) : Pu Tryz.prog 144 [.str p0x0, .rptr [.list 5 (p1x0.map PropS.av)]] (.bool r) := by
  unfold twin_CheckProps_1x at h
  refine ACall.bodyN Tryz.func144 rfl Tryz.ntmps144 Tryz.results144 rfl rfl ?_
  refine tSR <| rA rfl rfl <| rN <| tSR <| ARun.qv (q_load_rptr rfl rfl rfl) rfl <| rM rfl rfl <| bndE h fun v1 e1 h => r_callp rfl (twin_find_c e1) (CoL.refl _) rfl <| ARun.qv (q_geq rfl rfl) rfl <| rA rfl rfl <| rN <| ATodo.ret <| ?_
  obtain rfl := Option.some.inj h
  exact ImpX.here ⟨_, .cons (.tmp _ _ rfl) .nil, rfl⟩

set_option maxHeartbeats 4000000 in
theorem twin_above_c [GI : GTab] {p0x0 : Str} {fnb : Str → Option Bool} {fnb_F : FuncId} [IsFn Tryz.prog fnb_F] {fnb_C : List AV} (fnb_h : ∀ {y0 : _} {u : Bool}, fnb y0 = some u → Pu Tryz.prog fnb_F (.str y0 ::  fnb_C) (.bool u)) {r : Bool} (h : twin_above p0x0 fnb = some r) : Pu Tryz.prog 143 [.str p0x0, .func (.func fnb_F) fnb_C] (.bool r) := by
  unfold twin_above at h
  refine ACall.bodyN Tryz.func143 rfl Tryz.ntmps143 Tryz.results143 rfl rfl ?_
  refine tSR <| rA rfl rfl <| rN <| tS <| tSR <| rM rfl rfl <| ARun.qv (q_len_str rfl) rfl <| rM rfl rfl <| rN <| ATodo.block <| ATodo.loopI (fun x : Int => twin_above_b1 p0x0 fnb x) (fun x σ' => σ' = ⟨23, [(0, .str p0x0), (1, .func (.func fnb_F) fnb_C), (7, I (p0x0.length : Int)), (8, I x)], []⟩) h ?_ ?_
  · exact ImpX.lq [] rfl rfl rfl
  · intro n2 z1 σ' J1 hmk h hJ1 hA1
    obtain rfl := hmk
    replace h : twin_above_b1 p0x0 fnb n2 = some z1 := h
    unfold twin_above_b1 at h
    refine tSR <| ARun.qv (q_lss rfl rfl) rfl <| rN <| tS <| ATodo.cond_d rfl (fun hc => ?_) (fun hc => ?_)
    · refine have h := iteT hc h; tK <| tS <| ATodo.block <| tSR <| rM rfl rfl <| rA rfl rfl <| rN <| tS <| ATodo.cut (fun σ' => ∃ (c3 : Bool), twin_above_j1 n2 c3 = some z1 ∧ σ' = ⟨23, [(0, .str p0x0), (1, .func (.func fnb_F) fnb_C), (7, I (p0x0.length : Int)), (8, I n2), (21, .bool c3)], []⟩) ?_ ?_
      · refine tR <| rM rfl rfl <| rM rfl rfl <| bndE h fun c4 e1 h => ARun.qv (t_index_str rfl rfl e1) rfl <| ARun.qv (q_eql rfl rfl) rfl <| rM rfl rfl <| ARun.guard_dt rfl rfl rfl (fun hc => ?_) (fun hc => ?_)
        · exact have h := iteT hc h; rM rfl rfl <| rY rfl rfl rfl <| rM rfl rfl <| rY rfl rfl rfl <| rM rfl rfl <| rY rfl rfl rfl <| bndE h fun l5 e2 h => ARun.qv (t_slice_str rfl .none (.some _ _ _ rfl) rfl rfl e2) rfl <| rY rfl rfl rfl <| bndE h fun v6 e3 h => r_callvp rfl rfl (fnb_h e3) (CoL.refl _) rfl <| rT rfl rfl rfl <| rN <| ATodo.stop <| ImpX.lq [] ⟨v6, h, rfl⟩ rfl rfl
        · exact have h := iteF hc h; rG rfl rfl rfl rfl <| rG rfl rfl rfl rfl <| rG rfl rfl rfl rfl <| rG rfl rfl rfl rfl <| rE rfl rfl rfl <| rN <| ATodo.stop <| ImpX.lq [] ⟨false, h, rfl⟩ rfl rfl
      · rintro σ' ⟨c3, h, rfl⟩
        unfold twin_above_j1 at h
        refine ATodo.cond rfl (fun hc => ?_) (fun hc => ?_)
        · refine have h := iteT hc h; tSR <| rA rfl rfl <| rN <| ATodo.ret <| have h := outL h hA1; ?_
          obtain rfl := Option.some.inj h
          exact ImpX.here ⟨_, .cons (.tmp _ _ rfl) .nil, rfl⟩
        · refine have h := iteFb hc h; tK <| ATodo.blk <| tR <| ARun.qv (q_addw rfl rfl) rfl <| rM rfl rfl <| rN <| ATodo.stop <| ?_
          obtain rfl := Option.some.inj h
          exact hJ1 _ _ rfl <| ImpX.lq [] rfl rfl rfl
    · refine have h := iteF hc h; ATodo.exit rfl <| have h := outL h hA1; tSR <| rA rfl rfl <| rN <| ATodo.ret <| ?_
      obtain rfl := Option.some.inj h
      exact ImpX.here ⟨_, .cons (.tmp _ _ rfl) .nil, rfl⟩

set_option maxHeartbeats 4000000 in
theorem twin_CheckProps_c {p0x0 : List PropS} {r : Int} (h : twin_CheckProps p0x0 = some r) : Pu Tryz.prog 108 [.list 5 (p0x0.map PropS.av)] (I r) := by
  unfold twin_CheckProps at h
  refine ACall.bodyN Tryz.func108 rfl Tryz.ntmps108 Tryz.results108 rfl rfl ?_
  refine tSR <| n_box rfl rfl rfl rfl fun b1 => rA rfl rfl <| rN <| tS <| tSR <| rL rfl rfl .p0 rfl rfl <| ARun.qv (t_len rfl) rfl <| ARun.qv (q_gtr rfl rfl) rfl <| rN <| ATodo.cond_d rfl (fun hc => ?_) (fun hc => ?_)
  · refine have h := iteT hc h; tSR <| rA rfl rfl <| rN <| ATodo.ret <| ?_
    obtain rfl := Option.some.inj h
    exact ImpX.here ⟨_, .cons (.tmp _ _ rfl) .nil, rfl⟩
  · refine have h := iteF hc h; tK <| tS <| tSR <| rL rfl rfl .p0 rfl rfl <| ARun.qv (t_len rfl) rfl <| rM rfl rfl <| rN <| ATodo.block <| ATodo.loopI (fun x : Int => twin_CheckProps_b1 p0x0 x) (fun x σ' => σ' = ⟨57, [(1, .ptr b1 0), (11, .list 5 (p0x0.map PropS.av)), (12, I (p0x0.length : Int)), (13, I x)], [(b1, .cells [.list 5 (p0x0.map PropS.av)])]⟩) h ?_ ?_
    · exact ImpX.lq [0] rfl rfl rfl
    · intro n3 z1 σ' J1 hmk h hJ1 hA1
      obtain rfl := hmk
      replace h : twin_CheckProps_b1 p0x0 n3 = some z1 := h
      unfold twin_CheckProps_b1 at h
      refine tSR <| ARun.qv (q_lss rfl rfl) rfl <| rN <| tS <| ATodo.cond_d rfl (fun hc => ?_) (fun hc => ?_)
      · refine have h := iteT hc h; tK <| tS <| ATodo.block <| tSR <| rM rfl rfl <| bndE h fun v4 e1 h => ARun.qv (t_index rfl rfl rfl e1 rfl rfl) rfl <| ARun.qv (q_load_rptr_agg rfl rfl rfl) rfl <| n_alloc rfl rfl rfl rfl fun b5 => rA rfl rfl <| n_store_ptr rfl rfl rfl rfl .p0 rfl rfl <| rN <| tS <| tSR <| rF rfl rfl rfl <| rL rfl rfl .p0 rfl rfl <| bndE h fun v6 e2 h => r_callp rfl (twin_isName_c e2) (CoL.refl _) rfl <| ARun.qv (q_not rfl) rfl <| rN <| ATodo.cond rfl (fun hc => ?_) (fun hc => ?_)
        · refine have h := iteT hc h; tSR <| rA rfl rfl <| rN <| ATodo.ret <| have h := outL h hA1; ?_
          obtain rfl := Option.some.inj h
          exact ImpX.here ⟨_, .cons (.tmp _ _ rfl) .nil, rfl⟩
        · refine have h := iteFb hc h; tK <| tS <| tSR <| rF rfl rfl rfl <| ARun.qv (n_load_ptr_part rfl rfl .p0 rfl rfl) rfl <| bndE h fun v7 e3 h => r_callp rfl (twin_valueFault_c e3) (CoL.refl _) rfl <| rA rfl rfl <| rN <| tSR <| rM rfl rfl <| ARun.qv (q_neq rfl rfl) rfl <| rN <| ATodo.cond_d rfl (fun hc => ?_) (fun hc => ?_)
          · refine have h := iteT hc h; tSR <| rM rfl rfl <| rA rfl rfl <| rN <| ATodo.ret <| have h := outL h hA1; ?_
            obtain rfl := Option.some.inj h
            exact ImpX.here ⟨_, .cons (.tmp _ _ rfl) .nil, rfl⟩
          · refine have h := iteF hc h; tK <| tS <| tSR <| rF rfl rfl rfl <| rF rfl rfl rfl <| rL rfl rfl .p0 rfl rfl <| ARun.qv (q_eql rfl rfl) rfl <| rN <| ATodo.cond_d rfl (fun hc => ?_) (fun hc => ?_)
            · refine have h := iteT hc h; tSR <| rA rfl rfl <| rN <| ATodo.ret <| have h := outL h hA1; ?_
              obtain rfl := Option.some.inj h
              exact ImpX.here ⟨_, .cons (.tmp _ _ rfl) .nil, rfl⟩
            · refine have h := iteF hc h; tK <| tS <| ATodo.cut (fun σ' => ∃ (c8 : Bool), twin_CheckProps_j1 n3 c8 = some z1 ∧ σ' = ⟨57, [(1, .ptr b1 0), (11, .list 5 (p0x0.map PropS.av)), (12, I (p0x0.length : Int)), (13, I n3), (44, .bool c8)], [(b1, .cells [.list 5 (p0x0.map PropS.av)])]⟩) ?_ ?_
              · refine ATodo.regionM (id := 13) (A := [0, 1, 3, 7, 15, 7, 7, 71, 231, 487, 999, 2047, 4095]) 13 mixed rfl (by kernel_rfl) (by kernel_rfl) <| AM.qv (q_move rfl) rfl <| AM.qv (q_gtr rfl rfl) rfl <| AM.qv (q_move rfl) rfl <| AM.guard_dt rfl rfl rfl (fun hc => ?_) (fun hc => ?_)
                · exact have h := iteT hc h; AM.qv (n_field_ptr rfl rfl) rfl <| AM.guard_yes rfl rfl rfl <| AM.qv (q_load_ptr rfl rfl .p0 rfl) rfl <| AM.guard_yes rfl rfl rfl <| AM.qv (q_load_ptr rfl rfl .p1 rfl) rfl <| AM.guard_yes rfl rfl rfl <| AM.qv (q_move rfl) rfl <| AM.guard_yes rfl rfl rfl <| AM.qv (q_subw rfl rfl) rfl <| AM.guard_yes rfl rfl rfl <| bndE h fun v9 e4 h => AM.qv (t_index rfl rfl rfl e4 rfl rfl) rfl <| AM.guard_yes rfl rfl rfl <| AM.qv (n_field_rptr rfl rfl) rfl <| AM.guard_yes rfl rfl rfl <| AM.qv (q_load_rptr rfl rfl rfl) rfl <| AM.guard_yes rfl rfl rfl <| AM.qv (t_sleq rfl rfl) rfl <| AM.qv (q_pick_t rfl rfl) rfl <| AM.nil <| rN <| ATodo.stop <| ImpX.lq [1] ⟨Op.bytesLess v4.Name v9.Name || v4.Name == v9.Name, h, rfl⟩ rfl rfl
                · exact have h := iteF hc h; AM.guard_no rfl rfl rfl rfl <| AM.guard_no rfl rfl rfl rfl <| AM.guard_no rfl rfl rfl rfl <| AM.guard_no rfl rfl rfl rfl <| AM.guard_no rfl rfl rfl rfl <| AM.guard_no rfl rfl rfl rfl <| AM.guard_no rfl rfl rfl rfl <| AM.guard_no rfl rfl rfl rfl <| AM.qv (q_pick_f rfl rfl) rfl <| AM.nil <| rN <| ATodo.stop <| ImpX.lq [1] ⟨false, h, rfl⟩ rfl rfl
              · rintro σ' ⟨c8, h, rfl⟩
                unfold twin_CheckProps_j1 at h
                refine ATodo.cond rfl (fun hc => ?_) (fun hc => ?_)
                · refine have h := iteT hc h; tSR <| rA rfl rfl <| rN <| ATodo.ret <| have h := outL h hA1; ?_
                  obtain rfl := Option.some.inj h
                  exact ImpX.here ⟨_, .cons (.tmp _ _ rfl) .nil, rfl⟩
                · refine have h := iteFb hc h; tK <| ATodo.blk <| tR <| ARun.qv (q_addw rfl rfl) rfl <| rM rfl rfl <| rN <| ATodo.stop <| ?_
                  obtain rfl := Option.some.inj h
                  exact hJ1 _ _ rfl <| ImpX.lq [0] rfl rfl rfl
      · refine have h := iteF hc h; ATodo.exit rfl <| have h := outL h hA1; tS <| tSR <| rL rfl rfl .p0 rfl rfl <| ARun.qv (t_len rfl) rfl <| rM rfl rfl <| rN <| ATodo.block <| ATodo.loopI (fun x : Int => twin_CheckProps_b2 p0x0 x) (fun x σ' => σ' = ⟨57, [(1, .ptr b1 0), (46, .list 5 (p0x0.map PropS.av)), (47, I (p0x0.length : Int)), (48, I x)], [(b1, .cells [.list 5 (p0x0.map PropS.av)])]⟩) h ?_ ?_
        · exact ImpX.lq [0] rfl rfl rfl
        · intro n11 z2 σ' J2 hmk h hJ2 hA2
          obtain rfl := hmk
          replace h : twin_CheckProps_b2 p0x0 n11 = some z2 := h
          unfold twin_CheckProps_b2 at h
          refine tSR <| ARun.qv (q_lss rfl rfl) rfl <| rN <| tS <| ATodo.cond_d rfl (fun hc => ?_) (fun hc => ?_)
          · refine have h := iteT hc h; tK <| tS <| ATodo.block <| tSR <| bndE h fun v12 e5 h => ARun.qv (t_index rfl rfl rfl e5 rfl rfl) rfl <| ARun.qv (q_load_rptr_agg rfl rfl rfl) rfl <| n_alloc rfl rfl rfl rfl fun b13 => n_store_ptr rfl rfl rfl rfl .p0 rfl rfl <| rN <| tSR <| rF rfl rfl rfl <| rL rfl rfl .p0 rfl rfl <| ARun.qv (q_makeFunc rfl) rfl <| bndE h fun v14 e6 h => r_callpB rfl (twin_above_c (fun e => twin_CheckProps_1x_c e) e6) (.cons (.co (.refl _)) (.cons (.funcL _ _ _ (.cons (.boxL _ _ _ .p1 (.cons (.co (.refl _)) .nil)) .nil)) .nil)) rfl rfl <| rN <| ATodo.cond rfl (fun hc => ?_) (fun hc => ?_)
            · refine have h := iteT hc h; tSR <| rA rfl rfl <| rN <| ATodo.ret <| have h := outL h hA2; ?_
              obtain rfl := Option.some.inj h
              exact ImpX.here ⟨_, .cons (.tmp _ _ rfl) .nil, rfl⟩
            · refine have h := iteFb hc h; tK <| ATodo.blk <| tR <| ARun.qv (q_addw rfl rfl) rfl <| rM rfl rfl <| rN <| ATodo.stop <| ?_
              obtain rfl := Option.some.inj h
              exact hJ2 _ _ rfl <| ImpX.lq [1] rfl rfl rfl
          · refine have h := iteF hc h; ATodo.exit rfl <| have h := outL h hA2; tSR <| rA rfl rfl <| rN <| ATodo.ret <| ?_
            obtain rfl := Option.some.inj h
            exact ImpX.here ⟨_, .cons (.tmp _ _ rfl) .nil, rfl⟩

set_option maxHeartbeats 4000000 in
theorem slices_Sort_string_string_k : Sort1 Tryz.prog 124 (fun l => Value.string ⟨l.toArray⟩) srtS := ⟨fun blk off cap zs w hH hb hs => Tryz.slices_Sort_string blk off cap zs w hH hb hs, fun p cap w => Tryz.slices_Sort_string_none p cap w⟩
theorem slices_Sort_string_string_c [GI : GTab] {b_0 : Bk} {p0x0 : List Str} {r : (List Str)} (h : slices_Sort_string_string p0x0 = some r) : ACall Tryz.prog 124 [.sl 1 b_0 0 p0x0.length] [(b_0, .arr 1 (p0x0.map AV.str))] (T0 [(b_0, .arr 1 (r.map AV.str))] (.tup [])) :=
  sort1_acall slices_Sort_string_string_k (g := AV.str) (fun h => h.str_inv) (fun w S x => .str _) (fun _ => rfl) (fun xs => List.length_mergeSort _) (fun _ => rfl) h

set_option maxHeartbeats 4000000 in
theorem slices_Compact_string_string_c [GI : GTab] {b_0 : Bk} {p0x0 : List Str} {r : (List Str)} (h : slices_Compact_string_string p0x0 = some r) : ACall Tryz.prog 125 [.sl 1 b_0 0 p0x0.length] [(b_0, .arr 1 (p0x0.map AV.str))] (T1 (fun d_0 => [(d_0, .arr 1 (r.map AV.str))]) (fun d_0 => .sl 1 d_0 0 r.length)) := by
  unfold slices_Compact_string_string at h
  refine ACall.lessH ?_
  refine ACall.bodyN Tryz.func125 rfl Tryz.ntmps125 Tryz.results125 rfl rfl ?_
  refine tSR <| rA rfl rfl <| rN <| tS <| tSR <| rM rfl rfl <| ARun.qv (t_len_sl rfl) rfl <| ARun.qv (q_lss rfl rfl) rfl <| rN <| ATodo.cond_d rfl (fun hc => ?_) (fun hc => ?_)
  · refine have h := iteT hc h; tSR <| rM rfl rfl <| rA rfl rfl <| rN <| ATodo.ret <| ?_
    obtain rfl := Option.some.inj h
    exact ImpX.here ⟨_, .cons (.tmp _ _ rfl) .nil, _, .cons .p0 .nil, ⟨b_0, rfl, rfl⟩⟩
  · refine have h := iteF hc h; tK <| tS <| tSR <| rA rfl rfl <| rN <| ATodo.block <| ATodo.loopI (fun x : Int => slices_Compact_string_string_b1 p0x0 x) (fun x σ' => σ' = ⟨61, [(0, .sl 1 b_0 0 p0x0.length), (3, I x)], [(b_0, .arr 1 (p0x0.map AV.str))]⟩) h ?_ ?_
    · exact ImpX.lq [0] rfl rfl rfl
    · intro n2 z1 σ' J1 hmk h hJ1 hA1
      obtain rfl := hmk
      replace h : slices_Compact_string_string_b1 p0x0 n2 = some z1 := h
      unfold slices_Compact_string_string_b1 at h
      refine tS <| tSR <| rM rfl rfl <| rM rfl rfl <| ARun.qv (t_len_sl rfl) rfl <| ARun.qv (q_lss rfl rfl) rfl <| rN <| ATodo.cond_d rfl (fun hc => ?_) (fun hc => ?_)
      · refine have h := iteT hc h; tK <| tS <| ATodo.block <| tS <| ATodo.regionM (id := 6) (A := [0, 0, 3, 7, 0, 0, 32, 112, 240, 511]) 10 mixed rfl (by kernel_rfl) (by kernel_rfl) <| AM.qv (q_move rfl) rfl <| AM.qv (q_move rfl) rfl <| bndE h fun v3 e1 h => AM.qv (t_index_sl rfl rfl rfl e1) rfl <| AM.qv (t_load_aptr (g := AV.str) rfl rfl (.inl .p0) e1 rfl) rfl <| AM.qv (q_move rfl) rfl <| AM.qv (q_move rfl) rfl <| AM.qv (q_subw rfl rfl) rfl <| bndE h fun v4 e2 h => AM.qv (t_index_sl rfl rfl rfl e2) rfl <| AM.qv (t_load_aptr (g := AV.str) rfl rfl (.inl .p0) e2 rfl) rfl <| AM.qv (q_seq rfl rfl) rfl <| AM.nil <| rN <| ATodo.cond_d rfl (fun hc => ?_) (fun hc => ?_)
        · refine have h := iteT hc h; tSR <| rM rfl rfl <| rM rfl rfl <| bndE h fun l5 e3 h => ARun.qv (t_slice_sl rfl rfl (.some _ _ _ rfl) .none rfl rfl e3) rfl <| rA rfl rfl <| rN <| tS <| tSR <| rA rfl rfl <| rN <| ATodo.block <| ATodo.loopI (fun x : (List Str) × Int × Int => slices_Compact_string_string_b2 n2 l5 x.1 x.2.1 x.2.2) (fun x σ' => σ' = ⟨61, [(0, .sl 1 b_0 0 x.1.length), (3, I x.2.1), (4, .sl 1 b_0 n2.toNat l5.length), (5, I x.2.2)], [(b_0, .arr 1 (x.1.map AV.str))]⟩) h ?_ ?_
          · exact ImpX.lq [0] rfl rfl rfl
          · intro x z2 σ' J2 hmk h hJ2 hA2
            obtain ⟨l9, n10, n11⟩ := x
            obtain rfl := hmk
            replace h : slices_Compact_string_string_b2 n2 l5 l9 n10 n11 = some z2 := h
            unfold slices_Compact_string_string_b2 at h
            refine tS <| tSR <| rM rfl rfl <| rM rfl rfl <| ARun.qv (t_len_sub rfl) rfl <| ARun.qv (q_lss rfl rfl) rfl <| rN <| ATodo.cond_d rfl (fun hc => ?_) (fun hc => ?_)
            · refine have h := iteT hc h; tK <| tS <| ATodo.block <| tS <| ATodo.regionM (id := 11) (A := [0, 0, 3, 7, 0, 0, 32, 112, 240, 511]) 10 mixed rfl (by kernel_rfl) (by kernel_rfl) <| AM.qv (q_move rfl) rfl <| AM.qv (q_move rfl) rfl <| bndE h fun v12 e4 h => AM.qv (t_index_sub (L := n2) rfl rfl rfl e4) rfl <| AM.qv (t_load_aptr (g := AV.str) rfl rfl (.inl .p0) (idxS_some e4).2 rfl) rfl <| AM.qv (q_move rfl) rfl <| AM.qv (q_move rfl) rfl <| AM.qv (q_subw rfl rfl) rfl <| bndE h fun v13 e5 h => AM.qv (t_index_sub (L := n2) rfl rfl rfl e5) rfl <| AM.qv (t_load_aptr (g := AV.str) rfl rfl (.inl .p0) (idxS_some e5).2 rfl) rfl <| AM.qv (q_sne rfl rfl) rfl <| AM.nil <| rN <| ATodo.cut (fun σ' => ∃ (l14 : List Str) (n15 : Int), slices_Compact_string_string_j1 n11 l14 n15 = some z2 ∧ σ' = ⟨61, [(0, .sl 1 b_0 0 l14.length), (3, I n15), (4, .sl 1 b_0 n2.toNat l5.length), (5, I n11)], [(b_0, .arr 1 (l14.map AV.str))]⟩) ?_ ?_
              · refine ATodo.cond_d rfl (fun hc => ?_) (fun hc => ?_)
                · exact have h := iteT hc h; tSR <| rM rfl rfl <| rM rfl rfl <| rM rfl rfl <| rM rfl rfl <| bndE h fun v16 e6 h => ARun.qv (t_index_sub (L := n2) rfl rfl rfl e6) rfl <| ARun.qv (t_load_aptr (g := AV.str) rfl rfl (.inl .p0) (idxS_some e6).2 rfl) rfl <| bndE h fun v17 e7 h => ARun.qv (t_index_sl rfl rfl rfl e7) rfl <| t_store_aptr1 (g := AV.str) (el' := v16) rfl rfl rfl rfl e7 rfl .p0 rfl <| ARun.ghost <| ImpX.eqs (s := 0) (av' := .sl 1 b_0 0 (l9.set n10.toNat v16).length) rfl (by rw [List.length_set]) <| ImpX.here <| ARun.ghost <| ImpX.eqs (s := 45) (av' := .sl 1 b_0 0 (l9.set n10.toNat v16).length) rfl (by rw [List.length_set]) <| ImpX.here <| rN <| tR <| rM rfl rfl <| ARun.qv (q_addw rfl rfl) rfl <| rA rfl rfl <| rN <| ATodo.stop <| ImpX.lq [0] ⟨l9.set n10.toNat v16, w64 (n10 + (1 : Int)), h, rfl⟩ rfl rfl
                · exact have h := iteF hc h; tK <| ATodo.stop <| ImpX.lq [0] ⟨l9, n10, h, rfl⟩ rfl rfl
              · rintro σ' ⟨l14, n15, h, rfl⟩
                unfold slices_Compact_string_string_j1 at h
                refine ATodo.blk <| tR <| rM rfl rfl <| ARun.qv (q_addw rfl rfl) rfl <| rA rfl rfl <| rN <| ATodo.stop <| ?_
                obtain rfl := Option.some.inj h
                exact hJ2 _ _ rfl <| ImpX.lq [0] rfl rfl rfl
            · refine have h := iteF hc h; ATodo.exit rfl <| have h := outL h hA2; ?_
              unfold slices_Compact_string_string_k2 at h
              refine tSR <| rM rfl rfl <| rM rfl rfl <| bndE h fun l18 e8 h => ARun.qv (t_slice_sl rfl rfl (.some _ _ _ rfl) .none rfl rfl e8) rfl <| t_clear (g := AV.str) (Z := []) (L := n10) rfl rfl rfl rfl rfl rfl e8 .p0 <| ARun.ghost <| ImpX.eqs (s := 0) (av' := .sl 1 b_0 0 (clr l9 n10 l18.length []).length) rfl (congrArg (AV.sl 1 b_0 0) (clr_len e8)) <| ImpX.here <| ARun.ghost <| ImpX.eqs (s := 54) (av' := .sl 1 b_0 0 (clr l9 n10 l18.length []).length) rfl (congrArg (AV.sl 1 b_0 0) (clr_len e8)) <| ImpX.here <| rN <| tSR <| rM rfl rfl <| rM rfl rfl <| bndE h fun l19 e9 h => ARun.qv (t_slice_sl rfl rfl .none (.some _ _ _ rfl) rfl rfl e9) rfl <| rA rfl rfl <| ARun.ghost <| ImpX.takeT e9 .p0 <| ImpX.here <| rN <| ATodo.ret <| have h := outL h hA1; ?_
              obtain rfl := Option.some.inj h
              exact ImpX.here ⟨_, .cons (.tmp _ _ rfl) .nil, _, .cons .p0 .nil, ⟨b_0, rfl, rfl⟩⟩
        · refine have h := iteF hc h; tK <| ATodo.blk <| tR <| rM rfl rfl <| ARun.qv (q_addw rfl rfl) rfl <| rA rfl rfl <| rN <| ATodo.stop <| ?_
          obtain rfl := Option.some.inj h
          exact hJ1 _ _ rfl <| ImpX.lq [0] rfl rfl rfl
      · refine have h := iteF hc h; ATodo.exit rfl <| have h := outL h hA1; tSR <| rM rfl rfl <| rA rfl rfl <| rN <| ATodo.ret <| ?_
        obtain rfl := Option.some.inj h
        exact ImpX.here ⟨_, .cons (.tmp _ _ rfl) .nil, _, .cons .p0 .nil, ⟨b_0, rfl, rfl⟩⟩

set_option maxHeartbeats 4000000 in
theorem twin_names_c [GI : GTab] {p0x0 : List (List PropS)} {r : (List Str)} (h : twin_names p0x0 = some r) : ACall Tryz.prog 76 [.list 1 (p0x0.map (encL 5 PropS.av))] [] (T1 (fun d_0 => [(d_0, .arr 1 (r.map AV.str))]) (fun d_0 => .sl 1 d_0 0 r.length)) := by
  unfold twin_names at h
  refine ACall.lessH ?_
  refine ACall.bodyN Tryz.func76 rfl Tryz.ntmps76 Tryz.results76 rfl rfl ?_
  refine tSR <| rA rfl rfl <| rN <| tSR <| rA rfl rfl <| rN <| tS <| tSR <| rM rfl rfl <| ARun.qv (t_len rfl) rfl <| rM rfl rfl <| rN <| ATodo.block <| ATodo.loopI (fun x : (List Str) × Int => twin_names_b1 p0x0 x.1 x.2) (fun x σ' => ∃ (b4 : Bk), σ' = ⟨31, [(3, .sl 1 b4 0 x.1.length), (8, .list 1 (p0x0.map (encL 5 PropS.av))), (9, I (p0x0.length : Int)), (10, I x.2)], [(b4, .arr 1 (x.1.map AV.str))]⟩) h ?_ ?_
  · exact ImpX.arr (s := 3) 1 rfl fun b7 => ImpX.lq [0] ⟨b7, rfl⟩ rfl rfl
  · intro x z1 σ' J1 hmk h hJ1 hA1
    obtain ⟨l5, n6⟩ := x
    obtain ⟨b4, rfl⟩ := hmk
    replace h : twin_names_b1 p0x0 l5 n6 = some z1 := h
    unfold twin_names_b1 at h
    refine tSR <| ARun.qv (q_lss rfl rfl) rfl <| rN <| tS <| ATodo.cond_d rfl (fun hc => ?_) (fun hc => ?_)
    · refine have h := iteT hc h; tK <| tS <| ATodo.block <| tSR <| bndE h fun v8 e1 h => ARun.qv (t_index rfl rfl rfl e1 rfl rfl) rfl <| ARun.qv (q_load_rptr rfl rfl rfl) rfl <| rA rfl rfl <| rN <| tSR <| rM rfl rfl <| ARun.qv (t_len rfl) rfl <| rM rfl rfl <| rN <| ATodo.block <| ATodo.loopI (fun x : (List Str) × Int => twin_names_b2 n6 v8 x.1 x.2) (fun x σ' => ∃ (b12 : Bk), σ' = ⟨31, [(3, .sl 1 b12 0 x.1.length), (8, .list 1 (p0x0.map (encL 5 PropS.av))), (9, I (p0x0.length : Int)), (10, I n6), (14, .list 5 (v8.map PropS.av)), (15, I (v8.length : Int)), (16, I x.2)], [(b12, .arr 1 (x.1.map AV.str))]⟩) h ?_ ?_
      · exact ImpX.lq [0] ⟨b4, rfl⟩ rfl rfl
      · intro x z2 σ' J2 hmk h hJ2 hA2
        obtain ⟨l13, n14⟩ := x
        obtain ⟨b12, rfl⟩ := hmk
        replace h : twin_names_b2 n6 v8 l13 n14 = some z2 := h
        unfold twin_names_b2 at h
        refine tSR <| ARun.qv (q_lss rfl rfl) rfl <| rN <| tS <| ATodo.cond_d rfl (fun hc => ?_) (fun hc => ?_)
        · refine have h := iteT hc h; tK <| tS <| ATodo.block <| tSR <| bndE h fun v15 e2 h => ARun.qv (t_index rfl rfl rfl e2 rfl rfl) rfl <| ARun.qv (q_load_rptr_agg rfl rfl rfl) rfl <| n_alloc rfl rfl rfl rfl fun b16 => n_store_ptr rfl rfl rfl rfl .p0 rfl rfl <| rN <| tR <| rM rfl rfl <| rF rfl rfl rfl <| rL rfl rfl .p0 rfl rfl <| n_buildSliceL (xs := ([v15.Name] : List Str).map AV.str) rfl rfl rfl rfl rfl rfl <| bndE h fun l17 e3 h => t_append (g := AV.str) rfl rfl rfl rfl rfl rfl rfl rfl (.list _) e3 (fun _ => .p1) rfl fun b18 => rA rfl rfl <| rN <| ATodo.blk <| tR <| ARun.qv (q_addw rfl rfl) rfl <| rM rfl rfl <| rN <| ATodo.stop <| ?_
          obtain rfl := Option.some.inj h
          exact hJ2 _ _ rfl <| ImpX.lq [1] ⟨b18, rfl⟩ rfl rfl
        · refine have h := iteF hc h; ATodo.exit rfl <| have h := outL h hA2; ATodo.blk <| tR <| ARun.qv (q_addw rfl rfl) rfl <| rM rfl rfl <| rN <| ATodo.stop <| ?_
          obtain rfl := Option.some.inj h
          exact hJ1 _ _ rfl <| ImpX.lq [0] ⟨b12, rfl⟩ rfl rfl
    · refine have h := iteF hc h; ATodo.exit rfl <| have h := outL h hA1; ?_
      unfold twin_names_k1 at h
      refine tSR <| rM rfl rfl <| bndE h fun v19 e4 h => t_call0 rfl (slices_Sort_string_string_c (lenOk_f e4)) (CoL.refl _) (.cons .p0 .nil) rfl rfl <| ARun.ghost <| ImpX.eqs (s := 3) (av' := .sl 1 b4 0 v19.length) rfl (congrArg (AV.sl 1 b4 0) (lenOk_l e4)) <| ImpX.here <| ARun.ghost <| ImpX.eqs (s := 27) (av' := .sl 1 b4 0 v19.length) rfl (congrArg (AV.sl 1 b4 0) (lenOk_l e4)) <| ImpX.here <| rN <| tSR <| rM rfl rfl <| bndE h fun v20 e5 h => t_call1 rfl (slices_Compact_string_string_c e5) (CoL.refl _) (.cons .p0 .nil) (fun _ => rfl) rfl fun b21 => rA rfl rfl <| rN <| ATodo.ret <| ?_
      obtain rfl := Option.some.inj h
      exact ImpX.here ⟨_, .cons (.tmp _ _ rfl) .nil, _, .cons .p0 .nil, ⟨b21, rfl, rfl⟩⟩

set_option maxHeartbeats 4000000 in
theorem twin_valueOf_c [GI : GTab] {p0x0 : List PropS} {p1x0 : Str} {r : ValueS} (h : twin_valueOf p0x0 p1x0 = some r) : Pu Tryz.prog 77 [.list 5 (p0x0.map PropS.av), .str p1x0] (.agg [I r.Kind, .bool r.Flag, I r.Number, .str r.Words]) := by
  unfold twin_valueOf at h
  refine ACall.bodyN Tryz.func77 rfl Tryz.ntmps77 Tryz.results77 rfl rfl ?_
  refine tSR <| n_alloc rfl rfl rfl rfl fun b1 => rN <| tS <| tSR <| rM rfl rfl <| rM rfl rfl <| bndE h fun v2 e1 h => r_callp rfl (twin_find_c e1) (CoL.refl _) rfl <| rA rfl rfl <| rN <| tSR <| rM rfl rfl <| ARun.qv (q_geq rfl rfl) rfl <| rN <| ATodo.cond_d rfl (fun hc => ?_) (fun hc => ?_)
  · refine have h := iteT hc h; tSR <| rM rfl rfl <| rM rfl rfl <| bndE h fun v3 e2 h => ARun.qv (t_index rfl rfl rfl e2 rfl rfl) rfl <| ARun.qv (n_field_rptr rfl rfl) rfl <| ARun.qv (q_load_rptr_agg rfl rfl rfl) rfl <| n_store_ptr rfl rfl rfl rfl .p0 rfl rfl <| rN <| ATodo.ret <| ?_
    obtain rfl := Option.some.inj h
    exact ImpX.here ⟨_, .cons (.all _ _ _ _ _ _ rfl .p0 TUnder.h TInfo.h rfl rfl) .nil, rfl⟩
  · refine have h := iteF hc h; tK <| tSR <| ARun.qv (n_build rfl rfl rfl rfl rfl) rfl <| n_store_ptr rfl rfl rfl rfl .p0 rfl rfl <| rN <| ATodo.ret <| ?_
    obtain rfl := Option.some.inj h
    exact ImpX.here ⟨_, .cons (.all _ _ _ _ _ _ rfl .p0 TUnder.h TInfo.h rfl rfl) .nil, rfl⟩

set_option maxHeartbeats 4000000 in
theorem twin_Differ_c {p0x0 : List PropS} {p1x0 : List PropS} {r : (List Change) × Int} (h : twin_Differ p0x0 p1x0 = some r) : ACall Tryz.prog 58 [.list 5 (p0x0.map PropS.av), .list 5 (p1x0.map PropS.av)] [] (T1 (fun d_0 => [(d_0, .arr 9 (r.1.map Change.av))]) (fun d_0 => .tup [.sl 9 d_0 0 r.1.length, I r.2])) := by
  unfold twin_Differ at h
  refine ACall.lessH ?_
  refine ACall.bodyN Tryz.func58 rfl Tryz.ntmps58 Tryz.results58 rfl rfl ?_
  refine tSR <| rA rfl rfl <| rA rfl rfl <| rN <| tS <| tSR <| rM rfl rfl <| bndE h fun v1 e1 h => r_callp rfl (twin_CheckProps_c e1) (CoL.refl _) rfl <| rM rfl rfl <| bndE h fun v2 e2 h => r_callp rfl (twin_CheckProps_c e2) (CoL.refl _) rfl <| n_buildSliceL (xs := ([v1, v2] : List Int).map I) rfl rfl rfl rfl rfl rfl <| bndE h fun v3 e3 h => r_callp rfl (base_First_c e3) (CoL.refl _) rfl <| rA rfl rfl <| rN <| tSR <| rM rfl rfl <| ARun.qv (q_neq rfl rfl) rfl <| rN <| ATodo.cond_d rfl (fun hc => ?_) (fun hc => ?_)
  · refine have h := iteT hc h; tSR <| rM rfl rfl <| rA rfl rfl <| rA rfl rfl <| rN <| ATodo.ret <| ?_
    obtain rfl := Option.some.inj h
    exact ImpX.arr (s := 4) 9 rfl fun b4 => ImpX.here ⟨_, .cons (.tmp _ _ rfl) (.cons (.tmp _ _ rfl) .nil), _, .cons .p0 .nil, ⟨b4, rfl, rfl⟩⟩
  · refine have h := iteF hc h; tK <| tSR <| rA rfl rfl <| rN <| tS <| tSR <| rM rfl rfl <| rM rfl rfl <| n_buildSliceL (xs := ([p0x0, p1x0] : List (List PropS)).map (encL 5 PropS.av)) rfl rfl rfl rfl rfl rfl <| bndE h fun v5 e4 h => t_call1 rfl (twin_names_c e4) (CoL.refl _) .nil (fun _ => rfl) rfl fun b6 => ARun.qv (t_len_sl rfl) rfl <| rM rfl rfl <| rN <| ATodo.block <| ATodo.loopI (fun x : (List Change) × Int => twin_Differ_b1 p0x0 p1x0 v5 x.1 x.2) (fun x σ' => ∃ (b10 : Bk), σ' = ⟨48, [(0, .list 5 (p0x0.map PropS.av)), (1, .list 5 (p1x0.map PropS.av)), (7, .sl 9 b10 0 x.1.length), (24, .sl 1 b6 0 v5.length), (25, I (v5.length : Int)), (26, I x.2)], [(b10, .arr 9 (x.1.map Change.av)), (b6, .arr 1 (v5.map AV.str))]⟩) h ?_ ?_
    · exact ImpX.arr (s := 7) 9 rfl fun b13 => ImpX.lq [0, 0] ⟨b13, rfl⟩ rfl rfl
    · intro x z1 σ' J1 hmk h hJ1 hA1
      obtain ⟨l11, n12⟩ := x
      obtain ⟨b10, rfl⟩ := hmk
      replace h : twin_Differ_b1 p0x0 p1x0 v5 l11 n12 = some z1 := h
      unfold twin_Differ_b1 at h
      refine tSR <| ARun.qv (q_lss rfl rfl) rfl <| rN <| tS <| ATodo.cond_d rfl (fun hc => ?_) (fun hc => ?_)
      · refine have h := iteT hc h; tK <| tS <| ATodo.block <| tSR <| bndE h fun v14 e5 h => ARun.qv (t_index_sl rfl rfl rfl e5) rfl <| ARun.qv (t_load_aptr (g := AV.str) rfl rfl (.inl .p1) e5 rfl) rfl <| rA rfl rfl <| rN <| tSR <| rM rfl rfl <| rM rfl rfl <| bndE h fun v15 e6 h => r_callp rfl (twin_valueOf_c e6) (CoL.refl _) rfl <| rM rfl rfl <| rM rfl rfl <| bndE h fun v16 e7 h => r_callp rfl (twin_valueOf_c e7) (CoL.refl _) rfl <| n_alloc rfl rfl rfl rfl fun b17 => n_alloc rfl rfl rfl rfl fun b18 => n_store_ptr rfl rfl rfl rfl .p1 rfl rfl <| n_store_ptr rfl rfl rfl rfl .p0 rfl rfl <| rN <| tSR <| ARun.qv (q_load_ptr_all rfl rfl .p1 rfl) rfl <| ARun.qv (q_load_ptr_all rfl rfl .p0 rfl) rfl <| ARun.qv (t_tne (g := ValueS.av) (X := v15) (Y := v16) rfl rfl rfl rfl rfl) rfl <| rN <| ATodo.cut (fun σ' => ∃ (b19 : Bk) (l20 : List Change), twin_Differ_j1 n12 l20 = some z1 ∧ σ' = ⟨48, [(0, .list 5 (p0x0.map PropS.av)), (1, .list 5 (p1x0.map PropS.av)), (7, .sl 9 b19 0 l20.length), (24, .sl 1 b6 0 v5.length), (25, I (v5.length : Int)), (26, I n12)], [(b19, .arr 9 (l20.map Change.av)), (b6, .arr 1 (v5.map AV.str))]⟩) ?_ ?_
        · refine ATodo.cond_d rfl (fun hc => ?_) (fun hc => ?_)
          · exact have h := iteT hc h; tR <| rM rfl rfl <| rM rfl rfl <| ARun.qv (q_load_ptr_all rfl rfl .p1 rfl) rfl <| ARun.qv (q_load_ptr_all rfl rfl .p0 rfl) rfl <| ARun.qv (n_build rfl rfl rfl rfl rfl) rfl <| n_buildSliceL (xs := ([(⟨v14, v15, v16⟩ : Change)]).map Change.av) rfl rfl rfl rfl rfl rfl <| bndE h fun l21 e8 h => t_append (g := Change.av) rfl rfl rfl rfl rfl rfl rfl rfl (.list _) e8 (fun _ => .p2) rfl fun b22 => rA rfl rfl <| rN <| ATodo.stop <| ImpX.lq [2, 2] ⟨b22, l21, h, rfl⟩ rfl rfl
          · exact have h := iteF hc h; tK <| ATodo.stop <| ImpX.lq [2, 2] ⟨b10, l11, h, rfl⟩ rfl rfl
        · rintro σ' ⟨b19, l20, h, rfl⟩
          unfold twin_Differ_j1 at h
          refine ATodo.blk <| tR <| ARun.qv (q_addw rfl rfl) rfl <| rM rfl rfl <| rN <| ATodo.stop <| ?_
          obtain rfl := Option.some.inj h
          exact hJ1 _ _ rfl <| ImpX.lq [0, 0] ⟨b19, rfl⟩ rfl rfl
      · refine have h := iteF hc h; ATodo.exit rfl <| have h := outL h hA1; tSR <| rM rfl rfl <| rA rfl rfl <| rA rfl rfl <| rN <| ATodo.ret <| ?_
        obtain rfl := Option.some.inj h
        exact ImpX.here ⟨_, .cons (.tmp _ _ rfl) (.cons (.tmp _ _ rfl) .nil), _, .cons .p0 .nil, ⟨b10, rfl, rfl⟩⟩

set_option maxHeartbeats 4000000 in
theorem L_twinned_c {r : Bool} (h : L_twinned = some r) : Pu Tryz.prog 17 [] (.bool r) := by
  unfold L_twinned at h
  refine ACall.bodyN Tryz.func17 rfl Tryz.ntmps17 Tryz.results17 rfl rfl ?_
  refine tSR <| rA rfl rfl <| rN <| tSR <| ARun.qv (n_build rfl rfl rfl rfl rfl) rfl <| ARun.qv (n_build rfl rfl rfl rfl rfl) rfl <| n_buildSliceL (xs := ([(⟨([97] : Str), (⟨(1 : Int), false, (0 : Int), []⟩ : ValueS)⟩ : PropS)]).map PropS.av) rfl rfl rfl rfl rfl rfl <| bndE h fun v1 e1 h => t_call1 rfl (twin_Differ_c e1) (.cons (.nil _) (.cons (.refl _) .nil)) .nil (fun _ => rfl) rfl fun b2 => rM rfl rfl <| rX rfl rfl rfl <| rX rfl rfl rfl <| rA rfl rfl <| rA rfl rfl <| rN <| tS <| ATodo.cut (fun σ' => ∃ (c3 : Bool), L_twinned_j1 c3 = some r ∧ σ' = ⟨24, [(0, .bool c3)], []⟩) ?_ ?_
  · refine tR <| rM rfl rfl <| ARun.qv (q_eql rfl rfl) rfl <| rM rfl rfl <| ARun.guard_dt rfl rfl rfl (fun hc => ?_) (fun hc => ?_)
    · refine have h := iteT hc h; rM rfl rfl <| rY rfl rfl rfl <| ARun.qv (t_len_sl rfl) rfl <| rY rfl rfl rfl <| ARun.qv (q_eql rfl rfl) rfl <| rT rfl rfl rfl <| rM rfl rfl <| ARun.guard_dt rfl rfl rfl (fun hc => ?_) (fun hc => ?_)
      · exact have h := iteT hc h; rM rfl rfl <| rY rfl rfl rfl <| bndE h fun v4 e2 h => ARun.qv (t_index_sl rfl rfl rfl e2) rfl <| rY rfl rfl rfl <| ARun.qv (t_field_aptr rfl rfl) rfl <| rY rfl rfl rfl <| ARun.qv (t_load_aptr (g := Change.av) rfl rfl (.inl .p0) e2 rfl) rfl <| rY rfl rfl rfl <| ARun.qv (q_seq rfl rfl) rfl <| rT rfl rfl rfl <| rA rfl rfl <| rN <| ATodo.stop <| ImpX.lq [] ⟨decide (v4.Name = ([97] : Str)), h, rfl⟩ rfl rfl
      · exact have h := iteF hc h; rG rfl rfl rfl rfl <| rG rfl rfl rfl rfl <| rG rfl rfl rfl rfl <| rG rfl rfl rfl rfl <| rE rfl rfl rfl <| rA rfl rfl <| rN <| ATodo.stop <| ImpX.lq [] ⟨false, h, rfl⟩ rfl rfl
    · exact have h := iteF hc h; rG rfl rfl rfl rfl <| rG rfl rfl rfl rfl <| rE rfl rfl rfl <| rM rfl rfl <| rG rfl rfl rfl rfl <| rG rfl rfl rfl rfl <| rG rfl rfl rfl rfl <| rG rfl rfl rfl rfl <| rG rfl rfl rfl rfl <| rE rfl rfl rfl <| rA rfl rfl <| rN <| ATodo.stop <| ImpX.lq [] ⟨false, h, rfl⟩ rfl rfl
  · rintro σ' ⟨c3, h, rfl⟩
    unfold L_twinned_j1 at h
    refine ATodo.ret <| ?_
    obtain rfl := Option.some.inj h
    exact ImpX.here ⟨_, .cons (.tmp _ _ rfl) .nil, rfl⟩

set_option maxHeartbeats 4000000 in
theorem L_CellsMerge_c {p0x0 : List Int} {r : Bool} (h : L_CellsMerge p0x0 = some r) : Pu Tryz.prog 4 [.list 1 (p0x0.map I)] (.bool r) := by
  unfold L_CellsMerge at h
  refine ACall.bodyN Tryz.func4 rfl Tryz.ntmps4 Tryz.results4 rfl rfl ?_
  refine tSR <| rA rfl rfl <| rN <| tSR <| rM rfl rfl <| ARun.qv (n_build rfl rfl rfl rfl rfl) rfl <| n_box rfl rfl rfl rfl fun b1 => rA rfl rfl <| rN <| tSR <| rM rfl rfl <| bndE h fun v2 e1 h => t_call1 rfl (Stream_Cells_c e1) (CoL.refl _) (.cons .p0 .nil) (fun _ => rfl) rfl fun b3 => rM rfl rfl <| bndE h fun v4 e2 h => t_call1 rfl (Stream_Cells_c e2) (CoL.refl _) (.cons .p0 .nil) (fun _ => rfl) rfl fun b5 => rM rfl rfl <| bndE h fun v6 e3 h => t_call0 rfl (Stream_PropName_c e3) (CoL.refl _) (.cons .p0 .nil) rfl rfl <| rM rfl rfl <| bndE h fun v7 e4 h => t_call0 rfl (Stream_Value_c e4) (CoL.refl _) (.cons .p0 .nil) rfl rfl <| rM rfl rfl <| bndE h fun v8 e5 h => t_call0 rfl (Stream_Stamp_c e5) (CoL.refl _) (.cons .p0 .nil) rfl rfl <| n_alloc rfl rfl rfl rfl fun b9 => n_alloc rfl rfl rfl rfl fun b10 => n_alloc rfl rfl rfl rfl fun b11 => n_store_ptr rfl rfl rfl rfl .p2 rfl rfl <| rA rfl rfl <| rA rfl rfl <| n_store_ptr rfl rfl rfl rfl .p1 rfl rfl <| n_store_ptr rfl rfl rfl rfl .p0 rfl rfl <| rN <| tSR <| rL rfl rfl .p2 rfl rfl <| rM rfl rfl <| bndE h fun v12 e6 h => t_callL1 rfl (twin_Merge_c e6) .nil (.cons (CoB.arrT .p5) (.cons (CoB.arrT .p4) .nil)) (fun _ => rfl) (fun _ => rfl) (fun _ => (.cons (NoS.arrT (fun _ => rfl)) .nil)) rfl fun b13 => rM rfl rfl <| rX rfl rfl rfl <| rX rfl rfl rfl <| rA rfl rfl <| rA rfl rfl <| rN <| tSR <| rL rfl rfl .p3 rfl rfl <| rM rfl rfl <| ARun.qv (q_load_ptr_all rfl rfl .p2 rfl) rfl <| ARun.qv (n_build rfl rfl rfl rfl rfl) rfl <| ARun.qv (q_load_ptr_all rfl rfl .p1 rfl) rfl <| bndE h fun v14 e7 h => t_callL1 rfl (twin_Set_c e7) .nil (.cons (CoB.arrT .p6) (.cons (.co (.refl _)) (.cons (.co (.refl _)) .nil))) (fun _ => rfl) (fun _ => rfl) (fun _ => (.cons (NoS.arrT (fun _ => rfl)) .nil)) rfl fun b15 => rM rfl rfl <| rX rfl rfl rfl <| rX rfl rfl rfl <| rA rfl rfl <| rA rfl rfl <| rN <| tSR <| rL rfl rfl .p4 rfl rfl <| rM rfl rfl <| ARun.qv (q_load_ptr_all rfl rfl .p2 rfl) rfl <| bndE h fun v16 e8 h => t_callL1 rfl (twin_Clear_c e8) .nil (.cons (CoB.arrT .p7) (.cons (.co (.refl _)) (.cons (.co (.refl _)) .nil))) (fun _ => rfl) (fun _ => rfl) (fun _ => (.cons (NoS.arrT (fun _ => rfl)) .nil)) rfl fun b17 => rM rfl rfl <| rX rfl rfl rfl <| rX rfl rfl rfl <| rA rfl rfl <| rA rfl rfl <| rN <| tSR <| rL rfl rfl .p5 rfl rfl <| bndE h fun v18 e9 h => r_callpB rfl (Q_CellsFault_c e9) (.cons (CoB.arrT (.next .p7)) .nil) rfl rfl <| n_alloc rfl rfl rfl rfl fun b19 => n_store_ptr rfl rfl rfl rfl .p0 rfl rfl <| rN <| tS <| tS <| ATodo.regionM (id := 7) (A := [0, 1, 0, 7]) 4 mixed rfl (by kernel_rfl) (by kernel_rfl) <| AM.qv (q_load_ptr rfl rfl .p6 rfl) rfl <| bndE h fun v20 e10 h => AM.callpB rfl (twin_CheckCells_c e10) (.cons (CoB.arrT (.next (.next .p7))) .nil) rfl rfl <| AM.qv (q_load_ptr rfl rfl .p0 rfl) rfl <| AM.qv (q_neq rfl rfl) rfl <| AM.nil <| rN <| ATodo.cond_d rfl (fun hc => ?_) (fun hc => ?_)
  · refine have h := iteT hc h; tSR <| rA rfl rfl <| rN <| ATodo.ret <| ?_
    obtain rfl := Option.some.inj h
    exact ImpX.here ⟨_, .cons (.tmp _ _ rfl) .nil, rfl⟩
  · refine have h := iteF hc h; tK <| tSR <| ARun.qv (q_makeFunc rfl) rfl <| rA rfl rfl <| rN <| tSR <| rM rfl rfl <| rM rfl rfl <| bndE h fun v21 e11 h => ARun.ghost <| ImpX.freeze (.next .p7) <| ImpX.here <| t_callv1 rfl rfl rfl (L_CellsMerge_1x_c3x0x_c e11) (.cons (Co.froT (.next .p7)) (.cons (.refl _) (.cons (.refl _) (.cons (.refl _) .nil)))) (.cons .p0 (.cons .p5 (.cons .p7 .nil))) (fun _ => rfl) rfl fun b22 => rM rfl rfl <| rX rfl rfl rfl <| rX rfl rfl rfl <| rA rfl rfl <| rA rfl rfl <| rN <| tS <| bndE h fun v23 e12 h => ATodo.regionT (id := 11) (A := [0, 0, 0, 6, 0, 30, 62, 0, 128, 384, 896, 2047, 4095, 8191, 8191, 16383, 65535]) (H0 := [(b19, .cells [I v18]), (b9, .cells [.sl 8 b3 0 v2.1.length]), (b3, .arr 8 (v2.1.map Cell.av))]) (HH := fun β => [(b19, .cells [I v18]), (b9, .cells [.sl 8 b3 0 v2.1.length]), (b3, .arr 8 (v2.1.map Cell.av)), ((β 15), .arr 8 (v23.1.map Cell.av)), (b22, .arr 8 (v21.1.map Cell.av)), (b17, .arr 8 (v16.1.map Cell.av)), (b15, .arr 8 (v14.1.map Cell.av)), (b13, .arr 8 (v12.1.map Cell.av)), (b11, .cells [I v8.1.At, .str v8.1.By, I v8.1.No]), (b10, .cells [I v7.1.Kind, .bool v7.1.Flag, I v7.1.Number, .str v7.1.Words]), (b1, .cells [.list 1 (v8.2.L.map I), I v8.2.at_]), (b5, .fro 8 (v4.1.map Cell.av))]) 16 mixed rfl (by kernel_rfl) (by kernel_rfl) [⟨none, some 11, [], fun _ => (b19, .cells [I v18]), none⟩, ⟨none, some 11, [], fun _ => (b9, .cells [.sl 8 b3 0 v2.1.length]), none⟩, ⟨none, some 11, [], fun _ => (b3, .arr 8 (v2.1.map Cell.av)), none⟩, ⟨some 11, none, [], fun b => (b19, .cells [I v18]), none⟩, ⟨some 11, none, [], fun b => (b9, .cells [.sl 8 b3 0 v2.1.length]), none⟩, ⟨some 11, none, [], fun b => (b3, .arr 8 (v2.1.map Cell.av)), none⟩, ⟨some 11, some 12, [], fun b => (b, .arr 8 (v23.1.map Cell.av)), none⟩, ⟨some 12, some 13, [], fun b => (b, .arr 8 (v23.1.map Cell.av)), none⟩, ⟨some 13, some 15, [], fun b => (b, .arr 8 (v23.1.map Cell.av)), none⟩, ⟨some 15, none, [], fun b => (b, .arr 8 (v23.1.map Cell.av)), none⟩] [11, 12, 13, 15] rfl (by kernel_rfl) rfl (.cons .p0 (.cons .p0 (.cons .p0 .nil))) (fun _ => rfl) <| AT.am 11 rfl rfl <| AM.qv (q_move rfl) rfl <| AM.qv (q_move rfl) rfl <| AM.qv (q_load_ptr_all rfl rfl .p5 rfl) rfl <| AM.qv (n_build rfl rfl rfl rfl rfl) rfl <| AM.qv (q_load_ptr_all rfl rfl .p4 rfl) rfl <| AM.qv (n_build rfl rfl rfl rfl rfl) rfl <| AM.buildSliceL (xs := ([(⟨(⟨v6.1, v7.1⟩ : PropS), v8.1⟩ : Cell)]).map Cell.av) rfl rfl rfl rfl rfl rfl <| AM.qv (n_field_ptr rfl rfl) rfl <| AM.qv (q_load_ptr rfl rfl .p5 rfl) rfl <| AM.qv (q_eql rfl rfl) rfl <| AM.callp rfl (L_when_c rfl) (CoL.refl _) rfl <| AM.nil <| AT.runD (V := fun b => .tup [.sl 8 b 0 v23.1.length, I v23.2]) (Ti := [(b19, .cells [I v18]), (b9, .cells [.sl 8 b3 0 v2.1.length]), (b3, .arr 8 (v2.1.map Cell.av))]) (Pi := fun b => [(b19, .cells [I v18]), (b9, .cells [.sl 8 b3 0 v2.1.length]), (b3, .arr 8 (v2.1.map Cell.av)), (b, .arr 8 (v23.1.map Cell.av))]) (fun _ => rfl) (fun _ => rfl) (fun _ _ => rfl) rfl (fun _ => rfl) rfl rfl rfl ?_ ?_
    · exact t_callv1 rfl rfl rfl (L_CellsMerge_1x_c3x0x_c e12) (CoL.refl _) (.cons .p0 (.cons .p0 (.cons .p0 .nil))) (fun _ => rfl) rfl fun b24 => ARun.nil ⟨b24, _, rfl, rfl⟩
    refine AT.runE (V := fun b => .tup [.sl 8 b 0 v23.1.length, I v23.2]) (Ti := fun β => [(β 11, .arr 8 (v23.1.map Cell.av))]) (Pi := fun b => [(b, .arr 8 (v23.1.map Cell.av))]) (fun _ => rfl) (fun _ => rfl) (fun _ _ => rfl) (fun _ => rfl) (fun _ => rfl) rfl rfl rfl (fun β => ?_) ?_
    · generalize β 11 = b24
      exact rM rfl rfl <| ARun.nil ⟨b24, _, rfl, rfl⟩
    refine AT.runE (V := fun b => .sl 8 b 0 v23.1.length) (Ti := fun β => [(β 12, .arr 8 (v23.1.map Cell.av))]) (Pi := fun b => [(b, .arr 8 (v23.1.map Cell.av))]) (fun _ => rfl) (fun _ => rfl) (fun _ _ => rfl) (fun _ => rfl) (fun _ => rfl) rfl rfl rfl (fun β => ?_) ?_
    · generalize β 12 = b25
      exact rX rfl rfl rfl <| ARun.nil ⟨b25, _, rfl, rfl⟩
    refine AT.stE (fun _ => rfl) (fun _ => rfl) (fun _ => rfl) (fun β => q_extract rfl rfl) rfl <| AT.runE (V := fun b => .sl 8 b 0 v23.1.length) (Ti := fun β => [(β 13, .arr 8 (v23.1.map Cell.av))]) (Pi := fun b => [(b, .arr 8 (v23.1.map Cell.av))]) (fun _ => rfl) (fun _ => rfl) (fun _ _ => rfl) (fun _ => rfl) (fun _ => rfl) rfl rfl rfl (fun β => ?_) ?_
    · generalize β 13 = b26
      exact rA rfl rfl <| ARun.nil ⟨b26, _, rfl, rfl⟩
    refine AT.nilN (fun _ => rfl) fun β => ?_
    generalize β 11 = b24
    generalize β 12 = b25
    generalize β 13 = b26
    generalize β 15 = b27
    clear β
    refine rA rfl rfl <| rN <| tSR <| rM rfl rfl <| rM rfl rfl <| ARun.qv (n_build rfl rfl rfl rfl rfl) rfl <| ARun.qv (q_load_ptr_all rfl rfl (.next .p7) rfl) rfl <| ARun.qv (n_build rfl rfl rfl rfl rfl) rfl <| n_buildSliceL (xs := ([(⟨(⟨v6.1, (⟨(0 : Int), false, (0 : Int), []⟩ : ValueS)⟩ : PropS), v8.1⟩ : Cell)]).map Cell.av) rfl rfl rfl rfl rfl rfl <| bndE h fun v28 e13 h => t_callv1 rfl rfl rfl (L_CellsMerge_1x_c3x0x_c e13) (CoL.refl _) (.cons .p0 (.cons .p0 (.cons .p0 .nil))) (fun _ => rfl) rfl fun b29 => rM rfl rfl <| rX rfl rfl rfl <| rX rfl rfl rfl <| rA rfl rfl <| rA rfl rfl <| rN <| tS <| ATodo.cut (fun σ' => ∃ (c30 : Bool), L_CellsMerge_j1 c30 = some r ∧ σ' = ⟨127, [(2, .bool c30)], []⟩) ?_ ?_
    · refine tR <| rM rfl rfl <| rM rfl rfl <| ARun.qv (q_eql rfl rfl) rfl <| rM rfl rfl <| ARun.guard_dt rfl rfl rfl (fun hc => ?_) (fun hc => ?_)
      · refine have h := iteT hc h; rM rfl rfl <| rY rfl rfl rfl <| rM rfl rfl <| rY rfl rfl rfl <| bndE h fun v31 e14 h => r_callpB rfl (slices_Equal_Cell_Cell_c e14) (.cons (CoB.arrT (.next .p7)) (.cons (CoB.arrT .p5) .nil)) rfl rfl <| rT rfl rfl rfl <| rM rfl rfl <| ARun.guard rfl rfl rfl (fun hc => ?_) (fun hc => ?_)
        · refine have h := iteT hc h; rM rfl rfl <| rY rfl rfl rfl <| rM rfl rfl <| rY rfl rfl rfl <| ARun.qv (q_eql rfl rfl) rfl <| rT rfl rfl rfl <| rM rfl rfl <| ARun.guard_dt rfl rfl rfl (fun hc => ?_) (fun hc => ?_)
          · refine have h := iteT hc h; rM rfl rfl <| rY rfl rfl rfl <| rM rfl rfl <| rY rfl rfl rfl <| bndE h fun v32 e15 h => r_callpB rfl (slices_Equal_Cell_Cell_c e15) (.cons (CoB.arrT .p7) (.cons (CoB.arrT .p4) .nil)) rfl rfl <| rT rfl rfl rfl <| rM rfl rfl <| ARun.guard rfl rfl rfl (fun hc => ?_) (fun hc => ?_)
            · refine have h := iteT hc h; rM rfl rfl <| rY rfl rfl rfl <| rM rfl rfl <| rY rfl rfl rfl <| ARun.qv (q_eql rfl rfl) rfl <| rT rfl rfl rfl <| rM rfl rfl <| ARun.guard_dt rfl rfl rfl (fun hc => ?_) (fun hc => ?_)
              · refine have h := iteT hc h; rM rfl rfl <| rY rfl rfl rfl <| rM rfl rfl <| rY rfl rfl rfl <| bndE h fun v33 e16 h => r_callpB rfl (slices_Equal_Cell_Cell_c e16) (.cons (CoB.arrT .p6) (.cons (CoB.arrT .p3) .nil)) rfl rfl <| rT rfl rfl rfl <| rM rfl rfl <| ARun.guard rfl rfl rfl (fun hc => ?_) (fun hc => ?_)
                · exact have h := iteT hc h; bndE h fun v34 e17 h => r_callp rfl (L_twinned_c e17) (CoL.refl _) rfl <| rT rfl rfl rfl <| rA rfl rfl <| rN <| ATodo.stop <| ImpX.lq [] ⟨v34, h, rfl⟩ rfl rfl
                · exact have h := iteFb hc h; rE rfl rfl rfl <| rA rfl rfl <| rN <| ATodo.stop <| ImpX.lq [] ⟨false, h, rfl⟩ rfl rfl
              · exact have h := iteF hc h; rG rfl rfl rfl rfl <| rG rfl rfl rfl rfl <| rE rfl rfl rfl <| rM rfl rfl <| rG rfl rfl rfl rfl <| rE rfl rfl rfl <| rA rfl rfl <| rN <| ATodo.stop <| ImpX.lq [] ⟨false, h, rfl⟩ rfl rfl
            · exact have h := iteFb hc h; rG rfl rfl rfl rfl <| rG rfl rfl rfl rfl <| rE rfl rfl rfl <| rM rfl rfl <| rG rfl rfl rfl rfl <| rG rfl rfl rfl rfl <| rG rfl rfl rfl rfl <| rE rfl rfl rfl <| rM rfl rfl <| rG rfl rfl rfl rfl <| rE rfl rfl rfl <| rA rfl rfl <| rN <| ATodo.stop <| ImpX.lq [] ⟨false, h, rfl⟩ rfl rfl
          · exact have h := iteF hc h; rG rfl rfl rfl rfl <| rG rfl rfl rfl rfl <| rE rfl rfl rfl <| rM rfl rfl <| rG rfl rfl rfl rfl <| rG rfl rfl rfl rfl <| rG rfl rfl rfl rfl <| rE rfl rfl rfl <| rM rfl rfl <| rG rfl rfl rfl rfl <| rG rfl rfl rfl rfl <| rG rfl rfl rfl rfl <| rE rfl rfl rfl <| rM rfl rfl <| rG rfl rfl rfl rfl <| rE rfl rfl rfl <| rA rfl rfl <| rN <| ATodo.stop <| ImpX.lq [] ⟨false, h, rfl⟩ rfl rfl
        · exact have h := iteFb hc h; rG rfl rfl rfl rfl <| rG rfl rfl rfl rfl <| rE rfl rfl rfl <| rM rfl rfl <| rG rfl rfl rfl rfl <| rG rfl rfl rfl rfl <| rG rfl rfl rfl rfl <| rE rfl rfl rfl <| rM rfl rfl <| rG rfl rfl rfl rfl <| rG rfl rfl rfl rfl <| rG rfl rfl rfl rfl <| rE rfl rfl rfl <| rM rfl rfl <| rG rfl rfl rfl rfl <| rG rfl rfl rfl rfl <| rG rfl rfl rfl rfl <| rE rfl rfl rfl <| rM rfl rfl <| rG rfl rfl rfl rfl <| rE rfl rfl rfl <| rA rfl rfl <| rN <| ATodo.stop <| ImpX.lq [] ⟨false, h, rfl⟩ rfl rfl
      · exact have h := iteF hc h; rG rfl rfl rfl rfl <| rG rfl rfl rfl rfl <| rE rfl rfl rfl <| rM rfl rfl <| rG rfl rfl rfl rfl <| rG rfl rfl rfl rfl <| rG rfl rfl rfl rfl <| rE rfl rfl rfl <| rM rfl rfl <| rG rfl rfl rfl rfl <| rG rfl rfl rfl rfl <| rG rfl rfl rfl rfl <| rE rfl rfl rfl <| rM rfl rfl <| rG rfl rfl rfl rfl <| rG rfl rfl rfl rfl <| rG rfl rfl rfl rfl <| rE rfl rfl rfl <| rM rfl rfl <| rG rfl rfl rfl rfl <| rG rfl rfl rfl rfl <| rG rfl rfl rfl rfl <| rE rfl rfl rfl <| rM rfl rfl <| rG rfl rfl rfl rfl <| rE rfl rfl rfl <| rA rfl rfl <| rN <| ATodo.stop <| ImpX.lq [] ⟨false, h, rfl⟩ rfl rfl
    · rintro σ' ⟨c30, h, rfl⟩
      unfold L_CellsMerge_j1 at h
      refine ATodo.ret <| ?_
      obtain rfl := Option.some.inj h
      exact ImpX.here ⟨_, .cons (.tmp _ _ rfl) .nil, rfl⟩

end Go.Proofs.YtmlgacejioccmaaGreatDoor
