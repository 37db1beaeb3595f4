/- The code computes the plain functions: proofs written by shal.py. -/
import Derived.Test.YtlhoigimdehaeaaGreatDoorNtxW1
set_option maxRecDepth 100000
set_option linter.unusedVariables false
set_option linter.unusedSimpArgs false
namespace Go.Proofs.YtlhoigimdehaeaaGreatDoor
open Go Go.Eng Go.Proofs Go.Beacon
attribute [local irreducible] ARun ATodo AQ QV ACall ImpX AWp AM
set_option maxHeartbeats 4000000 in
theorem command_Office_aged_1x_c [GI : GTab] {p0x0 : Note} {p1x0 : Note} {r : Int} (h : command_Office_aged_1x p0x0 p1x0 = some r) : Pu Tryz.prog 197 [.agg [.str p0x0.Letter.Id, .str p0x0.Letter.Slot, .str p0x0.Letter.Body, I p0x0.Letter.Prio, I p0x0.Letter.At, I p0x0.Letter.Until, I p0x0.State, I p0x0.Tries, I p0x0.Since], .agg [.str p1x0.Letter.Id, .str p1x0.Letter.Slot, .str p1x0.Letter.Body, I p1x0.Letter.Prio, I p1x0.Letter.At, I p1x0.Letter.Until, I p1x0.State, I p1x0.Tries, I p1x0.Since]] (I r) := by
  unfold command_Office_aged_1x at h
  refine ACall.bodyN Tryz.func197 rfl Tryz.ntmps197 Tryz.results197 rfl rfl ?_
  refine tSR <| n_box rfl rfl rfl rfl fun b1 => n_box rfl rfl rfl rfl fun b2 => rA rfl rfl <| rN <| tS <| ATodo.regionM (id := 1) (A := [0, 1, 0, 4, 15, 0, 32, 96, 0, 256, 768, 2047, 4095, 8191, 16383]) 15 mixed rfl (by kernel_rfl) (by kernel_rfl) <| AM.qv (n_field_ptr rfl rfl) rfl <| AM.qv (q_load_ptr rfl rfl .p1 rfl) rfl <| AM.qv (n_field_ptr rfl rfl) rfl <| AM.qv (q_load_ptr rfl rfl .p0 rfl) rfl <| AM.callp rfl (cmp_Compare_int_c rfl) (CoL.refl _) rfl <| AM.qv (n_field_ptr rfl rfl) rfl <| AM.qv (n_field_ptr rfl rfl) rfl <| AM.qv (q_load_ptr rfl rfl .p1 rfl) rfl <| AM.qv (n_field_ptr rfl rfl) rfl <| AM.qv (n_field_ptr rfl rfl) rfl <| AM.qv (q_load_ptr rfl rfl .p0 rfl) rfl <| AM.callp rfl (strings_Compare_c rfl) (CoL.refl _) rfl <| AM.buildSliceL (xs := ([(cmp_Compare_int p0x0.Since p1x0.Since), (Lib.compareBytes p0x0.Letter.Id p1x0.Letter.Id)] : List Int).map I) rfl rfl rfl rfl rfl rfl <| bndE h fun v3 e1 h => AM.callp rfl (cmp_Or_int_c e1) (CoL.refl _) rfl <| AM.qv (q_assign rfl) rfl <| AM.nil <| rN <| ATodo.ret <| ?_
  obtain rfl := Option.some.inj h
  exact ImpX.here ⟨_, .cons (.tmp _ _ rfl) .nil, rfl⟩

set_option maxHeartbeats 4000000 in
theorem slices_SortFunc_Note_Note_k : SortK Tryz.prog 196 9 := ⟨fun enc hk h1 cf hO g cb blk off cap d w eg hc hH hb hs => AnyQ.slices_SortFunc_eq Tryz.sortF196 9 Tryz.isAgg63 Tryz.sizeOf63 enc hk h1 cf hO g cb blk off cap d w eg hc hH hb hs, fun p cap fv w => AnyF.slices_SortFunc_none Tryz.sortF196 p cap fv w⟩
theorem slices_SortFunc_Note_Note_c [GI : GTab] {b_0 : Bk} {p0x0 : List Note} {fnb : Note → Note → Option Int} {fnb_F : FuncId} [IsFn Tryz.prog fnb_F] {fnb_C : List AV} (fnb_h : ∀ {y0 y1 : _} {u : Int}, fnb y0 y1 = some u → @Pu strongT Tryz.prog fnb_F (Note.av y0 :: Note.av y1 :: fnb_C) (I u)) {r : (List Note)} (h : slices_SortFunc_Note_Note p0x0 fnb = some r) : ACall Tryz.prog 196 [.sl 9 b_0 0 p0x0.length, .func (.func fnb_F) fnb_C] [(b_0, .arr 9 (p0x0.map Note.av))] (T0 [(b_0, .arr 9 (r.map Note.av))] (.tup [])) :=
  sort_acall (fn := fnb) slices_SortFunc_Note_Note_k rfl @fnb_h (fun _ => rfl) h

set_option maxHeartbeats 4000000 in
theorem command_Office_aged_c [GI : GTab] {b_0 : Bk} {b_0x4 : Bk} {p0x0 : Command_Office} {p1x0 : Int} {r : (List (Str × Note))} (h : command_Office_aged p0x0 p1x0 = some r) : ACall Tryz.prog 147 [.ptr b_0 0, I p1x0] [(b_0, .cells [I p0x0.post_.Room, I p0x0.post_.Timeout, I p0x0.post_.Tries, I p0x0.post_.Kept, .mref b_0x4, I p0x0.time_]), (b_0x4, .mp (p0x0.notes_.map (fun e => (AV.str e.1, Note.av e.2))))] (T1 (fun d_0 => [(b_0, .cells [I p0x0.post_.Room, I p0x0.post_.Timeout, I p0x0.post_.Tries, I p0x0.post_.Kept, .mref b_0x4, I p0x0.time_]), (b_0x4, .mp (p0x0.notes_.map (fun e => (AV.str e.1, Note.av e.2)))), (d_0, .mp (r.map (fun e => (AV.str e.1, Note.av e.2))))]) (fun d_0 => .mref d_0)) := by
  unfold command_Office_aged at h
  refine ACall.lessH ?_
  refine ACall.bodyN Tryz.func147 rfl Tryz.ntmps147 Tryz.results147 rfl rfl ?_
  refine tSR <| rA rfl rfl <| rN <| tSR <| t_makeMap rfl fun b1 => rA rfl rfl <| rN <| tSR <| rA rfl rfl <| rN <| tS <| tSR <| rM rfl rfl <| ARun.qv (q_nilCheck_ptr rfl) rfl <| rF rfl rfl rfl <| rL rfl rfl .p1 rfl rfl <| t_range (M := p0x0.notes_) (enc := (fun e => (AV.str e.1, Note.av e.2))) rfl (fun _ _ => .p2) rfl fun b2 Le1 ce1 hLe1 hIe1 => rN <| ATodo.block <| ATodo.loopMap (fun e (x : (List (Str × Note)) × (List Note)) => command_Office_aged_b1 p0x0 p1x0 e x.1 x.2) (fun x : (List (Str × Note)) × (List Note) => command_Office_aged_f1 p0x0 x.1 x.2) (fun R x σ' => ∃ (b7 : Bk) (s1m : List Nat), MIter Le1 ce1 s1m (R.map (fun e => (AV.str e.1, Note.av e.2))) ∧ σ' = ⟨60, [(0, .ptr b_0 0), (1, I p1x0), (5, .mref b1), (6, .sl 9 b7 0 x.2.length), (16, .ptr b2 0)], [(b_0, .cells [I p0x0.post_.Room, I p0x0.post_.Timeout, I p0x0.post_.Tries, I p0x0.post_.Kept, .mref b_0x4, I p0x0.time_]), (b_0x4, .mpb Le1 ce1), (b2, .mit b_0x4 ce1 s1m), (b1, .mp (x.1.map (fun e => (AV.str e.1, Note.av e.2)))), (b7, .arr 9 (x.2.map Note.av))]⟩) h ?_ ?_
  · exact ImpX.arr (s := 6) 9 rfl fun b9 => ImpX.lq [3, 3, 1, 1, 0] ⟨b9, [], hIe1, rfl⟩ rfl rfl
  · intro R1 x σ' J1 hmk hH1 hK1
    obtain ⟨l6, l8⟩ := x
    obtain ⟨b7, s1m, hI1m, rfl⟩ := hmk
    refine tSR <| t_next rfl hI1m .p1 (fun _ => .p2) rfl (fun hN => ?_) (fun v1m R' sv1m hP hlen hIv1m hCv1m => ?_)
    · have h := nilL hH1 hN
      replace h : command_Office_aged_f1 p0x0 l6 l8 = _ := h
      unfold command_Office_aged_f1 at h
      refine ARun.ghost <| ImpX.mpDone hLe1 .p1 <| ImpX.here <| rX rfl rfl rfl <| rN <| tS <| ATodo.cond_f rfl <| ATodo.exit rfl <| tSR <| rM rfl rfl <| bndE h fun v10 e2 h => t_call0 rfl (slices_SortFunc_Note_Note_c (fun e => command_Office_aged_1x_c (GI := strongT) e) (lenOk_f e2)) (CoL.refl _) (.cons .p4 .nil) rfl rfl <| ARun.ghost <| ImpX.eqs (s := 6) (av' := .sl 9 b7 0 v10.length) rfl (congrArg (AV.sl 9 b7 0) (lenOk_l e2)) <| ImpX.here <| ARun.ghost <| ImpX.eqs (s := 36) (av' := .sl 9 b7 0 v10.length) rfl (congrArg (AV.sl 9 b7 0) (lenOk_l e2)) <| ImpX.here <| rN <| tS <| tSR <| rM rfl rfl <| rM rfl rfl <| ARun.qv (t_len_sl rfl) rfl <| rM rfl rfl <| ARun.qv (q_nilCheck_ptr rfl) rfl <| rF rfl rfl rfl <| rF rfl rfl rfl <| rL rfl rfl .p1 rfl rfl <| ARun.qv (q_subw rfl rfl) rfl <| ARun.qv (q_max rfl rfl) rfl <| bndE h fun l11 e3 h => ARun.qv (t_slice_sl rfl rfl .none (.some _ _ _ rfl) rfl rfl e3) rfl <| ARun.qv (t_len_sub rfl) rfl <| rM rfl rfl <| rN <| ATodo.block <| ATodo.loopI (fun x : (List (Str × Note)) × Int => command_Office_aged_b2 v10 l11 x.1 x.2) (fun x σ' => σ' = ⟨60, [(5, .mref b1), (48, .sl 9 b7 0 l11.length), (49, I (l11.length : Int)), (50, I x.2)], [(b_0, .cells [I p0x0.post_.Room, I p0x0.post_.Timeout, I p0x0.post_.Tries, I p0x0.post_.Kept, .mref b_0x4, I p0x0.time_]), (b_0x4, .mp (p0x0.notes_.map (fun e => (AV.str e.1, Note.av e.2)))), (b1, .mp (x.1.map (fun e => (AV.str e.1, Note.av e.2)))), (b7, .arr 9 (v10.map Note.av))]⟩) h ?_ ?_
      · exact ImpX.lq [1, 1, 2, 0] rfl rfl rfl
      · intro x z2 σ' J2 hmk h hJ2 hA2
        obtain ⟨l14, n15⟩ := x
        obtain rfl := hmk
        replace h : command_Office_aged_b2 v10 l11 l14 n15 = some z2 := h
        unfold command_Office_aged_b2 at h
        refine tSR <| ARun.qv (q_lss rfl rfl) rfl <| rN <| tS <| ATodo.cond_d rfl (fun hc => ?_) (fun hc => ?_)
        · refine have h := iteT hc h; tK <| tS <| ATodo.block <| tSR <| bndE h fun v16 e4 h => ARun.qv (t_index_sub (L := (0 : Int)) rfl rfl rfl e4) rfl <| ARun.qv (t_load_aptr_agg (g := Note.av) rfl rfl (.inl .p3) rfl (idxS_some e4).2 rfl) rfl <| n_alloc rfl rfl rfl rfl fun b17 => n_store_ptr rfl rfl rfl rfl .p0 rfl rfl <| rN <| tR <| rM rfl rfl <| rF rfl rfl rfl <| rF rfl rfl rfl <| rL rfl rfl .p0 rfl rfl <| t_delete (gk := AV.str) (gv := Note.av) (M := l14) (key := v16.Letter.Id) rfl rfl .p3 <| rN <| ATodo.blk <| tR <| ARun.qv (q_addw rfl rfl) rfl <| rM rfl rfl <| rN <| ATodo.stop <| ?_
          obtain rfl := Option.some.inj h
          exact hJ2 _ _ rfl <| ImpX.lq [1, 1, 1, 1] rfl rfl rfl
        · refine have h := iteF hc h; ATodo.exit rfl <| have h := outL h hA2; tSR <| rM rfl rfl <| rA rfl rfl <| rN <| ATodo.ret <| ?_
          obtain rfl := Option.some.inj h
          exact ImpX.here ⟨_, .cons (.tmp _ _ rfl) .nil, _, .cons .p0 (.cons .p0 (.cons .p0 .nil)), ⟨b1, rfl, rfl⟩⟩
    · obtain ⟨z1, h, hN1, hA1⟩ := stepL hH1 hP
      replace h : command_Office_aged_b1 p0x0 p1x0 v1m l6 l8 = some z1 := h
      unfold command_Office_aged_b1 at h
      have hJ1 := fun y σ' (e : z1 = .inl y) hi => hK1 R' y σ' hlen (hN1 y e) hi
      clear hN1 hP hK1 hH1
      refine rX rfl rfl rfl <| rN <| tS <| ATodo.cond_t rfl <| tK <| ATodo.block <| tSR <| ARun.qv (t_entry rfl .p2 .p1 hCv1m rfl rfl) rfl <| rX rfl rfl rfl <| rX rfl rfl rfl <| n_alloc rfl rfl rfl rfl fun b18 => rA rfl rfl <| n_store_ptr rfl rfl rfl rfl .p0 rfl rfl <| rN <| tSR <| rM rfl rfl <| ARun.qv (q_load_ptr_all rfl rfl .p0 rfl) rfl <| rM rfl rfl <| bndE h fun v19 e5 h => t_call0 rfl (command_Office_grown_c e5) (CoL.refl _) (.cons .p1 .nil) rfl rfl <| n_store_ptr rfl rfl rfl rfl .p1 rfl rfl <| rN <| tSR <| rM rfl rfl <| rM rfl rfl <| ARun.qv (q_load_ptr_all rfl rfl .p1 rfl) rfl <| t_mapUpdate (gk := AV.str) (gv := Note.av) (M := l6) (key := v1m.1) (v := v19) rfl rfl rfl rfl .p4 <| rN <| tSR <| rF rfl rfl rfl <| rL rfl rfl .p1 rfl rfl <| r_callp rfl (command_ended_c rfl) (CoL.refl _) rfl <| rN <| ATodo.cut (fun σ' => ∃ (b20 : Bk) (l21 : List Note), command_Office_aged_j1 l6 v1m v19 l21 = some z1 ∧ σ' = ⟨60, [(0, .ptr b_0 0), (1, I p1x0), (5, .mref b1), (6, .sl 9 b20 0 l21.length), (16, .ptr b2 0)], [(b_0, .cells [I p0x0.post_.Room, I p0x0.post_.Timeout, I p0x0.post_.Tries, I p0x0.post_.Kept, .mref b_0x4, I p0x0.time_]), (b_0x4, .mpb Le1 ce1), (b1, .mp ((mset l6 v1m.1 v19).map (fun e => (AV.str e.1, Note.av e.2)))), (b20, .arr 9 (l21.map Note.av)), (b2, .mit b_0x4 ce1 sv1m)]⟩) ?_ ?_
      · refine ATodo.cond rfl (fun hc => ?_) (fun hc => ?_)
        · exact have h := iteT hc h; tR <| rM rfl rfl <| ARun.qv (q_load_ptr_all rfl rfl .p1 rfl) rfl <| n_buildSliceL (xs := ([v19] : List Note).map Note.av) rfl rfl rfl rfl rfl rfl <| bndE h fun l22 e6 h => t_append (g := Note.av) rfl rfl rfl rfl rfl rfl rfl rfl (.list _) e6 (fun _ => .p5) rfl fun b23 => rA rfl rfl <| rN <| ATodo.stop <| ImpX.lq [0, 1, 2, 2, 1] ⟨b23, l22, h, rfl⟩ rfl rfl
        · exact have h := iteFb hc h; tK <| ATodo.stop <| ImpX.lq [0, 1, 2, 2, 1] ⟨b7, l8, h, rfl⟩ rfl rfl
      · rintro σ' ⟨b20, l21, h, rfl⟩
        unfold command_Office_aged_j1 at h
        refine ATodo.blk <| ATodo.stop <| ?_
        obtain rfl := Option.some.inj h
        exact hJ1 _ _ rfl <| ImpX.lq [0, 0, 2, 0, 0] ⟨b20, sv1m, hIv1m, rfl⟩ rfl rfl

set_option maxHeartbeats 4000000 in
theorem command_pending_c [GI : GTab] {b_0 : Bk} {p0x0 : List (Str × Note)} {r : Int} (h : command_pending p0x0 = some r) : ACall Tryz.prog 148 [.mref b_0] [(b_0, .mp (p0x0.map (fun e => (AV.str e.1, Note.av e.2))))] (T0 ([(b_0, .mp (p0x0.map (fun e => (AV.str e.1, Note.av e.2))))]) (I r)) := by
  unfold command_pending at h
  refine ACall.lessH ?_
  refine ACall.bodyN Tryz.func148 rfl Tryz.ntmps148 Tryz.results148 rfl rfl ?_
  refine tSR <| rA rfl rfl <| rN <| tSR <| rA rfl rfl <| rN <| tS <| tSR <| rM rfl rfl <| t_range (M := p0x0) (enc := (fun e => (AV.str e.1, Note.av e.2))) rfl (fun _ _ => .p0) rfl fun b1 Le1 ce1 hLe1 hIe1 => rN <| ATodo.block <| ATodo.loopMap (fun e (x : Int) => command_pending_b1 e x) (fun x : Int => command_pending_f1 x) (fun R x σ' => ∃ (s1m : List Nat), MIter Le1 ce1 s1m (R.map (fun e => (AV.str e.1, Note.av e.2))) ∧ σ' = ⟨19, [(3, I x), (7, .ptr b1 0)], [(b_0, .mpb Le1 ce1), (b1, .mit b_0 ce1 s1m)]⟩) h ?_ ?_
  · exact ImpX.lq [1, 0] ⟨[], hIe1, rfl⟩ rfl rfl
  · intro R1 n3 σ' J1 hmk hH1 hK1
    obtain ⟨s1m, hI1m, rfl⟩ := hmk
    refine tSR <| t_next rfl hI1m .p0 (fun _ => .p1) rfl (fun hN => ?_) (fun v1m R' sv1m hP hlen hIv1m hCv1m => ?_)
    · have h := nilL hH1 hN
      replace h : command_pending_f1 n3 = _ := h
      unfold command_pending_f1 at h
      refine ARun.ghost <| ImpX.mpDone hLe1 .p0 <| ImpX.here <| rX rfl rfl rfl <| rN <| tS <| ATodo.cond_f rfl <| ATodo.exit rfl <| tSR <| rM rfl rfl <| rA rfl rfl <| rN <| ATodo.ret <| ?_
      obtain rfl := Option.some.inj h
      exact ImpX.here ⟨_, .cons (.tmp _ _ rfl) .nil, _, .cons .p0 .nil, ⟨rfl, rfl⟩⟩
    · obtain ⟨z1, h, hN1, hA1⟩ := stepL hH1 hP
      replace h : command_pending_b1 v1m n3 = some z1 := h
      unfold command_pending_b1 at h
      have hJ1 := fun y σ' (e : z1 = .inl y) hi => hK1 R' y σ' hlen (hN1 y e) hi
      clear hN1 hP hK1 hH1
      refine rX rfl rfl rfl <| rN <| tS <| ATodo.cond_t rfl <| tK <| ATodo.block <| tSR <| ARun.qv (t_entry rfl .p1 .p0 hCv1m rfl rfl) rfl <| rX rfl rfl rfl <| n_alloc rfl rfl rfl rfl fun b4 => n_store_ptr rfl rfl rfl rfl .p0 rfl rfl <| rN <| tSR <| rF rfl rfl rfl <| rL rfl rfl .p0 rfl rfl <| r_callp rfl (command_ended_c rfl) (CoL.refl _) rfl <| ARun.qv (q_not rfl) rfl <| rN <| ATodo.cut (fun σ' => ∃ (n5 : Int), command_pending_j1 n5 = some z1 ∧ σ' = ⟨19, [(3, I n5), (7, .ptr b1 0)], [(b_0, .mpb Le1 ce1), (b1, .mit b_0 ce1 sv1m)]⟩) ?_ ?_
      · refine ATodo.cond rfl (fun hc => ?_) (fun hc => ?_)
        · exact have h := iteT hc h; tR <| rM rfl rfl <| ARun.qv (q_addw rfl rfl) rfl <| rA rfl rfl <| rN <| ATodo.stop <| ImpX.lq [1, 1] ⟨w64 (n3 + (1 : Int)), h, rfl⟩ rfl rfl
        · exact have h := iteFb hc h; tK <| ATodo.stop <| ImpX.lq [1, 1] ⟨n3, h, rfl⟩ rfl rfl
      · rintro σ' ⟨n5, h, rfl⟩
        unfold command_pending_j1 at h
        refine ATodo.blk <| ATodo.stop <| ?_
        obtain rfl := Option.some.inj h
        exact hJ1 _ _ rfl <| ImpX.lq [0, 0] ⟨sv1m, hIv1m, rfl⟩ rfl rfl

set_option maxHeartbeats 4000000 in
theorem command_Office_keep_c [GI : GTab] {b_0 : Bk} {b_0x4 : Bk} {b_1 : Bk} {p0x0 : Command_Office} {p1x0 : List (Str × Note)} {p2x0 : Int} {r : Command_Office} (h : command_Office_keep p0x0 p1x0 p2x0 = r) : ACall Tryz.prog 149 [.ptr b_0 0, .mref b_1, I p2x0] [(b_0, .cells [I p0x0.post_.Room, I p0x0.post_.Timeout, I p0x0.post_.Tries, I p0x0.post_.Kept, .mref b_0x4, I p0x0.time_]), (b_0x4, .mp (p0x0.notes_.map (fun e => (AV.str e.1, Note.av e.2)))), (b_1, .mp (p1x0.map (fun e => (AV.str e.1, Note.av e.2))))] (T1 (fun c_0x4 => [(b_0, .cells [I r.post_.Room, I r.post_.Timeout, I r.post_.Tries, I r.post_.Kept, .mref c_0x4, I r.time_]), (c_0x4, .mp (r.notes_.map (fun e => (AV.str e.1, Note.av e.2))))]) (fun c_0x4 => .tup [])) := by
  unfold command_Office_keep at h
  refine ACall.lessH ?_
  refine ACall.bodyN Tryz.func149 rfl Tryz.ntmps149 Tryz.results149 rfl rfl ?_
  refine tR <| rM rfl rfl <| rM rfl rfl <| rM rfl rfl <| rM rfl rfl <| ARun.qv (q_nilCheck_ptr rfl) rfl <| rF rfl rfl rfl <| n_store_ptr rfl rfl rfl rfl .p0 rfl rfl <| ARun.qv (q_nilCheck_ptr rfl) rfl <| rF rfl rfl rfl <| n_store_ptr rfl rfl rfl rfl .p0 rfl rfl <| rN <| ATodo.nil <| ?_
  obtain rfl := h
  exact ImpX.here ⟨_, .nil, _, .cons .p0 (.cons .p1 .nil), ⟨b_1, rfl, rfl⟩⟩

set_option maxHeartbeats 4000000 in
theorem command_Office_Put_c {b_0 : Bk} {b_0x4 : Bk} {p0x0 : Command_Office} {p1x0 : Letter} {r : Int × Command_Office} (h : command_Office_Put p0x0 p1x0 = some r) : ACall Tryz.prog 95 [.ptr b_0 0, .agg [.str p1x0.Id, .str p1x0.Slot, .str p1x0.Body, I p1x0.Prio, I p1x0.At, I p1x0.Until]] [(b_0, .cells [I p0x0.post_.Room, I p0x0.post_.Timeout, I p0x0.post_.Tries, I p0x0.post_.Kept, .mref b_0x4, I p0x0.time_]), (b_0x4, .mp (p0x0.notes_.map (fun e => (AV.str e.1, Note.av e.2))))] (T1 (fun c_0x4 => [(b_0, .cells [I r.2.post_.Room, I r.2.post_.Timeout, I r.2.post_.Tries, I r.2.post_.Kept, .mref c_0x4, I r.2.time_]), (c_0x4, .mp (r.2.notes_.map (fun e => (AV.str e.1, Note.av e.2))))]) (fun c_0x4 => I r.1)) := by
  unfold command_Office_Put at h
  refine ACall.lessH ?_
  refine ACall.bodyN Tryz.func95 rfl Tryz.ntmps95 Tryz.results95 rfl rfl ?_
  refine tSR <| n_box rfl rfl rfl rfl fun b1 => rA rfl rfl <| rN <| tS <| tS <| ATodo.regionM (id := 1) (A := [0, 1, 0, 0, 8, 31, 63, 127, 255]) 5 mixed rfl (by kernel_rfl) (by kernel_rfl) <| AM.qv (q_load_ptr_all rfl rfl .p0 rfl) rfl <| bndE h fun v2 e1 h => AM.callp rfl (command_CheckLetter_c e1) (CoL.refl _) rfl <| AM.qv (q_move rfl) rfl <| AM.qv (n_field_ptr rfl rfl) rfl <| AM.qv (q_load_ptr rfl rfl .p0 rfl) rfl <| AM.nil <| t_call0 rfl (command_Office_timeFault_c rfl) (CoL.refl _) (.cons .p1 .nil) rfl rfl <| n_buildSliceL (xs := ([v2, (command_Office_timeFault p0x0 p1x0.At)] : List Int).map I) rfl rfl rfl rfl rfl rfl <| bndE h fun v3 e2 h => r_callp rfl (base_First_c e2) (CoL.refl _) rfl <| rA rfl rfl <| rN <| tSR <| rM rfl rfl <| ARun.qv (q_neq rfl rfl) rfl <| rN <| ATodo.cond_d rfl (fun hc => ?_) (fun hc => ?_)
  · refine have h := iteT hc h; tSR <| rM rfl rfl <| rA rfl rfl <| rN <| ATodo.ret <| ?_
    obtain rfl := Option.some.inj h
    exact ImpX.here ⟨_, .cons (.tmp _ _ rfl) .nil, _, .cons .p0 (.cons .p1 .nil), ⟨b_0x4, rfl, rfl⟩⟩
  · refine have h := iteF hc h; tK <| tSR <| rM rfl rfl <| rF rfl rfl rfl <| rL rfl rfl .p1 rfl rfl <| bndE h fun v4 e3 h => t_call1 rfl (command_Office_aged_c e3) (CoL.refl _) (.cons .p0 (.cons .p1 .nil)) (fun _ => rfl) rfl fun b5 => rA rfl rfl <| rN <| tS <| tSR <| rM rfl rfl <| rF rfl rfl rfl <| rL rfl rfl .p3 rfl rfl <| bndE h fun v6 e4 h => ARun.qv (t_lookup2 (gk := AV.str) (gv := Note.av) (M := v4) (key := p1x0.Id) (Z := (⟨(⟨[], [], [], (0 : Int), (0 : Int), (0 : Int)⟩ : Letter), (0 : Int), (0 : Int), (0 : Int)⟩ : Note)) rfl rfl .p2 rfl rfl rfl e4 rfl) rfl <| rM rfl rfl <| rX rfl rfl rfl <| rX rfl rfl rfl <| n_alloc rfl rfl rfl rfl fun b7 => n_store_ptr rfl rfl rfl rfl .p0 rfl rfl <| rA rfl rfl <| rN <| tSR <| rM rfl rfl <| rN <| ATodo.cond rfl (fun hc => ?_) (fun hc => ?_)
    · refine have h := iteT hc h; tSR <| rA rfl rfl <| rN <| ATodo.ret <| ?_
      obtain rfl := Option.some.inj h
      exact ImpX.here ⟨_, .cons (.tmp _ _ rfl) .nil, _, .cons .p1 (.cons .p1 .nil), ⟨b_0x4, rfl, rfl⟩⟩
    · refine have h := iteFb hc h; tK <| tSR <| rA rfl rfl <| rN <| tS <| tSR <| rM rfl rfl <| t_range (M := v4) (enc := (fun e => (AV.str e.1, Note.av e.2))) rfl (fun _ _ => .p3) rfl fun b8 Le5 ce5 hLe5 hIe5 => rN <| ATodo.block <| ATodo.loopMap (fun e (x : Str) => command_Office_Put_b1 p1x0 e x) (fun x : Str => command_Office_Put_f1 p0x0 p1x0 v4 x) (fun R x σ' => ∃ (s1m : List Nat), MIter Le5 ce5 s1m (R.map (fun e => (AV.str e.1, Note.av e.2))) ∧ σ' = ⟨103, [(0, .ptr b_0 0), (3, .ptr b1 0), (6, .mref b5), (9, .str x), (38, .ptr b8 0)], [(b_0, .cells [I p0x0.post_.Room, I p0x0.post_.Timeout, I p0x0.post_.Tries, I p0x0.post_.Kept, .mref b_0x4, I p0x0.time_]), (b_0x4, .mp (p0x0.notes_.map (fun e => (AV.str e.1, Note.av e.2)))), (b8, .mit b5 ce5 s1m), (b5, .mpb Le5 ce5), (b1, .cells [.str p1x0.Id, .str p1x0.Slot, .str p1x0.Body, I p1x0.Prio, I p1x0.At, I p1x0.Until])]⟩) h ?_ ?_
      · exact ImpX.lq [2, 2, 0, 1, 1] ⟨[], hIe5, rfl⟩ rfl rfl
      · intro R1 q10 σ' J1 hmk hH1 hK1
        obtain ⟨s1m, hI1m, rfl⟩ := hmk
        refine tSR <| t_next rfl hI1m .p3 (fun _ => .p2) rfl (fun hN => ?_) (fun v1m R' sv1m hP hlen hIv1m hCv1m => ?_)
        · have h := nilL hH1 hN
          replace h : command_Office_Put_f1 p0x0 p1x0 v4 q10 = _ := h
          unfold command_Office_Put_f1 at h
          refine ARun.ghost <| ImpX.mpDone hLe5 .p3 <| ImpX.here <| rX rfl rfl rfl <| rN <| tS <| ATodo.cond_f rfl <| ATodo.exit rfl <| tSR <| rM rfl rfl <| ARun.qv (q_nilCheck_ptr rfl) rfl <| rF rfl rfl rfl <| rF rfl rfl rfl <| rL rfl rfl .p0 rfl rfl <| rA rfl rfl <| rN <| tS <| tSR <| rM rfl rfl <| ARun.qv (q_sne rfl rfl) rfl <| rN <| ATodo.cut (fun σ' => ∃ (n11 : Int), command_Office_Put_j1 p0x0 p1x0 v4 q10 n11 = some r ∧ σ' = ⟨103, [(0, .ptr b_0 0), (3, .ptr b1 0), (6, .mref b5), (9, .str q10), (12, I n11)], [(b_0, .cells [I p0x0.post_.Room, I p0x0.post_.Timeout, I p0x0.post_.Tries, I p0x0.post_.Kept, .mref b_0x4, I p0x0.time_]), (b_0x4, .mp (p0x0.notes_.map (fun e => (AV.str e.1, Note.av e.2)))), (b1, .cells [.str p1x0.Id, .str p1x0.Slot, .str p1x0.Body, I p1x0.Prio, I p1x0.At, I p1x0.Until]), (b5, .mp (v4.map (fun e => (AV.str e.1, Note.av e.2))))]⟩) ?_ ?_
          · refine ATodo.cond_d rfl (fun hc => ?_) (fun hc => ?_)
            · exact have h := iteT hc h; tR <| rM rfl rfl <| ARun.qv (q_addw rfl rfl) rfl <| rA rfl rfl <| rN <| ATodo.stop <| ImpX.lq [0, 0, 2, 1] ⟨w64 (p0x0.post_.Room + (1 : Int)), h, rfl⟩ rfl rfl
            · exact have h := iteF hc h; tK <| ATodo.stop <| ImpX.lq [0, 0, 2, 1] ⟨p0x0.post_.Room, h, rfl⟩ rfl rfl
          · rintro σ' ⟨n11, h, rfl⟩
            unfold command_Office_Put_j1 at h
            refine tS <| tSR <| rM rfl rfl <| bndE h fun v12 e6 h => t_call0 rfl (command_pending_c e6) (CoL.refl _) (.cons .p3 .nil) rfl rfl <| rM rfl rfl <| ARun.qv (q_geq rfl rfl) rfl <| rN <| ATodo.cond_d rfl (fun hc => ?_) (fun hc => ?_)
            · refine have h := iteT hc h; tSR <| rA rfl rfl <| rN <| ATodo.ret <| ?_
              obtain rfl := Option.some.inj h
              exact ImpX.here ⟨_, .cons (.tmp _ _ rfl) .nil, _, .cons .p1 (.cons .p1 .nil), ⟨b_0x4, rfl, rfl⟩⟩
            · refine have h := iteF hc h; tK <| tS <| tSR <| rM rfl rfl <| ARun.qv (q_sne rfl rfl) rfl <| rN <| ATodo.cut (fun σ' => ∃ (l13 : List (Str × Note)), command_Office_Put_j2 p0x0 p1x0 l13 = some r ∧ σ' = ⟨103, [(0, .ptr b_0 0), (3, .ptr b1 0), (6, .mref b5)], [(b_0, .cells [I p0x0.post_.Room, I p0x0.post_.Timeout, I p0x0.post_.Tries, I p0x0.post_.Kept, .mref b_0x4, I p0x0.time_]), (b_0x4, .mp (p0x0.notes_.map (fun e => (AV.str e.1, Note.av e.2)))), (b1, .cells [.str p1x0.Id, .str p1x0.Slot, .str p1x0.Body, I p1x0.Prio, I p1x0.At, I p1x0.Until]), (b5, .mp (l13.map (fun e => (AV.str e.1, Note.av e.2))))]⟩) ?_ ?_
              · refine ATodo.cond_d rfl (fun hc => ?_) (fun hc => ?_)
                · refine have h := iteT hc h; tSR <| rM rfl rfl <| rM rfl rfl <| bndE h fun v14 e7 h => ARun.qv (t_lookup (gk := AV.str) (gv := Note.av) (M := v4) (key := q10) (Z := (⟨(⟨[], [], [], (0 : Int), (0 : Int), (0 : Int)⟩ : Letter), (0 : Int), (0 : Int), (0 : Int)⟩ : Note)) rfl rfl .p0 rfl rfl rfl e7 rfl) rfl <| n_alloc rfl rfl rfl rfl fun b15 => n_store_ptr rfl rfl rfl rfl .p0 rfl rfl <| rN <| tS <| ATodo.regionT (id := 21) (A := [0, 1, 0, 4, 15, 31]) (H0 := [(b15, .cells [.str v14.Letter.Id, .str v14.Letter.Slot, .str v14.Letter.Body, I v14.Letter.Prio, I v14.Letter.At, I v14.Letter.Until, I v14.State, I v14.Tries, I v14.Since])]) (HH := fun β => [(b15, .cells [.str v14.Letter.Id, .str v14.Letter.Slot, .str v14.Letter.Body, I v14.Letter.Prio, I v14.Letter.At, I v14.Letter.Until, I (6 : Int), I v14.Tries, I v14.Since]), (b5, .mp (v4.map (fun e => (AV.str e.1, Note.av e.2)))), (b_0, .cells [I p0x0.post_.Room, I p0x0.post_.Timeout, I p0x0.post_.Tries, I p0x0.post_.Kept, .mref b_0x4, I p0x0.time_]), (b_0x4, .mp (p0x0.notes_.map (fun e => (AV.str e.1, Note.av e.2)))), (b1, .cells [.str p1x0.Id, .str p1x0.Slot, .str p1x0.Body, I p1x0.Prio, I p1x0.At, I p1x0.Until])]) 4 mixed rfl (by kernel_rfl) (by kernel_rfl) [⟨none, some 3, [], fun _ => (b15, .cells [.str v14.Letter.Id, .str v14.Letter.Slot, .str v14.Letter.Body, I v14.Letter.Prio, I v14.Letter.At, I v14.Letter.Until, I v14.State, I v14.Tries, I v14.Since]), none⟩, ⟨some 3, none, [], fun _ => (b15, .cells [.str v14.Letter.Id, .str v14.Letter.Slot, .str v14.Letter.Body, I v14.Letter.Prio, I v14.Letter.At, I v14.Letter.Until, I (6 : Int), I v14.Tries, I v14.Since]), none⟩] [] rfl (by kernel_rfl) rfl (.cons .p0 .nil) (fun _ => rfl) <| AT.am 3 rfl rfl <| AM.qv (n_field_ptr rfl rfl) rfl <| AM.qv (q_load_ptr rfl rfl .p3 rfl) rfl <| AM.qv (n_field_ptr rfl rfl) rfl <| AM.nil <| AT.run0 (Ti := [(b15, .cells [.str v14.Letter.Id, .str v14.Letter.Slot, .str v14.Letter.Body, I v14.Letter.Prio, I v14.Letter.At, I v14.Letter.Until, I v14.State, I v14.Tries, I v14.Since])]) (Pi := [(b15, .cells [.str v14.Letter.Id, .str v14.Letter.Slot, .str v14.Letter.Body, I v14.Letter.Prio, I v14.Letter.At, I v14.Letter.Until, I (6 : Int), I v14.Tries, I v14.Since])]) (fun _ => rfl) (fun _ => rfl) (fun _ => rfl) rfl rfl ?_ ?_
                  · exact n_store_ptr rfl rfl rfl rfl .p0 rfl rfl <| ARun.nil ⟨_, rfl⟩
                  exact AT.nilN (fun _ => rfl) fun β => rF rfl rfl rfl <| n_store_ptr rfl rfl rfl rfl .p0 rfl rfl <| rN <| tR <| rM rfl rfl <| rM rfl rfl <| ARun.qv (q_load_ptr_all rfl rfl .p0 rfl) rfl <| t_mapUpdate (gk := AV.str) (gv := Note.av) (M := v4) (key := q10) (v := (⟨v14.Letter, (6 : Int), v14.Tries, p1x0.At⟩ : Note)) rfl rfl rfl rfl .p1 <| rN <| ATodo.stop <| ImpX.lq [2, 2, 2, 1] ⟨mset v4 q10 (⟨v14.Letter, (6 : Int), v14.Tries, p1x0.At⟩ : Note), h, rfl⟩ rfl rfl
                · exact have h := iteF hc h; tK <| ATodo.stop <| ImpX.lq [1, 1, 1, 0] ⟨v4, h, rfl⟩ rfl rfl
              · rintro σ' ⟨l13, h, rfl⟩
                unfold command_Office_Put_j2 at h
                refine tSR <| rM rfl rfl <| rF rfl rfl rfl <| rL rfl rfl .p2 rfl rfl <| ARun.qv (q_load_ptr_all rfl rfl .p2 rfl) rfl <| rF rfl rfl rfl <| rL rfl rfl .p2 rfl rfl <| ARun.qv (n_build rfl rfl rfl rfl rfl) rfl <| t_mapUpdate (gk := AV.str) (gv := Note.av) (M := l13) (key := p1x0.Id) (v := (⟨p1x0, (1 : Int), (0 : Int), p1x0.At⟩ : Note)) rfl rfl rfl rfl .p3 <| rN <| tSR <| rM rfl rfl <| rM rfl rfl <| rF rfl rfl rfl <| rL rfl rfl .p2 rfl rfl <| t_call1 rfl (command_Office_keep_c (rfl : command_Office_keep p0x0 (mset l13 p1x0.Id (⟨p1x0, (1 : Int), (0 : Int), p1x0.At⟩ : Note)) p1x0.At = _)) (CoL.refl _) (.cons .p0 (.cons .p0 (.cons .p1 .nil))) (fun _ => rfl) rfl fun b16 => rN <| tSR <| rA rfl rfl <| rN <| ATodo.ret <| ?_
                obtain rfl := Option.some.inj h
                exact ImpX.here ⟨_, .cons (.tmp _ _ rfl) .nil, _, .cons .p0 (.cons .p0 .nil), ⟨b16, rfl, rfl⟩⟩
        · obtain ⟨z1, h, hN1, hA1⟩ := stepL hH1 hP
          replace h : command_Office_Put_b1 p1x0 v1m q10 = some z1 := h
          unfold command_Office_Put_b1 at h
          have hJ1 := fun y σ' (e : z1 = .inl y) hi => hK1 R' y σ' hlen (hN1 y e) hi
          clear hN1 hP hK1 hH1
          refine rX rfl rfl rfl <| rN <| tS <| ATodo.cond_t rfl <| tK <| ATodo.block <| tSR <| ARun.qv (t_entry rfl .p2 .p3 hCv1m rfl rfl) rfl <| rX rfl rfl rfl <| rX rfl rfl rfl <| n_alloc rfl rfl rfl rfl fun b17 => rA rfl rfl <| n_store_ptr rfl rfl rfl rfl .p0 rfl rfl <| rN <| tS <| ATodo.cut (fun σ' => ∃ (c18 : Bool), command_Office_Put_j3 q10 v1m c18 = some z1 ∧ σ' = ⟨103, [(0, .ptr b_0 0), (3, .ptr b1 0), (6, .mref b5), (9, .str q10), (10, .str v1m.1), (38, .ptr b8 0), (64, .bool c18)], [(b_0, .cells [I p0x0.post_.Room, I p0x0.post_.Timeout, I p0x0.post_.Tries, I p0x0.post_.Kept, .mref b_0x4, I p0x0.time_]), (b_0x4, .mp (p0x0.notes_.map (fun e => (AV.str e.1, Note.av e.2)))), (b1, .cells [.str p1x0.Id, .str p1x0.Slot, .str p1x0.Body, I p1x0.Prio, I p1x0.At, I p1x0.Until]), (b5, .mpb Le5 ce5), (b8, .mit b5 ce5 sv1m)]⟩) ?_ ?_
          · refine tR <| rF rfl rfl rfl <| rL rfl rfl .p5 rfl rfl <| ARun.qv (q_sne rfl rfl) rfl <| rM rfl rfl <| ARun.guard_dt rfl rfl rfl (fun hc => ?_) (fun hc => ?_)
            · rw [andTd hc] at h
              refine rF rfl rfl rfl <| rY rfl rfl rfl <| rF rfl rfl rfl <| rY rfl rfl rfl <| rL rfl rfl .p0 rfl rfl <| rY rfl rfl rfl <| rF rfl rfl rfl <| rY rfl rfl rfl <| rL rfl rfl .p5 rfl rfl <| rY rfl rfl rfl <| ARun.qv (q_seq rfl rfl) rfl <| rT rfl rfl rfl <| rM rfl rfl <| ARun.guard_dt rfl rfl rfl (fun hc => ?_) (fun hc => ?_)
              · rw [andTd hc] at h
                refine rF rfl rfl rfl <| rY rfl rfl rfl <| rL rfl rfl .p0 rfl rfl <| rY rfl rfl rfl <| ARun.qv (q_eql rfl rfl) rfl <| rT rfl rfl rfl <| rM rfl rfl <| ARun.guard_dt rfl rfl rfl (fun hc => ?_) (fun hc => ?_)
                · rw [andTd hc] at h
                  exact rF rfl rfl rfl <| rY rfl rfl rfl <| rL rfl rfl .p0 rfl rfl <| rY rfl rfl rfl <| ARun.qv (q_eql rfl rfl) rfl <| rT rfl rfl rfl <| rN <| ATodo.stop <| ImpX.lq [1, 1, 3, 2, 1] ⟨decide (v1m.2.Tries = (0 : Int)), h, rfl⟩ rfl rfl
                · rw [andFd hc] at h
                  exact rG rfl rfl rfl rfl <| rG rfl rfl rfl rfl <| rE rfl rfl rfl <| rN <| ATodo.stop <| ImpX.lq [1, 1, 3, 2, 1] ⟨false, h, rfl⟩ rfl rfl
              · rw [andFd hc] at h
                exact rG rfl rfl rfl rfl <| rG rfl rfl rfl rfl <| rE rfl rfl rfl <| rM rfl rfl <| rG rfl rfl rfl rfl <| rG rfl rfl rfl rfl <| rG rfl rfl rfl rfl <| rE rfl rfl rfl <| rN <| ATodo.stop <| ImpX.lq [1, 1, 3, 2, 1] ⟨false, h, rfl⟩ rfl rfl
            · rw [andFd hc] at h
              exact rG rfl rfl rfl rfl <| rG rfl rfl rfl rfl <| rG rfl rfl rfl rfl <| rG rfl rfl rfl rfl <| rG rfl rfl rfl rfl <| rE rfl rfl rfl <| rM rfl rfl <| rG rfl rfl rfl rfl <| rG rfl rfl rfl rfl <| rG rfl rfl rfl rfl <| rE rfl rfl rfl <| rM rfl rfl <| rG rfl rfl rfl rfl <| rG rfl rfl rfl rfl <| rG rfl rfl rfl rfl <| rE rfl rfl rfl <| rN <| ATodo.stop <| ImpX.lq [1, 1, 3, 2, 1] ⟨false, h, rfl⟩ rfl rfl
          · rintro σ' ⟨c18, h, rfl⟩
            unfold command_Office_Put_j3 at h
            refine ATodo.cut (fun σ' => ∃ (q19 : Str), command_Office_Put_j4 q19 = some z1 ∧ σ' = ⟨103, [(0, .ptr b_0 0), (3, .ptr b1 0), (6, .mref b5), (9, .str q19), (38, .ptr b8 0)], [(b_0, .cells [I p0x0.post_.Room, I p0x0.post_.Timeout, I p0x0.post_.Tries, I p0x0.post_.Kept, .mref b_0x4, I p0x0.time_]), (b_0x4, .mp (p0x0.notes_.map (fun e => (AV.str e.1, Note.av e.2)))), (b1, .cells [.str p1x0.Id, .str p1x0.Slot, .str p1x0.Body, I p1x0.Prio, I p1x0.At, I p1x0.Until]), (b5, .mpb Le5 ce5), (b8, .mit b5 ce5 sv1m)]⟩) ?_ ?_
            · refine ATodo.cond rfl (fun hc => ?_) (fun hc => ?_)
              · exact have h := iteT hc h; tR <| rM rfl rfl <| rA rfl rfl <| rN <| ATodo.stop <| ImpX.lq [0, 0, 0, 0, 0] ⟨v1m.1, h, rfl⟩ rfl rfl
              · exact have h := iteFb hc h; tK <| ATodo.stop <| ImpX.lq [0, 0, 0, 0, 0] ⟨q10, h, rfl⟩ rfl rfl
            · rintro σ' ⟨q19, h, rfl⟩
              unfold command_Office_Put_j4 at h
              refine ATodo.blk <| ATodo.stop <| ?_
              obtain rfl := Option.some.inj h
              exact hJ1 _ _ rfl <| ImpX.lq [0, 0, 2, 1, 0] ⟨sv1m, hIv1m, rfl⟩ rfl rfl

set_option maxHeartbeats 4000000 in
theorem command_Office_Waiting_c [GI : GTab] {b_0 : Bk} {b_0x4 : Bk} {p0x0 : Command_Office} {p1x0 : Int} {r : Int × Int × Command_Office} (h : command_Office_Waiting p0x0 p1x0 = some r) : ACall Tryz.prog 96 [.ptr b_0 0, I p1x0] [(b_0, .cells [I p0x0.post_.Room, I p0x0.post_.Timeout, I p0x0.post_.Tries, I p0x0.post_.Kept, .mref b_0x4, I p0x0.time_]), (b_0x4, .mp (p0x0.notes_.map (fun e => (AV.str e.1, Note.av e.2))))] (T1 (fun c_0x4 => [(b_0, .cells [I r.2.2.post_.Room, I r.2.2.post_.Timeout, I r.2.2.post_.Tries, I r.2.2.post_.Kept, .mref c_0x4, I r.2.2.time_]), (c_0x4, .mp (r.2.2.notes_.map (fun e => (AV.str e.1, Note.av e.2))))]) (fun c_0x4 => .tup [I r.1, I r.2.1])) := by
  unfold command_Office_Waiting at h
  refine ACall.lessH ?_
  refine ACall.bodyN Tryz.func96 rfl Tryz.ntmps96 Tryz.results96 rfl rfl ?_
  refine tSR <| rA rfl rfl <| rA rfl rfl <| rN <| tS <| tSR <| rM rfl rfl <| rM rfl rfl <| t_call0 rfl (command_Office_timeFault_c rfl) (CoL.refl _) (.cons .p0 .nil) rfl rfl <| rA rfl rfl <| rN <| tSR <| rM rfl rfl <| ARun.qv (q_neq rfl rfl) rfl <| rN <| ATodo.cond_d rfl (fun hc => ?_) (fun hc => ?_)
  · refine have h := iteT hc h; tSR <| rM rfl rfl <| rA rfl rfl <| rA rfl rfl <| rN <| ATodo.ret <| ?_
    obtain rfl := Option.some.inj h
    exact ImpX.here ⟨_, .cons (.tmp _ _ rfl) (.cons (.tmp _ _ rfl) .nil), _, .cons .p0 (.cons .p0 .nil), ⟨b_0x4, rfl, rfl⟩⟩
  · refine have h := iteF hc h; tK <| tSR <| rM rfl rfl <| rM rfl rfl <| rM rfl rfl <| bndE h fun v1 e1 h => t_call1 rfl (command_Office_aged_c e1) (CoL.refl _) (.cons .p0 (.cons .p0 .nil)) (fun _ => rfl) rfl fun b2 => rM rfl rfl <| t_call1 rfl (command_Office_keep_c rfl) (CoL.refl _) (.cons .p0 (.cons .p0 (.cons .p0 .nil))) (fun _ => rfl) rfl fun b3 => rN <| tSR <| rM rfl rfl <| ARun.qv (q_nilCheck_ptr rfl) rfl <| rF rfl rfl rfl <| rL rfl rfl .p0 rfl rfl <| bndE h fun v4 e2 h => t_call0 rfl (command_pending_c e2) (CoL.refl _) (.cons .p1 .nil) rfl rfl <| rA rfl rfl <| rA rfl rfl <| rN <| ATodo.ret <| ?_
    obtain rfl := Option.some.inj h
    exact ImpX.here ⟨_, .cons (.tmp _ _ rfl) (.cons (.tmp _ _ rfl) .nil), _, .cons .p1 (.cons .p0 .nil), ⟨b3, rfl, rfl⟩⟩

set_option maxHeartbeats 4000000 in
theorem L_posted_c {r : Bool} (h : L_posted = some r) : Pu Tryz.prog 34 [] (.bool r) := by
  unfold L_posted at h
  refine ACall.bodyN Tryz.func34 rfl Tryz.ntmps34 Tryz.results34 rfl rfl ?_
  refine tSR <| rA rfl rfl <| rN <| tSR <| ARun.qv (n_build rfl rfl rfl rfl rfl) rfl <| optE h (fun e1 h => ?_) (fun x1 e1 h => ?_)
  · refine have cM5 := TM_none e1 (command_New_c (rfl : command_New (⟨(1 : Int), (1 : Int), (1 : Int), (0 : Int)⟩ : Post) = _)); t_call0 rfl cM5 (CoL.refl _) .nil rfl rfl <| rM rfl rfl <| rX rfl rfl rfl <| rX rfl rfl rfl <| rA rfl rfl <| rA rfl rfl <| rN <| tS <| tS <| ATodo.cut (fun σ' => L_posted_j1 = some r ∧ σ' = ⟨32, [(1, .raw (.pointer none)), (20, .bool true)], []⟩) ?_ ?_
    · refine tR <| rM rfl rfl <| ARun.qv (q_neq rfl rfl) rfl <| rM rfl rfl <| ARun.guard_df rfl rfl rfl (fun hc => ?_) (fun hc => ?_)
      · exact have h := iteF hc h; rM rfl rfl <| rY rfl rfl rfl <| ARun.qv (q_ppneql rfl rfl) rfl <| rE rfl rfl rfl <| rM rfl rfl <| rG rfl rfl rfl rfl <| rG rfl rfl rfl rfl <| rG rfl rfl rfl rfl <| rG rfl rfl rfl rfl <| rT rfl rfl rfl <| rN <| ATodo.stop <| ImpX.lq [] ⟨h, rfl⟩ rfl rfl
      · exact have h := iteT hc h; rG rfl rfl rfl rfl <| rT rfl rfl rfl <| rM rfl rfl <| rG rfl rfl rfl rfl <| rG rfl rfl rfl rfl <| rG rfl rfl rfl rfl <| rG rfl rfl rfl rfl <| rT rfl rfl rfl <| rN <| ATodo.stop <| ImpX.lq [] ⟨h, rfl⟩ rfl rfl
    · rintro σ' ⟨h, rfl⟩
      unfold L_posted_j1 at h
      refine ATodo.cond_t rfl <| tSR <| rA rfl rfl <| rN <| ATodo.ret <| ?_
      obtain rfl := Option.some.inj h
      exact ImpX.here ⟨_, .cons (.tmp _ _ rfl) .nil, rfl⟩
  · refine have cM6 := TM_some e1 (command_New_c (rfl : command_New (⟨(1 : Int), (1 : Int), (1 : Int), (0 : Int)⟩ : Post) = _)); t_call2 rfl cM6 (CoL.refl _) .nil (fun _ _ => rfl) rfl fun b2 b3 => rM rfl rfl <| rX rfl rfl rfl <| rX rfl rfl rfl <| rA rfl rfl <| rA rfl rfl <| rN <| tS <| tS <| ATodo.cut (fun σ' => ∃ (b8 : Bk) (n4 : Int) (n5 : Int) (n6 : Int) (n7 : Int) (l9 : List (Str × Note)) (n10 : Int) (c11 : Bool), L_posted_j2 n4 n5 n6 n7 l9 n10 c11 = some r ∧ σ' = ⟨32, [(1, .ptr b2 0), (20, .bool c11)], [(b2, .cells [I n4, I n5, I n6, I n7, .mref b8, I n10]), (b8, .mp (l9.map (fun e => (AV.str e.1, Note.av e.2))))]⟩) ?_ ?_
    · refine tR <| rM rfl rfl <| ARun.qv (q_neq rfl rfl) rfl <| rM rfl rfl <| ARun.guard_df rfl rfl rfl (fun hc => ?_) (fun hc => ?_)
      · exact have h := iteF hc h; rM rfl rfl <| rY rfl rfl rfl <| ARun.qv (q_ppeql rfl rfl) rfl <| rE rfl rfl rfl <| rM rfl rfl <| rY rfl rfl rfl <| rM rfl rfl <| rY rfl rfl rfl <| ARun.qv (n_build rfl rfl rfl rfl rfl) rfl <| rY rfl rfl rfl <| bndE h fun v12 e2 h => t_call1 rfl (command_Office_Put_c e2) (CoL.refl _) (.cons .p0 (.cons .p0 .nil)) (fun _ => rfl) rfl fun b13 => rY rfl rfl rfl <| ARun.qv (q_neq rfl rfl) rfl <| rE rfl rfl rfl <| rN <| ATodo.stop <| ImpX.lq [0, 0] ⟨b13, v12.2.post_.Room, v12.2.post_.Timeout, v12.2.post_.Tries, v12.2.post_.Kept, v12.2.notes_, v12.2.time_, decide (v12.1 ≠ (0 : Int)), h, rfl⟩ rfl rfl
      · exact have h := iteT hc h; rG rfl rfl rfl rfl <| rT rfl rfl rfl <| rM rfl rfl <| rG rfl rfl rfl rfl <| rG rfl rfl rfl rfl <| rG rfl rfl rfl rfl <| rG rfl rfl rfl rfl <| rT rfl rfl rfl <| rN <| ATodo.stop <| ImpX.lq [0, 0] ⟨b3, x1.post_.Room, x1.post_.Timeout, x1.post_.Tries, x1.post_.Kept, x1.notes_, x1.time_, true, h, rfl⟩ rfl rfl
    · rintro σ' ⟨b8, n4, n5, n6, n7, l9, n10, c11, h, rfl⟩
      unfold L_posted_j2 at h
      refine ATodo.cond rfl (fun hc => ?_) (fun hc => ?_)
      · refine have h := iteT hc h; tSR <| rA rfl rfl <| rN <| ATodo.ret <| ?_
        obtain rfl := Option.some.inj h
        exact ImpX.here ⟨_, .cons (.tmp _ _ rfl) .nil, rfl⟩
      · refine have h := iteFb hc h; tK <| tSR <| rM rfl rfl <| bndE h fun v14 e3 h => t_call1 rfl (command_Office_Waiting_c e3) (CoL.refl _) (.cons .p0 (.cons .p0 .nil)) (fun _ => rfl) rfl fun b15 => rM rfl rfl <| rX rfl rfl rfl <| rX rfl rfl rfl <| rA rfl rfl <| rA rfl rfl <| rN <| tS <| ATodo.cut (fun σ' => ∃ (c16 : Bool), L_posted_j3 c16 = some r ∧ σ' = ⟨32, [(0, .bool c16)], []⟩) ?_ ?_
        · refine tR <| rM rfl rfl <| ARun.qv (q_eql rfl rfl) rfl <| rM rfl rfl <| ARun.guard_dt rfl rfl rfl (fun hc => ?_) (fun hc => ?_)
          · rw [andTd hc] at h
            exact rM rfl rfl <| rY rfl rfl rfl <| ARun.qv (q_eql rfl rfl) rfl <| rT rfl rfl rfl <| rA rfl rfl <| rN <| ATodo.stop <| ImpX.lq [] ⟨decide (v14.1 = (1 : Int)), h, rfl⟩ rfl rfl
          · rw [andFd hc] at h
            exact rG rfl rfl rfl rfl <| rE rfl rfl rfl <| rA rfl rfl <| rN <| ATodo.stop <| ImpX.lq [] ⟨false, h, rfl⟩ rfl rfl
        · rintro σ' ⟨c16, h, rfl⟩
          unfold L_posted_j3 at h
          refine ATodo.ret <| ?_
          obtain rfl := Option.some.inj h
          exact ImpX.here ⟨_, .cons (.tmp _ _ rfl) .nil, rfl⟩

set_option maxHeartbeats 4000000 in
theorem L_NoteTexts_c {p0x0 : List Int} {r : Bool} (h : L_NoteTexts p0x0 = some r) : Pu Tryz.prog 5 [.list 1 (p0x0.map I)] (.bool r) := by
  unfold L_NoteTexts at h
  refine ACall.bodyN Tryz.func5 rfl Tryz.ntmps5 Tryz.results5 rfl rfl ?_
  refine tSR <| rA rfl rfl <| rN <| tSR <| rM rfl rfl <| ARun.qv (n_build rfl rfl rfl rfl rfl) rfl <| n_box rfl rfl rfl rfl fun b1 => rA rfl rfl <| rN <| tSR <| rM rfl rfl <| bndE h fun v2 e1 h => t_call1 rfl (Stream_Notes_c e1) (CoL.refl _) (.cons .p0 .nil) (fun _ => rfl) rfl fun b3 => rM rfl rfl <| bndE h fun v4 e2 h => t_call0 rfl (Stream_NoteText_c e2) (CoL.refl _) (.cons .p0 .nil) rfl rfl <| rA rfl rfl <| rA rfl rfl <| rN <| tSR <| rM rfl rfl <| bndE h fun v5 e3 h => r_callpB rfl (command_Text_c e3) (.cons (CoB.arrT .p1) .nil) rfl rfl <| rM rfl rfl <| rX rfl rfl rfl <| rX rfl rfl rfl <| rA rfl rfl <| rA rfl rfl <| rN <| tSR <| rM rfl rfl <| bndE h fun v6 e4 h => r_callpB rfl (Q_NotesFault_c e4) (.cons (CoB.arrT .p1) .nil) rfl rfl <| rA rfl rfl <| rA rfl rfl <| rN <| tS <| tSR <| rM rfl rfl <| ARun.qv (q_eql rfl rfl) rfl <| rN <| ATodo.cut (fun σ' => ∃ (q7 : Str), L_NoteTexts_j1 v4 v5 v6 q7 = some r ∧ σ' = ⟨72, [(5, .str v4.1), (6, .str v5.1), (7, I v5.2), (8, I v6), (9, .str q7)], []⟩) ?_ ?_
  · refine ATodo.cond_d rfl (fun hc => ?_) (fun hc => ?_)
    · exact have h := iteT hc h; tR <| rM rfl rfl <| bndE h fun v8 e5 h => r_callpB rfl (Q_NoteLines_c e5) (.cons (CoB.arrT .p1) .nil) rfl rfl <| rA rfl rfl <| rN <| ATodo.stop <| ImpX.lq [] ⟨v8, h, rfl⟩ rfl rfl
    · exact have h := iteF hc h; tK <| ATodo.stop <| ImpX.lq [] ⟨([] : Str), h, rfl⟩ rfl rfl
  · rintro σ' ⟨q7, h, rfl⟩
    unfold L_NoteTexts_j1 at h
    refine tSR <| rM rfl rfl <| bndE h fun v9 e6 h => t_call1 rfl (command_Read_c e6) (CoL.refl _) .nil (fun _ => rfl) rfl fun b10 => rM rfl rfl <| rX rfl rfl rfl <| rX rfl rfl rfl <| rX rfl rfl rfl <| rA rfl rfl <| rA rfl rfl <| rA rfl rfl <| rN <| tSR <| rM rfl rfl <| bndE h fun v11 e7 h => t_call1 rfl (Q_NotesRead_c e7) (CoL.refl _) .nil (fun _ => rfl) rfl fun b12 => rM rfl rfl <| rX rfl rfl rfl <| rX rfl rfl rfl <| rX rfl rfl rfl <| rA rfl rfl <| rA rfl rfl <| rA rfl rfl <| rN <| tS <| ATodo.cut (fun σ' => ∃ (c13 : Bool), L_NoteTexts_j2 c13 = some r ∧ σ' = ⟨72, [(2, .bool c13)], []⟩) ?_ ?_
    · refine tR <| rM rfl rfl <| rM rfl rfl <| ARun.qv (q_eql rfl rfl) rfl <| rM rfl rfl <| ARun.guard_dt rfl rfl rfl (fun hc => ?_) (fun hc => ?_)
      · refine have h := iteT hc h; rM rfl rfl <| rY rfl rfl rfl <| rM rfl rfl <| rY rfl rfl rfl <| ARun.qv (q_seq rfl rfl) rfl <| rT rfl rfl rfl <| rM rfl rfl <| ARun.guard_dt rfl rfl rfl (fun hc => ?_) (fun hc => ?_)
        · refine have h := iteT hc h; rM rfl rfl <| rY rfl rfl rfl <| rM rfl rfl <| rY rfl rfl rfl <| bndE h fun v14 e8 h => r_callpB rfl (slices_Equal_Note_Note_c e8) (.cons (CoB.arrT .p1) (.cons (CoB.arrT .p0) .nil)) rfl rfl <| rT rfl rfl rfl <| rM rfl rfl <| ARun.guard rfl rfl rfl (fun hc => ?_) (fun hc => ?_)
          · refine have h := iteT hc h; rM rfl rfl <| rY rfl rfl rfl <| rM rfl rfl <| rY rfl rfl rfl <| ARun.qv (q_eql rfl rfl) rfl <| rT rfl rfl rfl <| rM rfl rfl <| ARun.guard_dt rfl rfl rfl (fun hc => ?_) (fun hc => ?_)
            · refine have h := iteT hc h; rM rfl rfl <| rY rfl rfl rfl <| rM rfl rfl <| rY rfl rfl rfl <| ARun.qv (q_eql rfl rfl) rfl <| rT rfl rfl rfl <| rM rfl rfl <| ARun.guard_dt rfl rfl rfl (fun hc => ?_) (fun hc => ?_)
              · exact have h := iteT hc h; bndE h fun v15 e9 h => r_callp rfl (L_posted_c e9) (CoL.refl _) rfl <| rT rfl rfl rfl <| rA rfl rfl <| rN <| ATodo.stop <| ImpX.lq [] ⟨v15, h, rfl⟩ rfl rfl
              · exact have h := iteF hc h; rE rfl rfl rfl <| rA rfl rfl <| rN <| ATodo.stop <| ImpX.lq [] ⟨false, h, rfl⟩ rfl rfl
            · exact have h := iteF hc h; rG rfl rfl rfl rfl <| rG rfl rfl rfl rfl <| rE rfl rfl rfl <| rM rfl rfl <| rG rfl rfl rfl rfl <| rE rfl rfl rfl <| rA rfl rfl <| rN <| ATodo.stop <| ImpX.lq [] ⟨false, h, rfl⟩ rfl rfl
          · exact have h := iteFb hc h; rG rfl rfl rfl rfl <| rG rfl rfl rfl rfl <| rE rfl rfl rfl <| rM rfl rfl <| rG rfl rfl rfl rfl <| rG rfl rfl rfl rfl <| rG rfl rfl rfl rfl <| rE rfl rfl rfl <| rM rfl rfl <| rG rfl rfl rfl rfl <| rE rfl rfl rfl <| rA rfl rfl <| rN <| ATodo.stop <| ImpX.lq [] ⟨false, h, rfl⟩ rfl rfl
        · exact have h := iteF hc h; rG rfl rfl rfl rfl <| rG rfl rfl rfl rfl <| rE rfl rfl rfl <| rM rfl rfl <| rG rfl rfl rfl rfl <| rG rfl rfl rfl rfl <| rG rfl rfl rfl rfl <| rE rfl rfl rfl <| rM rfl rfl <| rG rfl rfl rfl rfl <| rG rfl rfl rfl rfl <| rG rfl rfl rfl rfl <| rE rfl rfl rfl <| rM rfl rfl <| rG rfl rfl rfl rfl <| rE rfl rfl rfl <| rA rfl rfl <| rN <| ATodo.stop <| ImpX.lq [] ⟨false, h, rfl⟩ rfl rfl
      · exact have h := iteF hc h; rG rfl rfl rfl rfl <| rG rfl rfl rfl rfl <| rE rfl rfl rfl <| rM rfl rfl <| rG rfl rfl rfl rfl <| rG rfl rfl rfl rfl <| rG rfl rfl rfl rfl <| rE rfl rfl rfl <| rM rfl rfl <| rG rfl rfl rfl rfl <| rG rfl rfl rfl rfl <| rG rfl rfl rfl rfl <| rE rfl rfl rfl <| rM rfl rfl <| rG rfl rfl rfl rfl <| rG rfl rfl rfl rfl <| rG rfl rfl rfl rfl <| rE rfl rfl rfl <| rM rfl rfl <| rG rfl rfl rfl rfl <| rE rfl rfl rfl <| rA rfl rfl <| rN <| ATodo.stop <| ImpX.lq [] ⟨false, h, rfl⟩ rfl rfl
    · rintro σ' ⟨c13, h, rfl⟩
      unfold L_NoteTexts_j2 at h
      refine ATodo.ret <| ?_
      obtain rfl := Option.some.inj h
      exact ImpX.here ⟨_, .cons (.tmp _ _ rfl) .nil, rfl⟩

end Go.Proofs.YtlhoigimdehaeaaGreatDoor

